/- The program's operations on plain typed data, that the machine does the same, what the functions come to, and what they give (part 5). No condition. -/
import Derived.Test.YtkoifikjfnbcpaaEA44
set_option linter.unusedVariables false
set_option linter.unusedSimpArgs false
namespace Go.Proofs.YtkoifikjfnbcpaaEv
open Go Go.RowKit Go.Proofs
def foldM27 (g : G70h) : List poly.den → Int → Option (List poly.den × Int)
  | [], k => some ([], k)
  | x :: r, k => match g (x.2.2.1, wr1 (wr1 k), ()) with
    | some y => (match foldM27 g r y.2.1 with | some z => some ((k, wr1 k, y.1, ()) :: z.1, z.2) | none => none)
    | none => none
structure I27 (w0 : World) (ba : List Nat) (hd : Value) (g : G70h) (N : Nat) (y : List poly.den × Int) (a : Act) (w : World) (pre suf : List poly.den) (k : Int) (f : Nat → Value) : Prop where
  at_ : AtV 34 f a
  f0 : f 0 = hd
  f1 : f 1 = .int .i64 k
  f5 : f 5 = .int .i64 pre.length
  wk : (Lit.int .i64 k).wf = true
  nst : Nst w0 ba 58 poly hd (pre ++ suf) w
  len : (pre ++ suf).length = N
  run : ∃ z, foldM27 g suf k = some z ∧ (pre ++ z.1, z.2) = y
section
variable {w0 : World} {ba : List Nat} {hd : Value} {g : G70h} {N : Nat} {y : List poly.den × Int}
theorem reg27_8 {a : Act} {w : World} {pre suf : List poly.den} {x : poly.den} {k : Int} {f : Nat → Value} {yx : Ress [.slice 135 term, i64]} {Q : Exit → Act → World → Prop} (k70 : KOne Try.prog 70 ⟨[.v (.slice 135 term), .v i64], [.slice 135 term, i64], false, false, 1, g⟩)
    (hA : AtV 34 f a) (f0 : f 0 = hd) (f1 : f 1 = .int .i64 k) (f5 : f 5 = .int .i64 pre.length) (wk : (Lit.int .i64 k).wf = true)
    (n1 : Nst w0 ba 58 poly hd (pre ++ x :: suf) w) (hyx : g (x.2.2.1, k, ()) = some yx)
    (hQ : ∀ a' w' f', AtV 34 f' a' → f' 0 = hd → f' 1 = .int .i64 yx.2.1 → f' 5 = .int .i64 pre.length → (Lit.int .i64 yx.2.1).wf = true → Nst w0 ba 58 poly hd (pre ++ (x.1, x.2.1, yx.1, ()) :: suf) w' → Q .normal a' w') : (Code.region 8 (o27 8) false).wp Try.prog Q a w := by
  obtain ⟨b, o, cap, c, e', be, r1, r2, r3, r4, r5, r6, r7, r8, fin⟩ := n1.elem (by decide)
  have three : (poly).size = 3 := rfl
  rw [three] at r3 r4
  obtain ⟨v, c1, c2, c3, c4⟩ := rdPoly.1 r4
  have v4 := c4
  obtain ⟨v', blkv, bsv, v1, v2, v3⟩ := v4
  injection v1 with v1 _
  subst v1
  have hcv : c[o + pre.length * 3 + 2]? = some v := by
    have : ((c.toList.drop (o + pre.length * 3)).take 3)[2]? = some v := by rw [c1]; rfl
    rw [List.getElem?_take_of_lt (by omega), List.getElem?_drop, Array.getElem?_toList] at this
    exact this
  refine wp_region ?_
  rw [rg27_8]
  obtain ⟨o0, o0a, o0b, o0c, o0d⟩ := q27_8_0
  obtain ⟨o1, o1a, o1b, o1c, o1d⟩ := q27_8_1
  obtain ⟨o2, o2a, o2b, o2c, o2d⟩ := q27_8_2
  obtain ⟨o3, o3a, o3b, o3c, o3d⟩ := q27_8_3
  obtain ⟨o4, o4a, o4b, o4c, o4d⟩ := q27_8_4
  obtain ⟨o5, o5a, o5b, o5c, o5d⟩ := q27_8_5
  obtain ⟨of, cf, zf, f1a, f1b, f1e, f1f, f1g, f1c, f1d⟩ := q27_8_6
  obtain ⟨o7, o7a, o7b, o7c, o7d⟩ := q27_8_7
  refine wpOps_cons o0a o0d (upon_val (v := hd) (w' := w) (by simp only [execOp, o0b, show a.eval (.tmp 0) = hd from hA.ev.trans f0, Sem.run_pure]) ?_)
  rw [o0c]
  have p1 := hA.put (d := 26) (by omega) hd
  generalize a.put (some 26) hd = a2 at p1 ⊢
  refine wpOps_cons o1a o1d (upon_val (v := .int .i64 pre.length) (w' := w) (by simp only [execOp, o1b, show a2.eval (.tmp 5) = .int .i64 pre.length from p1.ev.trans f5, Sem.run_pure]) ?_)
  rw [o1c]
  have p2 := p1.put (d := 27) (by omega) (.int .i64 pre.length)
  generalize a2.put (some 27) (.int .i64 pre.length) = a3 at p2 ⊢
  have ri := run_indexS (P := Try.prog) tt_ok (tt_ok 37 polys (by kernel_rfl)) (w := w) (b := b) (o := o) (m := (pre ++ x :: suf).length) (cap := cap) (kk := .i64) (i := pre.length) (by simp)
  rw [three, ← r1] at ri
  refine wpOps_cons o2a o2d (upon_val (v := .pointer (some ⟨b, o + pre.length * 3, none⟩)) (w' := w) (by
    simp only [execOp, o2b, show a3.eval (.tmp 26) = hd from p2.ev, show a3.eval (.tmp 27) = .int .i64 pre.length from p2.ev, Sem.run_bind, ri, Result.andThen_ok, Sem.run_pure]) ?_)
  rw [o2c]
  have p3 := p2.put (d := 28) (by omega) (.pointer (some ⟨b, o + pre.length * 3, none⟩))
  generalize a3.put (some 28) (.pointer (some ⟨b, o + pre.length * 3, none⟩)) = a4 at p3 ⊢
  have rf := run_fieldAt (P := Try.prog) (w := w) (b := b) (o := o + pre.length * 3) (j := 2) (u := .slice 135 term) tt_ok (tt_ok 58 poly (by kernel_rfl)) rfl rfl
  rw [show poff poly [.fld 2] = 2 from rfl] at rf
  refine wpOps_cons o3a o3d (upon_val (v := .pointer (some ⟨b, o + pre.length * 3 + 2, none⟩)) (w' := w) (by
    simp only [execOp, o3b, show a4.eval (.tmp 28) = .pointer (some ⟨b, o + pre.length * 3, none⟩) from p3.ev, Sem.run_bind, rf, Result.andThen_ok, Sem.run_pure]) ?_)
  rw [o3c]
  have p4 := p3.put (d := 29) (by omega) (.pointer (some ⟨b, o + pre.length * 3 + 2, none⟩))
  generalize a4.put (some 29) (.pointer (some ⟨b, o + pre.length * 3 + 2, none⟩)) = a5 at p4 ⊢
  have rl := run_loadS (P := Try.prog) (tt_ok 56 (.slice 135 term) (by kernel_rfl)) (w := w) (b := b) (o := o + pre.length * 3 + 2) r2 hcv
  refine wpOps_cons o4a o4d (upon_val (v := v) (w' := w) (by
    simp only [execOp, o4b, show a5.eval (.tmp 29) = .pointer (some ⟨b, o + pre.length * 3 + 2, none⟩) from p4.ev, Sem.run_bind, rl, Result.andThen_ok, Sem.run_pure]) ?_)
  rw [o4c]
  have p5 := p4.put (d := 30) (by omega) v
  generalize a5.put (some 30) v = a6 at p5 ⊢
  refine wpOps_cons o5a o5d (upon_val (v := .int .i64 k) (w' := w) (by simp only [execOp, o5b, show a6.eval (.tmp 1) = .int .i64 k from p5.ev.trans f1, Sem.run_pure]) ?_)
  rw [o5c]
  have p6 := p5.put (d := 31) (by omega) (.int .i64 k)
  generalize a6.put (some 31) (.int .i64 k) = a7 at p6 ⊢
  obtain ⟨fn, h1, h2, h3⟩ := k70.fn
  refine wpOps_cons f1a f1d ?_
  unfold Oper.wp
  rw [run_enter2 f1b f1e (isF_ev f1f a7) f1g h1 h2 h3]
  simp only [Oper.upon]
  have e15 : a7.eval (.tmp 30) = v := p6.ev
  have e16 : a7.eval (.tmp 31) = .int .i64 k := p6.ev
  rw [e15, e16]
  have hcvv : v.cells = #[v] := by
    rcases v2 with ⟨p, q, _⟩ | ⟨_, _, _, _, _, q, _⟩ <;> rw [q] <;> rfl
  have hone : OneV w.heap (.slice 135 term) x.2.2.1 v be := ⟨⟨v, blkv, bsv, by rw [hcvv], v2, v3⟩, fun q => (by cases q), fun _ => hcvv⟩
  have hav : ArgsV w.heap [.v (.slice 135 term), .v i64] (x.2.2.1, k, ()) [v, .int .i64 k] be :=
    ⟨_, _, be, [], rfl, by simp, hone, _, _, [], [], rfl, rfl, one_int wk, rfl, rfl⟩
  have call := k70.inp rfl (x.2.2.1, k, ()) yx hyx w _ be hav r5 (fun b hb => n1.wr b (r6 b hb))
  refine call.mono ?_
  rintro ee w2 ⟨v0', rv, bf, z1, rfl, z2, ⟨zn, zs⟩, z3, z4, z5, z6, z7, z8⟩
  simp only [List.head?_cons, Option.some.injEq] at z1
  subst z1
  obtain ⟨u1, ur, ub1, ub2, y1, y2, _, y3, y4⟩ := z2
  simp only [List.cons.injEq] at y1
  obtain ⟨y1a, y1b⟩ := y1
  subst y1a; subst y1b
  obtain ⟨u2, ur2, ub3, ub4, y5, y6, _, y7, y8⟩ := y3
  obtain ⟨y7a, y7b⟩ := y7
  subst y7a; subst y5; subst y7b; subst y8; subst y4
  have hk2 : u2 = .int .i64 yx.2.1 ∧ (Lit.int .i64 yx.2.1).wf = true ∧ ub3 = [] := by
    obtain ⟨⟨c1, c2, c3⟩, _, c4⟩ := y6
    rw [c4 rfl] at c1
    exact ⟨by simpa using c1, c2, c3⟩
  obtain ⟨hk2, wk2, hb3⟩ := hk2
  subst hk2; subst hb3
  simp only [List.append_nil] at zn zs
  show wpOps _ _ _ _ _ _
  rw [f1c]
  show wpOps _ _ _ _ (a7.put (some 32) (.int .i64 yx.2.1)) _
  have p7 := p6.put (d := 32) (by omega) (.int .i64 yx.2.1)
  generalize a7.put (some 32) (.int .i64 yx.2.1) = a8 at p7 ⊢
  refine wpOps_cons o7a o7d (upon_val (v := .int .i64 yx.2.1) (w' := w2) (by simp only [execOp, o7b, show a8.eval (.tmp 32) = .int .i64 yx.2.1 from p7.ev, Sem.run_pure]) ?_)
  rw [o7c]
  have p8 := p7.put (d := 1) (by omega) (.int .i64 yx.2.1)
  generalize a8.put (some 1) (.int .i64 yx.2.1) = a9 at p8 ⊢
  have hb2 : w2.heap[b]? = some (.cells c e' (0, 0)) := by
    rw [z7 b (Nat.lt_of_lt_of_le (n1.lt b r8) n1.size) r7]; exact r2
  have n2 : Nst w0 ba 58 poly hd (pre ++ (x.1, x.2.1, yx.1, ()) :: suf) w2 := by
    refine fin w2 (x.1, x.2.1, yx.1, ()) c ub1 hb2 rfl (fun _ _ => rfl) ?_ zn zs z3 z4 z5 z6 (fun z hz hn _ => z7 z hz hn) z8
    rw [three, c1]
    obtain ⟨⟨hd3, blk3, bs3, w1', w2', w3'⟩, _, _⟩ := y2
    rw [hcvv] at w1'
    exact rdPoly.2 ⟨v, rfl, c2, c3, hd3, blk3, bs3, w1', w2', w3'⟩
  exact hQ a9 w2 _ p8 (show _ = hd from f0) (show _ = Value.int .i64 yx.2.1 from rfl) (show _ = Value.int .i64 (pre.length : Int) from f5) wk2 n2
theorem round27 {a : Act} {w : World} {pre suf : List poly.den} {k : Int} {f : Nat → Value} {Q : Exit → Act → World → Prop} (k70 : KOne Try.prog 70 ⟨[.v (.slice 135 term), .v i64], [.slice 135 term, i64], false, false, 1, g⟩) (hN : N ≤ 100000000)
    (I : I27 w0 ba hd g N y a w pre suf k f) (hQ : ∀ a' w' f', AtV 34 f' a' → f' 0 = hd → f' 1 = .int .i64 y.2 → (Lit.int .i64 y.2).wf = true → Nst w0 ba 58 poly hd y.1 w' → (∃ i, f' 5 = .int .i64 i ∧ (Lit.int .i64 i).wf = true) → Q (.exit 0) a' w') :
    loop27.wp Try.prog (Exit.then (fun a' w' => (∃ pre suf k f, I27 w0 ba hd g N y a' w' pre suf k f) ∧ mu28 N a' < mu28 N a) Q) a w := by
  have hl := I.len
  simp only [List.length_append] at hl
  have wi : (Lit.int .i64 (pre.length : Int)).wf = true := wf_i (by omega) (by omega)
  have st := rawSt I.at_ I.f0 I.f1 I.f5 I.wk wi I.nst
  have hlen : decide (List.length (pre ++ suf) ≤ 9223372036854775807) = true := decide_eq_true (by rw [List.length_append]; omega)
  refine wp_seq (wp_seq (ev_wp (A := fun b => b ∈ ba) (ks := [0, 1, 5, 9]) mixed tt_ok KOK.nil (fun b hb => (by cases hb)) (oc27 2 (by simp) hd) trivial ((e27c (pre ++ suf) k pre.length).trans (by rw [hlen]; rfl)) st rfl fun a1 w1 g1 st1 A1 => ?_))
  have t0 : a1.tmps.getD 0 undef = hd := st1.sz.2 rfl
  have t1 : a1.tmps.getD 1 undef = .int .i64 k := (asI_inv (st1.ent 1) rfl).1
  have t5 : a1.tmps.getD 5 undef = .int .i64 pre.length := (asI_inv (st1.ent 5) rfl).1
  have t9 : a1.eval (.tmp 9) = .bool (decide ((pre.length : Int) < Int.ofNat (pre ++ suf).length)) := by
    have : EntR g1 w1.heap 9 (boolE (decide ((pre.length : Int) < Int.ofNat (pre ++ suf).length))) (a1.tmps.getD 9 undef) := st1.ent 9
    obtain ⟨bs4, hl4, _⟩ := val1 this
    obtain ⟨⟨z, _⟩, _⟩ := hl4
    injection z
  have n1 := I.nst.of_St st1
  have at1 : AtV 34 _ a1 := st1.atV
  show Code.wp _ _ _ _ _
  cases suf with
  | nil =>
    have t9 : a1.eval (.tmp 9) = .bool false := by rw [t9]; congr 1; exact decide_eq_false (by simp)
    refine wp_cond (t := false) t9 (wp_exit ?_)
    obtain ⟨z, hz, hy⟩ := I.run
    simp only [foldM27, Option.some.injEq] at hz
    subst hz
    subst hy
    rw [List.append_nil] at n1
    exact hQ a1 w1 _ at1 t0 t1 I.wk (by show Nst w0 ba 58 poly hd (pre ++ []) w1; rw [List.append_nil]; exact n1) ⟨_, t5, wi⟩
  | cons x suf =>
    have t9 : a1.eval (.tmp 9) = .bool true := by rw [t9]; congr 1; exact decide_eq_true (by simp; omega)
    refine wp_cond (t := true) t9 (wp_skip ?_)
    show Code.wp _ _ _ _ _
    obtain ⟨z, hz, hy⟩ := I.run
    simp only [foldM27] at hz
    split at hz
    · rename_i yx hyx
      split at hz
      · rename_i zr hzr
        injection hz with hz; subst hz
        have w1k : (Lit.int .i64 (wr1 k)).wf = true := wrap_wf _ _
        have w2k : (Lit.int .i64 (wr1 (wr1 k))).wf = true := wrap_wf _ _
        refine wp_seq (wp_block (wp_seq (reg27_4 at1 t0 t1 t5 I.wk n1 fun b1 u1 h1 bt1 bf0 bf1 bf5 m1 => ?_)))
        show Code.wp _ _ _ _ _
        have sa := rawSt bt1 bf0 bf1 bf5 I.wk wi m1
        refine wp_seq (ev_wp (A := fun b => b ∈ ba) (ks := [0, 1, 5]) mixed tt_ok KOK.nil (fun b hb => (by cases hb)) (oc27 5 (by simp) hd) trivial (e27f _ k pre.length) sa rfl fun b2 u2 h2 sb B2 => ?_)
        show Code.wp _ _ _ _ _
        refine wp_seq (reg27_6 (sb.atV : AtV 34 _ b2) (sb.sz.2 rfl) (asI_inv (sb.ent 1) rfl).1 (asI_inv (sb.ent 5) rfl).1 w1k (m1.of_St sb) fun b3 u3 h3 bt3 cf0 cf1 cf5 m3 => ?_)
        show Code.wp _ _ _ _ _
        have sc := rawSt bt3 cf0 cf1 cf5 w1k wi m3
        refine wp_seq (ev_wp (A := fun b => b ∈ ba) (ks := [0, 1, 5]) mixed tt_ok KOK.nil (fun b hb => (by cases hb)) (oc27 7 (by simp) hd) trivial (e27g _ (wr1 k) pre.length) sc rfl fun b4 u4 h4 sd B4 => ?_)
        show Code.wp _ _ _ _ _
        refine reg27_8 (x := setF 1 (setF 0 x k) (wr1 k)) k70 (sd.atV : AtV 34 _ b4) (sd.sz.2 rfl) (asI_inv (sd.ent 1) rfl).1 (asI_inv (sd.ent 5) rfl).1 w2k (m3.of_St sd) hyx fun a8 w2 h5 p7 df0 df1 df5 wk2 n2 => ?_
        show Code.wp _ _ _ _ _
        have st2 := rawSt p7 df0 df1 df5 wk2 wi n2
        refine ev_wp (A := fun b => b ∈ ba) (ks := [0, 1, 5]) mixed tt_ok KOK.nil (fun b hb => (by cases hb)) (oc27 3 (by simp) hd) trivial (e27d _ yx.2.1 pre.length) st2 rfl fun a9 w9 g9 st9 A9 => ?_
        have s0 : a9.tmps.getD 0 undef = hd := st9.sz.2 rfl
        have s1 : a9.tmps.getD 1 undef = .int .i64 yx.2.1 := (asI_inv (st9.ent 1) rfl).1
        have s5 : a9.tmps.getD 5 undef = .int .i64 (IntKind.i64.wrap (pre.length + 1)) := (asI_inv (st9.ent 5) rfl).1
        have hwr : IntKind.i64.wrap ((pre.length : Int) + 1) = ((pre.length + 1 : Nat) : Int) := by
          simp only [List.length_cons] at hl
          simp [IntKind.wrap, IntKind.bits, IntKind.signed]; split <;> omega
        rw [hwr] at s5
        have n9 := n2.of_St st9
        simp only [List.length_cons] at hl
        refine ⟨⟨pre ++ [(k, wr1 k, yx.1, ())], suf, yx.2.1, _, st9.atV, s0, s1, ?_, wk2, ?_, ?_, zr, hzr, ?_⟩, ?_⟩
        · show a9.tmps.getD 5 undef = _
          rw [s5]; simp
        · rw [List.append_assoc]; exact n9
        · simp; omega
        · rw [← hy]; simp
        · have : mu28 N a = N - pre.length := by
            unfold mu28
            rw [I.at_.at_, I.f5]; simp only; omega
          have m9 : mu28 N a9 = N - (pre.length + 1) := by unfold mu28; rw [s5]; simp only; omega
          rw [this, m9]; omega
      · cases hz
    · cases hz
theorem one27 {cf : G27h} (k70 : KOne Try.prog 70 ⟨[.v (.slice 135 term), .v i64], [.slice 135 term, i64], false, false, 1, g⟩)
    (h : ∀ x y, cf x = some y → (show List poly.den from x.1).length ≤ 100000000 ∧ ∃ z, foldM27 g x.1 x.2.1 = some z ∧ y = (z.1, z.2, ())) : KOne Try.prog 27 ⟨[.v polys, .v i64], [polys, i64], false, false, 1, cf⟩ := by
  refine ⟨fun q => (by cases q), fun _ => ?_, fun q => (by cases q), Try.f27, Try.func27, by decide, rfl⟩
  intro x y hxy w vs ba hv hnd hw
  obtain ⟨L, k, _⟩ := x
  obtain ⟨hN, z, hz, rfl⟩ := h _ _ hxy
  replace hN : List.length (show List poly.den from L) ≤ 100000000 := hN
  have hv0 := hv
  obtain ⟨v0, r1, b1, b2, rfl, rfl, o1, v1, r2, b3, b4, rfl, rfl, o2, rfl, rfl⟩ := hv
  have hv1 : v1 = .int .i64 k ∧ (Lit.int .i64 k).wf = true ∧ b3 = [] := by
    obtain ⟨⟨c1, c2, c3⟩, _, c4⟩ := o2
    rw [c4 rfl] at c1
    exact ⟨by simpa using c1, c2, c3⟩
  obtain ⟨rfl, wk, rfl⟩ := hv1
  simp only [List.append_nil] at hnd hw hv0 ⊢
  obtain ⟨⟨hd, blk, bs, z1, z2, z3⟩, _, z4⟩ := o1
  have hc := z4 rfl
  have eh : hd = v0 := by rw [hc] at z1; injection z1 with z1 _; exact z1.symm
  subst eh
  have lt : ∀ b ∈ b1, b < w.heap.size := fun b hb => by
    obtain ⟨c, e, q⟩ := hw b hb
    rcases Nat.lt_or_ge b w.heap.size with q' | q'
    · exact q'
    · rw [Array.getElem?_eq_none q'] at q; cases q
  have n0 : Nst w b1 58 poly hd L w := ⟨⟨blk, bs, z2, by rw [← z3]; exact hnd, by rw [← z3]; exact fun z hz => hz⟩, rfl, Tp.refl, rfl, Nat.le_refl _, fun _ _ _ => rfl, hw, lt⟩
  have st0 := init_St (n := Try.f27.ntmps) hv0 (by rw [nt27]; decide)
  refine calls_of_wp Try.func27 sk27 ?_
  have stk : St ⟨34, true, hd⟩ w (fun _ => False) (gh0 w [hd, .int .i64 k] b1) (initEnv 0 [.v polys, .v i64] (L, k, ())).get { tmps := [hd, .int .i64 k].toArray ++ Array.replicate (Try.f27.ntmps - [hd, .int .i64 k].toArray.size) undef, defers := [] } w :=
    ⟨st0.inv, st0.ent, ⟨st0.sz.1.trans nt27, fun _ => by rw [Array.getD_eq_getD_getElem?, Array.getElem?_append_left (by simp)]; rfl⟩, st0.df, st0.os, st0.tape, st0.output⟩
  refine wp_seq (ev_wp (A := fun b => b ∈ b1) (ks := [0, 1]) mixed tt_ok KOK.nil (fun b hb => (by cases hb)) (oc27 0 (by simp) hd) trivial (e27a L k) stk rfl fun a1 w1 g1 st1 A1 => ?_)
  show Code.wp _ _ _ _ _
  refine wp_seq (wp_seq (ev_wp (A := fun b => b ∈ b1) (ks := [0, 1, 5]) mixed tt_ok KOK.nil (fun b hb => (by cases hb)) (oc27 1 (by simp) hd) trivial (e27b L k) st1 A1 fun a2 w2 g2 st2 A2 => ?_))
  show Code.wp _ _ _ _ _
  have n2 := n0.of_St st2
  have at2 : AtV 34 _ a2 := st2.atV
  have t0 : a2.tmps.getD 0 undef = hd := st2.sz.2 rfl
  have t1 : a2.tmps.getD 1 undef = .int .i64 k := (asI_inv (st2.ent 1) rfl).1
  have t5 : a2.tmps.getD 5 undef = .int .i64 0 := (asI_inv (st2.ent 5) rfl).1
  refine wp_block (wp_loop (fun a' w' => ∃ pre suf k f, I27 w b1 hd g (List.length (show List poly.den from L)) z a' w' pre suf k f) (fun a' _ => mu28 (List.length (show List poly.den from L)) a') ⟨[], L, k, _, at2, t0, t1, t5, wk, n2, rfl, z, hz, rfl⟩ fun a3 w3 hI => ?_)
  obtain ⟨pre, suf, k3, f3, I⟩ := hI
  refine round27 k70 hN I fun a4 w4 f4 at4 s0 s1 wk4 n4 s5 => ?_
  obtain ⟨i, s5, wi⟩ := s5
  show Code.wp _ _ _ _ _
  have st4 := rawSt at4 s0 s1 s5 wk4 wi n4
  refine wp_seq (ev_wp (A := fun b => b ∈ b1) (ks := [0, 1, 4]) mixed tt_ok KOK.nil (fun b hb => (by cases hb)) (oc27 9 (by simp) hd) trivial (e27e z.1 z.2 i) st4 rfl fun a5 w5 g5 st5 A5 => ?_)
  show Code.wp _ _ _ _ _
  have n5 := n4.of_St st5
  have u4 : a5.tmps.getD 4 undef = .int .i64 z.2 := (asI_inv (st5.ent 4) rfl).1
  refine wp_ret ?_
  have hres : (Try.f27.results.toList.mapM (resOne a5.tmps)).run Try.prog w5 = .ok [.int .i64 z.2] w5 := by rw [rs27, ← u4]; rfl
  refine ⟨st5.df, _, results_run hres, ?_⟩
  obtain ⟨blk5, bs5, y1, y2, y3⟩ := n5.rd
  exact ⟨hd, [.int .i64 z.2], blk5.toList ++ bs5, rfl, rfl, ⟨hd, _, _, [], rfl, ⟨⟨hd, blk5, bs5, by rw [hc], y1, rfl⟩, fun q => (by cases q), fun _ => hc⟩, fun q => (by cases q), ⟨_, [], [], [], rfl, one_int wk4, fun q => (by cases q), ⟨rfl, rfl⟩, rfl⟩, by simp⟩,
    ⟨y2, y3⟩, n5.os, n5.tp, n5.out, n5.size, n5.old, n5.wr⟩
end
abbrev Po : Type := poly.den
def tms (x : Po) : List term.den := x.2.2.1
def cf181 : G181 := fun x => some (x.1, ())
theorem k181 : KOne Try.prog 181 ⟨[.v ex], [ex], false, false, 0, cf181⟩ := ok181 .nil cf181 fun x y h => by
  obtain ⟨⟨a, b, c, u⟩, _⟩ := x
  injection h with h; subst h
  exact ⟨5, rfl⟩
def cf168 : G168 := fun x => some (x.1, ())
theorem k168 : KOne Try.prog 168 ⟨[.v lterm], [term], false, false, 0, cf168⟩ := ok168 _ (.cons k181 .nil) cf168 fun x y h => by
  obtain ⟨⟨a, b, u⟩, _⟩ := x
  injection h with h; subst h
  exact ⟨0, rfl⟩
theorem copy_setG {α : Type} {l : List α} {i : Nat} {d d' : α} (h : i < l.length) : (l.take i ++ List.replicate (l.length - i) d).set i (l.getD i d') = l.take (i + 1) ++ List.replicate (l.length - (i + 1)) d := by
  apply List.ext_getElem?
  intro j
  rw [List.getElem?_set]
  have hl : (l.take i).length = i := by simp; omega
  have hl2 : (l.take (i + 1)).length = i + 1 := by simp; omega
  by_cases q : i = j
  · subst q
    rw [if_pos rfl, if_pos (by simp; omega), List.getElem?_append_left (by omega), List.getElem?_take_of_lt (by omega), List.getD_eq_getElem?_getD, List.getElem?_eq_getElem h]; rfl
  · rw [if_neg q]
    rcases Nat.lt_or_ge j i with z | z
    · rw [List.getElem?_append_left (by omega), List.getElem?_append_left (by omega), List.getElem?_take_of_lt z, List.getElem?_take_of_lt (by omega)]
    · rw [List.getElem?_append_right (by omega), List.getElem?_append_right (by omega), hl, hl2, List.getElem?_replicate, List.getElem?_replicate]
      by_cases y : j < l.length
      · rw [if_pos (by omega), if_pos (by omega)]
      · rw [if_neg (by omega), if_neg (by omega)]
def cf136 : G136 := fun x => if (show List term.den from x.1).length ≤ 2000000 then some (x.1, ()) else none
theorem k136 : KOne Try.prog 136 ⟨[.v (.slice 158 lterm)], [.slice 135 term], true, false, 0, cf136⟩ := ok136 _ (.cons k168 .nil) cf136 fun x y h => by
  obtain ⟨l, _⟩ := x
  change List term.den at l
  simp only [cf136] at h
  split at h
  · rename_i hc
    injection h with h; subst h
    refine ⟨l.length + 1, ?_⟩
    simp only [fn136]
    rw [dln_t (by omega)]
    simp only [cond_true, ofn]
    rw [dle_t (by omega), dle_t (by omega)]
    simp only [decide_true, Bool.and_self, cond_true, tn_cast, ru136_3]
    refine iter_run (step := fun s k => st136_3 cf168 (l.length + 1) s k (fun s' => match s' with | ((t0, _), (t3, _), (t4, _), _) => (some (t3, ())))) (r := some (l, ())) l.length (l.length + 1) (fun i => ((l, ()), ((l.take i ++ List.replicate (l.length - i) (Ty.dflt term), ()), ((i : Int), ()), ()))) (by omega) (fun i hi k => ?_) (fun k => ?_)
    · have h1 : (l.take i ++ List.replicate (l.length - i) (Ty.dflt term)).length = l.length := by simp; omega
      have h2 := fun d' => copy_setG (d := Ty.dflt term) (d' := d') hi
      generalize hL : l.take i ++ List.replicate (l.length - i) (Ty.dflt term) = L at *
      simp (disch := omega) only [st136_3, dln_t, cond_true, ofn, dlt_t, ib_t, tn_cast, w6_id, cf168, h2]
      rfl
    · have h1 : l.take l.length ++ List.replicate (l.length - l.length) (Ty.dflt term) = l := by simp
      rw [h1]
      simp (disch := omega) only [st136_3, dln_t, cond_true, ofn, dlt_f, cond_false]
  · cases h
def cf66 : G66 := fun x => if (show List term.den from x.1.2.2.1).length ≤ 2000000 then some (x.1, ()) else none
theorem k66 : KOne Try.prog 66 ⟨[.v lpoly], [poly], true, false, 0, cf66⟩ := ok66 _ (.cons k136 .nil) cf66 fun x y h => by
  obtain ⟨⟨p, v, l, u⟩, _⟩ := x
  simp only [cf66] at h
  split at h
  · rename_i hc
    injection h with h; subst h
    refine ⟨0, ?_⟩
    have g : cf136 (l, ()) = some (l, ()) := if_pos hc
    simp only [fn66, g]
  · cases h
def smallP (L : List Po) : Prop := L.length ≤ 2000000 ∧ ∀ x ∈ L, (tms x).length ≤ 2000000
open Classical in
noncomputable def cf23 : G23 := fun x => if smallP x.1 then some (x.1, ()) else none
theorem k23 : KOne Try.prog 23 ⟨[.v (.slice 84 lpoly)], [.slice 58 poly], true, false, 0, cf23⟩ := ok23 _ (.cons k66 .nil) cf23 fun x y h => by
  obtain ⟨l, _⟩ := x
  change List Po at l
  simp only [cf23] at h
  split at h
  · rename_i hc
    injection h with h; subst h
    obtain ⟨hc, hx⟩ := hc
    have hc : l.length ≤ 2000000 := hc
    refine ⟨l.length + 1, ?_⟩
    simp only [fn23]
    rw [dln_t (by omega)]
    simp only [cond_true, ofn]
    rw [dle_t (by omega), dle_t (by omega)]
    simp only [decide_true, Bool.and_self, cond_true, tn_cast, ru23_3]
    refine iter_run (step := fun s k => st23_3 cf66 (l.length + 1) s k (fun s' => match s' with | ((t0, _), (t3, _), (t4, _), _) => (some (t3, ())))) (r := some (l, ())) l.length (l.length + 1) (fun i => ((l, ()), ((l.take i ++ List.replicate (l.length - i) (Ty.dflt poly), ()), ((i : Int), ()), ()))) (by omega) (fun i hi k => ?_) (fun k => ?_)
    · have h1 : (l.take i ++ List.replicate (l.length - i) (Ty.dflt poly)).length = l.length := by simp; omega
      have h2 := fun d' => copy_setG (d := Ty.dflt poly) (d' := d') hi
      have g : ∀ d', cf66 (l.getD i d', ()) = some (l.getD i d', ()) := fun d' => if_pos (hx _ (by rw [List.getD_eq_getElem?_getD, List.getElem?_eq_getElem hi]; exact List.getElem_mem hi))
      generalize hL : l.take i ++ List.replicate (l.length - i) (Ty.dflt poly) = L at *
      simp (disch := omega) only [st23_3, dln_t, cond_true, ofn, dlt_t, ib_t, tn_cast, w6_id]
      show (match cf66 (l.getD i (Ty.dflt lpoly), ()) with | some r10 => _ | none => none) = _
      rw [g]
      show k ((l, ()), ((L.set i (l.getD i (Ty.dflt lpoly)), ()), (((i : Int) + 1), ()), ())) = _
      rw [h2]
      rfl
    · have h1 : l.take l.length ++ List.replicate (l.length - l.length) (Ty.dflt poly) = l := by simp
      rw [h1]
      simp (disch := omega) only [st23_3, dln_t, cond_true, ofn, dlt_f, cond_false]
  · cases h
theorem g23_ok {L : List Po} (h : smallP L) : cf23 (L, ()) = some (L, ()) := if_pos h
def cf134 : G134 := fun x => if (show List term.den from x.1).length ≤ 9223372036854775807 ∧ 0 ≤ x.2.1 ∧ x.2.1 ≤ (1048576 : Int) then some (if x.2.1 - ((show List term.den from x.1).length : Int) < 0 then -1 else x.2.1 - ((show List term.den from x.1).length : Int), ()) else none
theorem k134 : KOne Try.prog 134 ⟨[.v (.slice 158 lterm), .v i64], [i64], false, false, 0, cf134⟩ := ok134 .nil cf134 fun x y h => by
  obtain ⟨l, k, _⟩ := x
  change List term.den at l
  change Int at k
  simp only [cf134] at h
  split at h
  · rename_i hc
    injection h with h; subst h
    obtain ⟨h1, h2, h3⟩ := hc
    have h2 : (0 : Int) ≤ k := h2
    have h3 : k ≤ (1048576 : Int) := h3
    refine ⟨0, ?_⟩
    simp only [fn134]
    rw [dln_t h1, cond_true]
    have hw := w6_id (x := k - (l.length : Int)) (by omega) (by omega)
    simp only [ofn, hw]
    by_cases q : k - (l.length : Int) < 0
    · rw [dlt_t q, if_pos q]; rfl
    · rw [dlt_f (by omega), if_neg q]; rfl
  · cases h
def cf63 : G63 := fun x => cf134 (x.1.2.2.1, x.2.1, ())
theorem k63 : KOne Try.prog 63 ⟨[.v lpoly, .v i64], [i64], false, false, 0, cf63⟩ := ok63 _ (.cons k134 .nil) cf63 fun x y h => by
  obtain ⟨⟨p, v, l, u⟩, k, _⟩ := x
  change List term.den at l
  change Int at k
  have h' : cf134 (l, k, ()) = some y := h
  refine ⟨0, ?_⟩
  show (match cf134 (l, k, ()) with | some r5 => (bif decide (r5.1 < (0 : Int)) then (some ((-(1 : Int)), ())) else (some (r5.1, ()))) | none => none) = _
  rw [h']
  simp only [cf134] at h'
  split at h'
  · injection h' with h'; subst h'
    by_cases q : k - (l.length : Int) < 0
    · rw [if_pos q]; rfl
    · rw [if_neg q]
      show (bif decide (k - (l.length : Int) < 0) then _ else _) = _
      rw [dlt_f (by omega)]; rfl
  · cases h'
def szR (k : Int) : List Po → Int
  | [] => k
  | x :: r => if k - ((tms x).length : Int) < 0 then -1 else szR (k - ((tms x).length : Int)) r
def totT : List Po → Nat
  | [] => 0
  | x :: r => (tms x).length + totT r
theorem szR_tot : ∀ {L : List Po} {k : Int}, 0 ≤ szR k L → (totT L : Int) ≤ k
  | [], k, h => by simp only [szR] at h; simpa [totT] using h
  | x :: r, k, h => by
    simp only [szR] at h
    split at h
    · omega
    · have := szR_tot h
      simp only [totT]; omega
theorem tot_mem : ∀ {L : List Po} {x : Po}, x ∈ L → (tms x).length ≤ totT L
  | y :: r, x, h => by
    simp only [totT]
    rcases List.mem_cons.1 h with rfl | h
    · omega
    · have := tot_mem h; omega
theorem run21 {F0 : Nat} : ∀ (r pre : List Po) (k : Int) (F : Nat), r.length < F → (pre ++ r).length ≤ 2000000 → (∀ x ∈ r, (tms x).length ≤ 9223372036854775807) → 0 ≤ k → k ≤ 1048576 →
    iter (fun s k => st21_5 cf63 F0 s k (fun s' => match s' with | ((t0, _), (t1, _), (t5, _), _) => (some (t1, ())))) F ((pre ++ r, ()), ((k, ()), (((pre.length : Int), ()), ()))) = some (szR k r, ())
  | [], pre, k, F, hF, hl, hx, h0, h1 => by
    obtain ⟨F, rfl⟩ : ∃ f, F = f + 1 := ⟨F - 1, by simp at hF; omega⟩
    rw [List.append_nil] at hl ⊢
    simp only [iter, st21_5]
    simp (disch := omega) only [dln_t, cond_true, ofn, dlt_f, cond_false]
    rfl
  | x :: r, pre, k, F, hF, hl, hx, h0, h1 => by
    obtain ⟨F, rfl⟩ : ∃ f, F = f + 1 := ⟨F - 1, by simp at hF; omega⟩
    have l1 : pre.length < (pre ++ x :: r).length := by simp
    have g1 : ∀ dd, (pre ++ x :: r).getD pre.length dd = x := fun dd => by rw [List.getD_eq_getElem?_getD, List.getElem?_append_right (Nat.le_refl _)]; simp
    have hx0 := hx x (.head _)
    have g : cf63 (x, k, ()) = some (if k - ((tms x).length : Int) < 0 then -1 else k - ((tms x).length : Int), ()) := if_pos ⟨hx0, h0, h1⟩
    simp only [iter, st21_5]
    simp (disch := omega) only [dln_t, cond_true, ofn, dlt_t, ib_t, tn_cast, w6_id]
    show (match cf63 ((pre ++ x :: r).getD pre.length (Ty.dflt lpoly), k, ()) with | some r12 => _ | none => none) = _
    rw [g1, g]
    simp only [szR]
    by_cases q : k - ((tms x).length : Int) < 0
    · rw [if_pos q, if_pos q]; rfl
    · rw [if_neg q, if_neg q]
      show (bif decide (k - ((tms x).length : Int) < 0) then _ else _) = _
      rw [dlt_f (by omega), cond_false]
      have ih := run21 (F0 := F0) r (pre ++ [x]) (k - ((tms x).length : Int)) F (by simp at hF; omega) (by simpa using hl) (fun z hz => hx z (.tail _ hz)) (by omega) (by omega)
      simp only [List.append_assoc, List.singleton_append, List.length_append, List.length_singleton] at ih
      exact ih
def sz21 (L : List Po) : Int := if (1048576 : Int) - (L.length : Int) < 0 then -1 else szR ((1048576 : Int) - (L.length : Int)) L
open Classical in
noncomputable def cf21 : G21 := fun x => if (show List Po from x.1).length ≤ 9223372036854775807 ∧ (∀ z ∈ (show List Po from x.1), (tms z).length ≤ 9223372036854775807) ∧ x.2.1 = (1048576 : Int) then some (sz21 x.1, ()) else none
theorem k21 : KOne Try.prog 21 ⟨[.v (.slice 84 lpoly), .v i64], [i64], false, false, 0, cf21⟩ := ok21 _ (.cons k63 .nil) cf21 fun x y h => by
  obtain ⟨L, k, _⟩ := x
  change List Po at L
  change Int at k
  simp only [cf21] at h
  split at h
  · rename_i hc
    injection h with h; subst h
    obtain ⟨h1, h2, h3⟩ := hc
    have h3 : k = (1048576 : Int) := h3
    have h1 : L.length ≤ 9223372036854775807 := h1
    subst h3
    refine ⟨L.length + 1, ?_⟩
    simp only [fn21]
    rw [dln_t h1, cond_true]
    have hw := w6_id (x := (1048576 : Int) - (L.length : Int)) (by omega) (by omega)
    simp only [ofn, hw]
    unfold sz21
    by_cases q : (1048576 : Int) - (L.length : Int) < 0
    · rw [dlt_t q, if_pos q]; rfl
    · rw [dlt_f (by omega), if_neg q, cond_false]
      simp only [ru21_5]
      exact run21 L [] _ (L.length + 1) (by omega) (by simp; omega) h2 (by omega) (by omega)
  · cases h
theorem g21_ok {L : List Po} (h1 : L.length ≤ 9223372036854775807) (h2 : ∀ z ∈ L, (tms z).length ≤ 9223372036854775807) : cf21 (L, (1048576 : Int), ()) = some (sz21 L, ()) := if_pos ⟨h1, h2, rfl⟩
theorem sz21_small {L : List Po} (h : 0 ≤ sz21 L) : L.length ≤ 1048576 ∧ totT L ≤ 1048576 := by
  unfold sz21 at h
  split at h
  · omega
  · have := szR_tot h; omega
theorem smallP_of {L : List Po} (h : L.length ≤ 1048576 ∧ totT L ≤ 1048576) : smallP L := ⟨by omega, fun x hx => by have := tot_mem hx; omega⟩
theorem run26 {L : List Po} (hs : smallP L) {F0 : Nat} : ∀ (r pre : List Po) (F : Nat), r.length < F → pre ++ r = L →
    iter (fun s k => st26_4 cf39 F0 s k (fun s' => match s' with | ((t0, _), (t1, _), (t5, _), _) => (some (true, ())))) F ((L, ()), ((L, ()), (((pre.length : Int), ()), ()))) = some (true, ())
  | [], pre, F, hF, e => by
    obtain ⟨F, rfl⟩ : ∃ f, F = f + 1 := ⟨F - 1, by simp at hF; omega⟩
    have hL := hs.1
    rw [List.append_nil] at e; subst e
    simp only [iter, st26_4]
    simp (disch := omega) only [dln_t, cond_true, ofn, dlt_f, cond_false]
  | x :: r, pre, F, hF, e => by
    obtain ⟨F, rfl⟩ : ∃ f, F = f + 1 := ⟨F - 1, by simp at hF; omega⟩
    have hL := hs.1
    have l1 : pre.length < L.length := by rw [← e]; simp
    have g1 : ∀ dd, L.getD pre.length dd = x := fun dd => by rw [← e, List.getD_eq_getElem?_getD, List.getElem?_append_right (Nat.le_refl _)]; simp
    have hx : (tms x).length ≤ 2000000 := hs.2 x (by rw [← e]; simp)
    have g : cf39 (x, x, ()) = some (true, ()) := if_pos ⟨rfl, rfl, rfl, hx⟩
    simp only [iter, st26_4]
    simp (disch := omega) only [dln_t, cond_true, ofn, dlt_t, ib_t, tn_cast, w6_id]
    show (match cf39 (L.getD pre.length (Ty.dflt poly), L.getD pre.length (Ty.dflt poly), ()) with | some r11 => _ | none => none) = _
    rw [g1, g]
    have ih := run26 hs (F0 := F0) r (pre ++ [x]) F (by simp at hF; omega) (by simpa using e)
    simp only [List.length_append, List.length_singleton] at ih
    exact ih
open Classical in
noncomputable def cf26 : G26 := fun x => if (show List Po from x.1) = x.2.1 ∧ smallP x.1 then some (true, ()) else none
theorem k26 : KOne Try.prog 26 ⟨[.v (.slice 58 poly), .v (.slice 58 poly)], [.bool], false, false, 0, cf26⟩ := ok26 _ (.cons k39 .nil) cf26 fun x y h => by
  obtain ⟨L, M, _⟩ := x
  change List Po at L
  change List Po at M
  simp only [cf26] at h
  split at h
  · rename_i hc
    injection h with h; subst h
    obtain ⟨c0, hs⟩ := hc
    have c0 : L = M := c0
    have hs : smallP L := hs
    subst c0
    have hL := hs.1
    refine ⟨L.length + 1, ?_⟩
    simp (disch := omega) only [fn26, dln_t, cond_true, ofn, ru26_4]
    simp only [decide_true, Bool.not_true, cond_false]
    exact run26 hs L [] (L.length + 1) (by omega) rfl
  · cases h
theorem g26_ok {L : List Po} (h : smallP L) : cf26 (L, L, ()) = some (true, ()) := if_pos ⟨rfl, h⟩
theorem wr1_i {k : Int} (h : 0 ≤ k ∧ k ≤ 1000000000000) : wr1 k = k + 1 := by
  show w6 (k + 1) = _
  exact w6_id (by omega) (by omega)
theorem fold27 : ∀ {L : List Po} {k : Int}, (∀ x ∈ L, (tms x).length ≤ 2000000) → 0 ≤ k → k + 2 * (L.length : Int) + 4 * (totT L : Int) ≤ 10000000000 → ∃ z, foldM27 cf70 L k = some (z, k + 2 * (L.length : Int) + 4 * (totT L : Int))
  | [], k, _, _, _ => ⟨[], by simp [foldM27, totT]⟩
  | x :: r, k, hx, h0, h1 => by
    simp only [totT, List.length_cons] at h1
    have e1 := wr1_i (k := k) (by omega)
    have e2 := wr1_i (k := k + 1) (by omega)
    have g : cf70 (tms x, k + 2, ()) = some (mkT (k + 2) (tms x).length, k + 2 + 4 * ((tms x).length : Int), ()) := if_pos ⟨hx x (.head _), by show (0 : Int) ≤ k + 2; omega, by show k + 2 ≤ (10000000000 : Int); omega⟩
    obtain ⟨z, hz⟩ := fold27 (L := r) (k := k + 2 + 4 * ((tms x).length : Int)) (fun y hy => hx y (.tail _ hy)) (by omega) (by omega)
    refine ⟨(k, k + 1, mkT (k + 2) (tms x).length, ()) :: z, ?_⟩
    simp only [foldM27, e1, e2]
    rw [show k + 1 + 1 = k + 2 by omega, show cf70 (x.2.2.1, k + 2, ()) = cf70 (tms x, k + 2, ()) from rfl, g]
    simp only [hz, totT, List.length_cons, Option.some.injEq, Prod.mk.injEq, true_and]
    omega
open Classical in
noncomputable def cf27 : G27 := fun x => if smallP x.1 ∧ x.2.1 = (1 : Int) ∧ totT x.1 ≤ 2000000 then (match foldM27 cf70 x.1 1 with | some z => some (z.1, z.2, ()) | none => none) else none
theorem k27 : KOne Try.prog 27 ⟨[.v (.slice 58 poly), .v i64], [.slice 58 poly, i64], false, false, 1, cf27⟩ := one27 (cf := cf27) k70 fun x y h => by
  obtain ⟨L, k, _⟩ := x
  change List Po at L
  change Int at k
  simp only [cf27] at h
  split at h
  · rename_i hc
    obtain ⟨hs, hk, _⟩ := hc
    have hk : k = 1 := hk
    subst hk
    split at h
    · rename_i z hz
      injection h with h; subst h
      have hs1 : L.length ≤ 2000000 := hs.1
      exact ⟨Nat.le_trans hs1 (by omega), z, hz, rfl⟩
    · cases h
  · cases h
theorem g27_ok {L : List Po} (h : L.length ≤ 1048576 ∧ totT L ≤ 1048576) : ∃ (M : List Po) (n : Int), cf27 (L, (1 : Int), ()) = some (M, n, ()) ∧ 0 ≤ n ∧ n ≤ 1000000000 := by
  have hs := smallP_of h
  obtain ⟨z, hz⟩ := fold27 (L := L) (k := 1) hs.2 (by omega) (by omega)
  refine ⟨z, 1 + 2 * (L.length : Int) + 4 * (totT L : Int), ?_, ?_, ?_⟩
  · have : cf27 (L, (1 : Int), ()) = (match foldM27 cf70 L 1 with | some z => some (z.1, z.2, ()) | none => none) := if_pos ⟨hs, rfl, by show totT L ≤ 2000000; omega⟩
    rw [this, hz]
  · show (0 : Int) ≤ 1 + 2 * (L.length : Int) + 4 * (totT L : Int); omega
  · show 1 + 2 * (L.length : Int) + 4 * (totT L : Int) ≤ (1000000000 : Int); omega
def cf143 : G143 := fn143 cf158 6
theorem k143 : KOne Try.prog 143 ⟨[.v i64, .v ex], [.bool], false, false, 0, cf143⟩ := ok143 _ (.cons k158 .nil) cf143 fun x y h => ⟨6, h⟩
open Go Go.RowKit
abbrev R182 : Type := Ress [.bool]
abbrev G182 : Type := Args [.v poly] → Option R182
abbrev kp182 : List (Nat × List Nat) := [(0, [1]), (1, [2])]
abbrev ct182 : CTab := []
def fn182 (F : Nat) (x : Args [.v poly]) : Option R182 :=
  match x with
  | (x0, _) => (bif decide ((List.length x0.2.2.1) ≤ 9223372036854775807) then (some (decide ((Int.ofNat (List.length x0.2.2.1)) = (0 : Int)), ())) else none)
theorem ev182 (F : Nat) (x : Args [.v poly]) : fnK TT (ct182 ) kp182 [.bool] [] (bodyOf Try.f182) [.tmp 2] [.v poly] false false x = fn182 F x := by
  obtain ⟨x0, _⟩ := x
  kernel_rfl
theorem ok182 (hK : KOK Try.prog (ct182 )) (cf : G182) (h : ∀ x y, cf x = some y → ∃ F, fn182 F x = some y) : KOne Try.prog 182 ⟨[.v poly], [.bool], false, false, 0, cf⟩ :=
  fn_one rfl (c := bodyOf Try.f182) mixed tt_ok hK Try.func182 (by kernel_rfl) (by kernel_rfl) (Nat.le_of_ble_eq_true (by kernel_rfl)) (by decide) fun x y hxy => by
    obtain ⟨F, hF⟩ := h x y hxy
    exact ⟨[], LTOK_by (l := []) (by kernel_rfl) trivial, (ev182 F x).trans hF⟩
abbrev R169 : Type := Ress [.bool]
abbrev G169 : Type := Args [.v poly] → Option R169
abbrev kp169 : List (Nat × List Nat) := [(0, [1]), (1, [2])]
abbrev ct169 (g182 : G182) (g159 : G159) (g117 : G117) : CTab := [(182, ⟨[.v poly], [.bool], false, false, 0, g182⟩), (159, ⟨[.v ex], [i64], false, false, 0, g159⟩), (117, ⟨[.v poly], [i64], false, false, 0, g117⟩)]
def fn169 (g182 : G182) (g159 : G159) (g117 : G117) (F : Nat) (x : Args [.v poly]) : Option R169 :=
  match x with
  | (x0, _) => (match (g182 ((x0.1, (x0.2.1, (x0.2.2.1, ()))), ())) with | some r6 => (bif r6.1 then (some (true, ())) else (bif ib (0 : Int) (Int.ofNat (List.length x0.2.2.1)) then (match (g159 ((List.getD x0.2.2.1 (tn (0 : Int)) (Ty.dflt (.pair (.arr 3 (.int .u8)) (.pair (.int .i64) .unit)))).1, ())) with | some r7 => (match (g117 ((x0.1, (x0.2.1, (x0.2.2.1, ()))), ())) with | some r8 => (some ((bif false then true else decide (r7.1 = r8.1)), ())) | none => none) | none => none) else none)) | none => none)
theorem ev169 (g182 : G182) (g159 : G159) (g117 : G117) (F : Nat) (x : Args [.v poly]) : fnK TT (ct169 g182 g159 g117 ) kp169 [.bool] [] (bodyOf Try.f169) [.tmp 2] [.v poly] false false x = fn169 g182 g159 g117 F x := by
  obtain ⟨x0, _⟩ := x
  kernel_rfl
theorem ok169 (g182 : G182) (g159 : G159) (g117 : G117) (hK : KOK Try.prog (ct169 g182 g159 g117 )) (cf : G169) (h : ∀ x y, cf x = some y → ∃ F, fn169 g182 g159 g117 F x = some y) : KOne Try.prog 169 ⟨[.v poly], [.bool], false, false, 0, cf⟩ :=
  fn_one rfl (c := bodyOf Try.f169) mixed tt_ok hK Try.func169 (by kernel_rfl) (by kernel_rfl) (Nat.le_of_ble_eq_true (by kernel_rfl)) (by decide) fun x y hxy => by
    obtain ⟨F, hF⟩ := h x y hxy
    exact ⟨[], LTOK_by (l := []) (by kernel_rfl) trivial, (ev169 g182 g159 g117 F x).trans hF⟩
abbrev R123 : Type := Ress [.bool]
abbrev G123 : Type := Args [.v poly, .v poly] → Option R123
abbrev kp123 : List (Nat × List Nat) := [(0, [2, 3]), (1, [4])]
abbrev ct123 : CTab := []
def fn123 (F : Nat) (x : Args [.v poly, .v poly]) : Option R123 :=
  match x with
  | (x0, x1, _) => (bif decide (x0.1 = x1.1) then (some ((bif true then decide (x0.2.1 = x1.2.1) else false), ())) else (some (false, ())))
theorem ev123 (F : Nat) (x : Args [.v poly, .v poly]) : fnK TT (ct123 ) kp123 [.bool] [] (bodyOf Try.f123) [.tmp 4] [.v poly, .v poly] false false x = fn123 F x := by
  obtain ⟨x0, x1, _⟩ := x
  kernel_rfl
theorem ok123 (hK : KOK Try.prog (ct123 )) (cf : G123) (h : ∀ x y, cf x = some y → ∃ F, fn123 F x = some y) : KOne Try.prog 123 ⟨[.v poly, .v poly], [.bool], false, false, 0, cf⟩ :=
  fn_one rfl (c := bodyOf Try.f123) mixed tt_ok hK Try.func123 (by kernel_rfl) (by kernel_rfl) (Nat.le_of_ble_eq_true (by kernel_rfl)) (by decide) fun x y hxy => by
    obtain ⟨F, hF⟩ := h x y hxy
    exact ⟨[], LTOK_by (l := []) (by kernel_rfl) trivial, (ev123 F x).trans hF⟩
abbrev R160 : Type := Ress [.bool]
abbrev G160 : Type := Args [.v poly] → Option R160
abbrev kp160 : List (Nat × List Nat) := [(0, [1]), (1, [15, 1]), (2, [2]), (3, [1, 19, 17, 18]), (4, [20, 18, 17, 1, 19]), (5, [3, 18, 17, 1, 19, 4]), (6, [56, 18, 17, 1, 19, 4]), (7, [2]), (8, [5, 4, 19, 1, 17, 18]), (9, [60, 18, 17, 1, 19, 4, 5]), (11, [67, 18, 17, 1, 19, 4, 5]), (12, [2]), (10, [5, 4, 19, 1, 17, 18]), (13, [1, 19, 17, 18]), (14, [2])]
abbrev ct160 (g86 : G86) (g87 : G87) (g151 : G151) (g159 : G159) : CTab := [(86, ⟨[.v i64], [.bool], false, false, 0, g86⟩), (87, ⟨[.v i64], [.bool], false, false, 0, g87⟩), (151, ⟨[.v ex, .v ex], [i64], false, false, 0, g151⟩), (159, ⟨[.v ex], [i64], false, false, 0, g159⟩)]
abbrev kr160 : Env → Option R160 := endK TT [.tmp 2] [.bool] false false
abbrev sh160_9 : Shape := [(1, .box false [.fz i64 0 false, .fz i64 0 false, .fz (.slice 135 term) 0 true]), (4, .box false [.fz ex 0 false, .fz i64 0 false]), (5, vv i64), (17, .val false [.fz (.slice 135 term) 0 true]), (18, vv i64), (19, vv i64)]
def st160_9 (g86 : G86) (g87 : G87) (g151 : G151) (g159 : G159) (F : Nat) (s : ShVal sh160_9) (k kx : ShVal sh160_9 → Option R160) : Option R160 :=
  match s with
  | ((t1_0, t1_1, t1_2, _), (t4_0, t4_1, _), (t5, _), (t17, _), (t18, _), (t19, _), _) => (bif decide (t5 < (3 : Int)) then (bif ib t5 (Int.ofNat 3) then (bif (!decide ((tget (0 : Int) 3 t4_0 (tn t5)) = (0 : Int))) then (some (false, ())) else k ((t1_0, (t1_1, (t1_2, ()))), ((t4_0, (t4_1, ())), (((w6 (t5 + (1 : Int))), ()), ((t17, ()), ((t18, ()), ((t19, ()), ()))))))) else none) else kx ((t1_0, (t1_1, (t1_2, ()))), ((t4_0, (t4_1, ())), ((t5, ()), ((t17, ()), ((t18, ()), ((t19, ()), ())))))))
def ru160_9 (g86 : G86) (g87 : G87) (g151 : G151) (g159 : G159) (F : Nat) (s : ShVal sh160_9) (kx : ShVal sh160_9 → Option R160) : Option R160 := iter (fun s k => st160_9 g86 g87 g151 g159 F s k kx) F s
abbrev ls160_9 (g86 : G86) (g87 : G87) (g151 : G151) (g159 : G159) (F : Nat) : LS R160 := ⟨sh160_9, 2, ru160_9 g86 g87 g151 g159 F⟩
abbrev sh160_4 : Shape := [(1, .box false [.fz i64 0 false, .fz i64 0 false, .fz (.slice 135 term) 0 true]), (17, .val false [.fz (.slice 135 term) 0 true]), (18, vv i64), (19, vv i64)]
def st160_4 (g86 : G86) (g87 : G87) (g151 : G151) (g159 : G159) (F : Nat) (s : ShVal sh160_4) (k kx : ShVal sh160_4 → Option R160) : Option R160 :=
  match s with
  | ((t1_0, t1_1, t1_2, _), (t17, _), (t18, _), (t19, _), _) => (bif decide (t19 < t18) then (bif ib t19 (Int.ofNat (List.length t17)) then (match (g159 ((List.getD t17 (tn t19) (Ty.dflt (.pair (.arr 3 (.int .u8)) (.pair (.int .i64) .unit)))).1, ())) with | some r19 => (bif decide ((12 : Int) < r19.1) then (some (false, ())) else (bif (bif false then true else decide ((List.getD t17 (tn t19) (Ty.dflt (.pair (.arr 3 (.int .u8)) (.pair (.int .i64) .unit)))).2.1 < (1 : Int))) then (some (false, ())) else (bif (bif false then true else decide (t1_0 ≤ (List.getD t17 (tn t19) (Ty.dflt (.pair (.arr 3 (.int .u8)) (.pair (.int .i64) .unit)))).2.1)) then (some (false, ())) else (bif decide ((0 : Int) < t19) then (bif ib (w6 (t19 - (1 : Int))) (Int.ofNat (List.length t1_2)) then (match (g151 ((List.getD t1_2 (tn (w6 (t19 - (1 : Int)))) (Ty.dflt (.pair (.arr 3 (.int .u8)) (.pair (.int .i64) .unit)))).1, ((List.getD t17 (tn t19) (Ty.dflt (.pair (.arr 3 (.int .u8)) (.pair (.int .i64) .unit)))).1, ()))) with | some r20 => (bif (bif false then true else (bif true then decide ((0 : Int) ≤ r20.1) else false)) then (some (false, ())) else (ru160_9 g86 g87 g151 g159 F ((t1_0, (t1_1, (t1_2, ()))), (((List.getD t17 (tn t19) (Ty.dflt (.pair (.arr 3 (.int .u8)) (.pair (.int .i64) .unit)))).1, ((List.getD t17 (tn t19) (Ty.dflt (.pair (.arr 3 (.int .u8)) (.pair (.int .i64) .unit)))).2.1, ())), ((t1_1, ()), ((t17, ()), ((t18, ()), ((t19, ()), ())))))) (fun s' => match s' with | ((t1_0, t1_1, t1_2, _), (t4_0, t4_1, _), (t5, _), (t17, _), (t18, _), (t19, _), _) => k ((t1_0, (t1_1, (t1_2, ()))), ((t17, ()), ((t18, ()), (((w6 (t19 + (1 : Int))), ()), ()))))))) | none => none) else none) else (bif (bif false then true else false) then (some (false, ())) else (ru160_9 g86 g87 g151 g159 F ((t1_0, (t1_1, (t1_2, ()))), (((List.getD t17 (tn t19) (Ty.dflt (.pair (.arr 3 (.int .u8)) (.pair (.int .i64) .unit)))).1, ((List.getD t17 (tn t19) (Ty.dflt (.pair (.arr 3 (.int .u8)) (.pair (.int .i64) .unit)))).2.1, ())), ((t1_1, ()), ((t17, ()), ((t18, ()), ((t19, ()), ())))))) (fun s' => match s' with | ((t1_0, t1_1, t1_2, _), (t4_0, t4_1, _), (t5, _), (t17, _), (t18, _), (t19, _), _) => k ((t1_0, (t1_1, (t1_2, ()))), ((t17, ()), ((t18, ()), (((w6 (t19 + (1 : Int))), ()), ()))))))))))) | none => none) else none) else kx ((t1_0, (t1_1, (t1_2, ()))), ((t17, ()), ((t18, ()), ((t19, ()), ())))))
def ru160_4 (g86 : G86) (g87 : G87) (g151 : G151) (g159 : G159) (F : Nat) (s : ShVal sh160_4) (kx : ShVal sh160_4 → Option R160) : Option R160 := iter (fun s k => st160_4 g86 g87 g151 g159 F s k kx) F s
abbrev ls160_4 (g86 : G86) (g87 : G87) (g151 : G151) (g159 : G159) (F : Nat) : LS R160 := ⟨sh160_4, 0, ru160_4 g86 g87 g151 g159 F⟩
def fn160 (g86 : G86) (g87 : G87) (g151 : G151) (g159 : G159) (F : Nat) (x : Args [.v poly]) : Option R160 :=
  match x with
  | (x0, _) => (match (g86 (x0.1, ())) with | some r7 => (bif (!r7.1) then (some (false, ())) else (match (g87 (x0.2.1, ())) with | some r8 => (bif (bif false then true else (!r8.1)) then (some (false, ())) else (bif decide ((List.length x0.2.2.1) ≤ 9223372036854775807) then (ru160_4 g86 g87 g151 g159 F ((x0.1, (x0.2.1, (x0.2.2.1, ()))), ((x0.2.2.1, ()), (((Int.ofNat (List.length x0.2.2.1)), ()), (((0 : Int), ()), ())))) (fun s' => match s' with | ((t1_0, t1_1, t1_2, _), (t17, _), (t18, _), (t19, _), _) => (some (true, ())))) else none)) | none => none)) | none => none)
theorem ev160_9 (g86 : G86) (g87 : G87) (g151 : G151) (g159 : G159) (F : Nat) (s : ShVal sh160_9) (k kx : ShVal sh160_9 → Option R160) : evL TT (ct160 g86 g87 g151 g159 ) kp160 [] (loopOf Try.f160 9) (envOf sh160_9 s) (fitK sh160_9 k) (fun j e => bif Nat.beq j 2 then fitK sh160_9 kx e else none) kr160 = st160_9 g86 g87 g151 g159 F s k kx := by
  obtain ⟨⟨t1_0, t1_1, t1_2, _⟩, ⟨t4_0, t4_1, _⟩, ⟨t5, _⟩, ⟨t17, _⟩, ⟨t18, _⟩, ⟨t19, _⟩, _⟩ := s
  kernel_rfl
theorem ok160_9 (g86 : G86) (g87 : G87) (g151 : G151) (g159 : G159) (F : Nat) (hK : KOK Try.prog (ct160 g86 g87 g151 g159 )) : LSOK Try.prog ⟨69, false, undef⟩ (ls160_9 g86 g87 g151 g159 F) (loopOf Try.f160 9) kr160 :=
  loop_ok (st160_9 g86 g87 g151 g159 F) mixed tt_ok hK (by kernel_rfl) (LTOK_by (l := []) (by kernel_rfl) trivial) (ev160_9 g86 g87 g151 g159 F)
theorem ev160_4 (g86 : G86) (g87 : G87) (g151 : G151) (g159 : G159) (F : Nat) (s : ShVal sh160_4) (k kx : ShVal sh160_4 → Option R160) : evL TT (ct160 g86 g87 g151 g159 ) kp160 [(9, ls160_9 g86 g87 g151 g159 F)] (loopOf Try.f160 4) (envOf sh160_4 s) (fitK sh160_4 k) (fun j e => bif Nat.beq j 0 then fitK sh160_4 kx e else none) kr160 = st160_4 g86 g87 g151 g159 F s k kx := by
  obtain ⟨⟨t1_0, t1_1, t1_2, _⟩, ⟨t17, _⟩, ⟨t18, _⟩, ⟨t19, _⟩, _⟩ := s
  kernel_rfl
theorem ok160_4 (g86 : G86) (g87 : G87) (g151 : G151) (g159 : G159) (F : Nat) (hK : KOK Try.prog (ct160 g86 g87 g151 g159 )) : LSOK Try.prog ⟨69, false, undef⟩ (ls160_4 g86 g87 g151 g159 F) (loopOf Try.f160 4) kr160 :=
  loop_ok (st160_4 g86 g87 g151 g159 F) mixed tt_ok hK (by kernel_rfl) (LTOK_by (l := [loopOf Try.f160 9]) (by kernel_rfl) ⟨ls_at (by kernel_rfl) (ok160_9 g86 g87 g151 g159 F hK), trivial⟩) (ev160_4 g86 g87 g151 g159 F)
theorem ev160 (g86 : G86) (g87 : G87) (g151 : G151) (g159 : G159) (F : Nat) (x : Args [.v poly]) : fnK TT (ct160 g86 g87 g151 g159 ) kp160 [.bool] [(4, ls160_4 g86 g87 g151 g159 F)] (bodyOf Try.f160) [.tmp 2] [.v poly] false false x = fn160 g86 g87 g151 g159 F x := by
  obtain ⟨x0, _⟩ := x
  kernel_rfl
theorem ok160 (g86 : G86) (g87 : G87) (g151 : G151) (g159 : G159) (hK : KOK Try.prog (ct160 g86 g87 g151 g159 )) (cf : G160) (h : ∀ x y, cf x = some y → ∃ F, fn160 g86 g87 g151 g159 F x = some y) : KOne Try.prog 160 ⟨[.v poly], [.bool], false, false, 0, cf⟩ :=
  fn_one rfl (c := bodyOf Try.f160) mixed tt_ok hK Try.func160 (by kernel_rfl) (by kernel_rfl) (Nat.le_of_ble_eq_true (by kernel_rfl)) (by decide) fun x y hxy => by
    obtain ⟨F, hF⟩ := h x y hxy
    exact ⟨[(4, ls160_4 g86 g87 g151 g159 F)], LTOK_by (l := [loopOf Try.f160 4]) (by kernel_rfl) ⟨ls_at (by kernel_rfl) (ok160_4 g86 g87 g151 g159 F hK), trivial⟩, (ev160 g86 g87 g151 g159 F x).trans hF⟩
abbrev R122 : Type := Ress [.bool]
abbrev G122 : Type := Args [.v (.slice 58 poly)] → Option R122
abbrev kp122 : List (Nat × List Nat) := [(0, [0]), (1, [7, 5, 6]), (2, [8, 6, 5, 7]), (3, [4, 6, 5, 7]), (4, [13, 6, 5, 7]), (5, [2]), (6, [7, 5, 6]), (7, [2])]
abbrev ct122 (g160 : G160) : CTab := [(160, ⟨[.v poly], [.bool], false, false, 0, g160⟩)]
abbrev kr122 : Env → Option R122 := endK TT [.tmp 2] [.bool] false false
abbrev sh122_2 : Shape := [(5, .val false [.fz (.slice 58 poly) 0 true]), (6, vv i64), (7, vv i64)]
def st122_2 (g160 : G160) (F : Nat) (s : ShVal sh122_2) (k kx : ShVal sh122_2 → Option R122) : Option R122 :=
  match s with
  | ((t5, _), (t6, _), (t7, _), _) => (bif decide (t7 < t6) then (bif ib t7 (Int.ofNat (List.length t5)) then (match (g160 (((List.getD t5 (tn t7) (Ty.dflt (.pair (.int .i64) (.pair (.int .i64) (.pair (.slice 135 (.pair (.arr 3 (.int .u8)) (.pair (.int .i64) .unit))) .unit))))).1, ((List.getD t5 (tn t7) (Ty.dflt (.pair (.int .i64) (.pair (.int .i64) (.pair (.slice 135 (.pair (.arr 3 (.int .u8)) (.pair (.int .i64) .unit))) .unit))))).2.1, ((List.getD t5 (tn t7) (Ty.dflt (.pair (.int .i64) (.pair (.int .i64) (.pair (.slice 135 (.pair (.arr 3 (.int .u8)) (.pair (.int .i64) .unit))) .unit))))).2.2.1, ()))), ())) with | some r10 => (bif (!r10.1) then (some (false, ())) else k ((t5, ()), ((t6, ()), (((w6 (t7 + (1 : Int))), ()), ())))) | none => none) else none) else kx ((t5, ()), ((t6, ()), ((t7, ()), ()))))
def ru122_2 (g160 : G160) (F : Nat) (s : ShVal sh122_2) (kx : ShVal sh122_2 → Option R122) : Option R122 := iter (fun s k => st122_2 g160 F s k kx) F s
abbrev ls122_2 (g160 : G160) (F : Nat) : LS R122 := ⟨sh122_2, 0, ru122_2 g160 F⟩
def fn122 (g160 : G160) (F : Nat) (x : Args [.v (.slice 58 poly)]) : Option R122 :=
  match x with
  | (x0, _) => (bif decide ((List.length x0) ≤ 9223372036854775807) then (ru122_2 g160 F ((x0, ()), (((Int.ofNat (List.length x0)), ()), (((0 : Int), ()), ()))) (fun s' => match s' with | ((t5, _), (t6, _), (t7, _), _) => (some (true, ())))) else none)
theorem ev122_2 (g160 : G160) (F : Nat) (s : ShVal sh122_2) (k kx : ShVal sh122_2 → Option R122) : evL TT (ct122 g160 ) kp122 [] (loopOf Try.f122 2) (envOf sh122_2 s) (fitK sh122_2 k) (fun j e => bif Nat.beq j 0 then fitK sh122_2 kx e else none) kr122 = st122_2 g160 F s k kx := by
  obtain ⟨⟨t5, _⟩, ⟨t6, _⟩, ⟨t7, _⟩, _⟩ := s
  kernel_rfl
theorem ok122_2 (g160 : G160) (F : Nat) (hK : KOK Try.prog (ct122 g160 )) : LSOK Try.prog ⟨15, false, undef⟩ (ls122_2 g160 F) (loopOf Try.f122 2) kr122 :=
  loop_ok (st122_2 g160 F) mixed tt_ok hK (by kernel_rfl) (LTOK_by (l := []) (by kernel_rfl) trivial) (ev122_2 g160 F)
theorem ev122 (g160 : G160) (F : Nat) (x : Args [.v (.slice 58 poly)]) : fnK TT (ct122 g160 ) kp122 [.bool] [(2, ls122_2 g160 F)] (bodyOf Try.f122) [.tmp 2] [.v (.slice 58 poly)] false false x = fn122 g160 F x := by
  obtain ⟨x0, _⟩ := x
  kernel_rfl
theorem ok122 (g160 : G160) (hK : KOK Try.prog (ct122 g160 )) (cf : G122) (h : ∀ x y, cf x = some y → ∃ F, fn122 g160 F x = some y) : KOne Try.prog 122 ⟨[.v (.slice 58 poly)], [.bool], false, false, 0, cf⟩ :=
  fn_one rfl (c := bodyOf Try.f122) mixed tt_ok hK Try.func122 (by kernel_rfl) (by kernel_rfl) (Nat.le_of_ble_eq_true (by kernel_rfl)) (by decide) fun x y hxy => by
    obtain ⟨F, hF⟩ := h x y hxy
    exact ⟨[(2, ls122_2 g160 F)], LTOK_by (l := [loopOf Try.f122 2]) (by kernel_rfl) ⟨ls_at (by kernel_rfl) (ok122_2 g160 F hK), trivial⟩, (ev122 g160 F x).trans hF⟩
abbrev R137 : Type := Ress [.bool]
abbrev G137 : Type := Args [.v (.slice 58 poly)] → Option R137
abbrev kp137 : List (Nat × List Nat) := [(0, [0]), (1, [7, 0, 5, 6]), (2, [8, 6, 5, 0, 7]), (3, [4, 6, 5, 0, 7]), (4, [26, 6, 5, 0, 7]), (5, [2]), (6, [7, 0, 5, 6]), (7, [2])]
abbrev ct137 (g123 : G123) (g169 : G169) (g117 : G117) : CTab := [(123, ⟨[.v poly, .v poly], [.bool], false, false, 0, g123⟩), (169, ⟨[.v poly], [.bool], false, false, 0, g169⟩), (117, ⟨[.v poly], [i64], false, false, 0, g117⟩)]
abbrev kr137 : Env → Option R137 := endK TT [.tmp 2] [.bool] false false
abbrev sh137_2 : Shape := [(0, .val false [.fz (.slice 58 poly) 0 true]), (5, .val false [.fz (.slice 58 poly) 0 true]), (6, vv i64), (7, vv i64)]
def st137_2 (g123 : G123) (g169 : G169) (g117 : G117) (F : Nat) (s : ShVal sh137_2) (k kx : ShVal sh137_2 → Option R137) : Option R137 :=
  match s with
  | ((t0, _), (t5, _), (t6, _), (t7, _), _) => (bif decide (t7 < t6) then (bif ib t7 (Int.ofNat (List.length t5)) then (bif ib (0 : Int) (Int.ofNat (List.length t0)) then (match (g123 (((List.getD t5 (tn t7) (Ty.dflt (.pair (.int .i64) (.pair (.int .i64) (.pair (.slice 135 (.pair (.arr 3 (.int .u8)) (.pair (.int .i64) .unit))) .unit))))).1, ((List.getD t5 (tn t7) (Ty.dflt (.pair (.int .i64) (.pair (.int .i64) (.pair (.slice 135 (.pair (.arr 3 (.int .u8)) (.pair (.int .i64) .unit))) .unit))))).2.1, ((List.getD t5 (tn t7) (Ty.dflt (.pair (.int .i64) (.pair (.int .i64) (.pair (.slice 135 (.pair (.arr 3 (.int .u8)) (.pair (.int .i64) .unit))) .unit))))).2.2.1, ()))), ((List.getD t0 (tn (0 : Int)) (Ty.dflt (.pair (.int .i64) (.pair (.int .i64) (.pair (.slice 135 (.pair (.arr 3 (.int .u8)) (.pair (.int .i64) .unit))) .unit))))), ()))) with | some r13 => (bif (!r13.1) then (some (false, ())) else (match (g169 (((List.getD t5 (tn t7) (Ty.dflt (.pair (.int .i64) (.pair (.int .i64) (.pair (.slice 135 (.pair (.arr 3 (.int .u8)) (.pair (.int .i64) .unit))) .unit))))).1, ((List.getD t5 (tn t7) (Ty.dflt (.pair (.int .i64) (.pair (.int .i64) (.pair (.slice 135 (.pair (.arr 3 (.int .u8)) (.pair (.int .i64) .unit))) .unit))))).2.1, ((List.getD t5 (tn t7) (Ty.dflt (.pair (.int .i64) (.pair (.int .i64) (.pair (.slice 135 (.pair (.arr 3 (.int .u8)) (.pair (.int .i64) .unit))) .unit))))).2.2.1, ()))), ())) with | some r14 => (bif (bif false then true else (!r14.1)) then (some (false, ())) else (match (g117 (((List.getD t5 (tn t7) (Ty.dflt (.pair (.int .i64) (.pair (.int .i64) (.pair (.slice 135 (.pair (.arr 3 (.int .u8)) (.pair (.int .i64) .unit))) .unit))))).1, ((List.getD t5 (tn t7) (Ty.dflt (.pair (.int .i64) (.pair (.int .i64) (.pair (.slice 135 (.pair (.arr 3 (.int .u8)) (.pair (.int .i64) .unit))) .unit))))).2.1, ((List.getD t5 (tn t7) (Ty.dflt (.pair (.int .i64) (.pair (.int .i64) (.pair (.slice 135 (.pair (.arr 3 (.int .u8)) (.pair (.int .i64) .unit))) .unit))))).2.2.1, ()))), ())) with | some r15 => (bif (bif false then true else decide (r15.1 < (1 : Int))) then (some (false, ())) else k ((t0, ()), ((t5, ()), ((t6, ()), (((w6 (t7 + (1 : Int))), ()), ()))))) | none => none)) | none => none)) | none => none) else none) else none) else kx ((t0, ()), ((t5, ()), ((t6, ()), ((t7, ()), ())))))
def ru137_2 (g123 : G123) (g169 : G169) (g117 : G117) (F : Nat) (s : ShVal sh137_2) (kx : ShVal sh137_2 → Option R137) : Option R137 := iter (fun s k => st137_2 g123 g169 g117 F s k kx) F s
abbrev ls137_2 (g123 : G123) (g169 : G169) (g117 : G117) (F : Nat) : LS R137 := ⟨sh137_2, 0, ru137_2 g123 g169 g117 F⟩
def fn137 (g123 : G123) (g169 : G169) (g117 : G117) (F : Nat) (x : Args [.v (.slice 58 poly)]) : Option R137 :=
  match x with
  | (x0, _) => (bif decide ((List.length x0) ≤ 9223372036854775807) then (ru137_2 g123 g169 g117 F ((x0, ()), ((x0, ()), (((Int.ofNat (List.length x0)), ()), (((0 : Int), ()), ())))) (fun s' => match s' with | ((t0, _), (t5, _), (t6, _), (t7, _), _) => (bif decide ((List.length t0) ≤ 9223372036854775807) then (some (decide ((Int.ofNat (List.length t0)) ≤ (8 : Int)), ())) else none))) else none)
theorem ev137_2 (g123 : G123) (g169 : G169) (g117 : G117) (F : Nat) (s : ShVal sh137_2) (k kx : ShVal sh137_2 → Option R137) : evL TT (ct137 g123 g169 g117 ) kp137 [] (loopOf Try.f137 2) (envOf sh137_2 s) (fitK sh137_2 k) (fun j e => bif Nat.beq j 0 then fitK sh137_2 kx e else none) kr137 = st137_2 g123 g169 g117 F s k kx := by
  obtain ⟨⟨t0, _⟩, ⟨t5, _⟩, ⟨t6, _⟩, ⟨t7, _⟩, _⟩ := s
  kernel_rfl
theorem ok137_2 (g123 : G123) (g169 : G169) (g117 : G117) (F : Nat) (hK : KOK Try.prog (ct137 g123 g169 g117 )) : LSOK Try.prog ⟨31, false, undef⟩ (ls137_2 g123 g169 g117 F) (loopOf Try.f137 2) kr137 :=
  loop_ok (st137_2 g123 g169 g117 F) mixed tt_ok hK (by kernel_rfl) (LTOK_by (l := []) (by kernel_rfl) trivial) (ev137_2 g123 g169 g117 F)
theorem ev137 (g123 : G123) (g169 : G169) (g117 : G117) (F : Nat) (x : Args [.v (.slice 58 poly)]) : fnK TT (ct137 g123 g169 g117 ) kp137 [.bool] [(2, ls137_2 g123 g169 g117 F)] (bodyOf Try.f137) [.tmp 2] [.v (.slice 58 poly)] false false x = fn137 g123 g169 g117 F x := by
  obtain ⟨x0, _⟩ := x
  kernel_rfl
theorem ok137 (g123 : G123) (g169 : G169) (g117 : G117) (hK : KOK Try.prog (ct137 g123 g169 g117 )) (cf : G137) (h : ∀ x y, cf x = some y → ∃ F, fn137 g123 g169 g117 F x = some y) : KOne Try.prog 137 ⟨[.v (.slice 58 poly)], [.bool], false, false, 0, cf⟩ :=
  fn_one rfl (c := bodyOf Try.f137) mixed tt_ok hK Try.func137 (by kernel_rfl) (by kernel_rfl) (Nat.le_of_ble_eq_true (by kernel_rfl)) (by decide) fun x y hxy => by
    obtain ⟨F, hF⟩ := h x y hxy
    exact ⟨[(2, ls137_2 g123 g169 g117 F)], LTOK_by (l := [loopOf Try.f137 2]) (by kernel_rfl) ⟨ls_at (by kernel_rfl) (ok137_2 g123 g169 g117 F hK), trivial⟩, (ev137 g123 g169 g117 F x).trans hF⟩
abbrev R67 : Type := Ress [i64]
abbrev G67 : Type := Args [.v (.slice 58 poly)] → Option R67
abbrev kp67 : List (Nat × List Nat) := [(0, [0]), (1, [3, 0]), (3, [7]), (4, [2]), (2, [2]), (5, [2])]
abbrev ct67 (g122 : G122) (g137 : G137) : CTab := [(122, ⟨[.v (.slice 58 poly)], [.bool], false, false, 0, g122⟩), (137, ⟨[.v (.slice 58 poly)], [.bool], false, false, 0, g137⟩)]
def fn67 (g122 : G122) (g137 : G137) (F : Nat) (x : Args [.v (.slice 58 poly)]) : Option R67 :=
  match x with
  | (x0, _) => (match (g122 (x0, ())) with | some r5 => (bif (!r5.1) then (some ((1 : Int), ())) else (bif decide ((List.length x0) ≤ 9223372036854775807) then (bif decide ((Int.ofNat (List.length x0)) = (0 : Int)) then (some ((2 : Int), ())) else (match (g137 (x0, ())) with | some r7 => (bif (bif false then true else (!r7.1)) then (some ((2 : Int), ())) else (some ((0 : Int), ()))) | none => none)) else none)) | none => none)
theorem ev67 (g122 : G122) (g137 : G137) (F : Nat) (x : Args [.v (.slice 58 poly)]) : fnK TT (ct67 g122 g137 ) kp67 [i64] [] (bodyOf Try.f67) [.tmp 2] [.v (.slice 58 poly)] false false x = fn67 g122 g137 F x := by
  obtain ⟨x0, _⟩ := x
  kernel_rfl
theorem ok67 (g122 : G122) (g137 : G137) (hK : KOK Try.prog (ct67 g122 g137 )) (cf : G67) (h : ∀ x y, cf x = some y → ∃ F, fn67 g122 g137 F x = some y) : KOne Try.prog 67 ⟨[.v (.slice 58 poly)], [i64], false, false, 0, cf⟩ :=
  fn_one rfl (c := bodyOf Try.f67) mixed tt_ok hK Try.func67 (by kernel_rfl) (by kernel_rfl) (Nat.le_of_ble_eq_true (by kernel_rfl)) (by decide) fun x y hxy => by
    obtain ⟨F, hF⟩ := h x y hxy
    exact ⟨[], LTOK_by (l := []) (by kernel_rfl) trivial, (ev67 g122 g137 F x).trans hF⟩
abbrev R135 : Type := Ress [i64]
abbrev G135 : Type := Args [.v (.slice 58 poly)] → Option R135
abbrev kp135 : List (Nat × List Nat) := [(0, [0]), (1, [3, 0]), (2, [8, 0, 3]), (4, [16, 0, 3]), (5, [2]), (3, [3, 0]), (6, [19, 0]), (7, [2]), (8, [4, 0]), (9, [23, 0, 4]), (11, [63, 0, 4]), (12, [2]), (10, [4, 0]), (13, [2])]
abbrev ct135 (g119 : G119) (g115 : G115) (g167 : G167) : CTab := [(119, ⟨[.v poly], [.bool], false, false, 0, g119⟩), (115, ⟨[.v poly], [i64], false, false, 0, g115⟩), (167, ⟨[.v poly], [.bool], false, false, 0, g167⟩)]
abbrev kr135 : Env → Option R135 := endK TT [.tmp 2] [i64] false false
abbrev sh135_2 : Shape := [(0, .val false [.fz (.slice 58 poly) 0 true]), (3, vv i64)]
def st135_2 (g119 : G119) (g115 : G115) (g167 : G167) (F : Nat) (s : ShVal sh135_2) (k kx : ShVal sh135_2 → Option R135) : Option R135 :=
  match s with
  | ((t0, _), (t3, _), _) => (bif decide ((List.length t0) ≤ 9223372036854775807) then (bif decide (t3 < (Int.ofNat (List.length t0))) then (bif ib t3 (Int.ofNat (List.length t0)) then (match (g119 ((List.getD t0 (tn t3) (Ty.dflt (.pair (.int .i64) (.pair (.int .i64) (.pair (.slice 135 (.pair (.arr 3 (.int .u8)) (.pair (.int .i64) .unit))) .unit))))), ())) with | some r10 => (bif (!r10.1) then (some ((1 : Int), ())) else k ((t0, ()), (((w6 (t3 + (1 : Int))), ()), ()))) | none => none) else none) else kx ((t0, ()), ((t3, ()), ()))) else none)
def ru135_2 (g119 : G119) (g115 : G115) (g167 : G167) (F : Nat) (s : ShVal sh135_2) (kx : ShVal sh135_2 → Option R135) : Option R135 := iter (fun s k => st135_2 g119 g115 g167 F s k kx) F s
abbrev ls135_2 (g119 : G119) (g115 : G115) (g167 : G167) (F : Nat) : LS R135 := ⟨sh135_2, 0, ru135_2 g119 g115 g167 F⟩
abbrev sh135_9 : Shape := [(0, .val false [.fz (.slice 58 poly) 0 true]), (4, vv i64)]
def st135_9 (g119 : G119) (g115 : G115) (g167 : G167) (F : Nat) (s : ShVal sh135_9) (k kx : ShVal sh135_9 → Option R135) : Option R135 :=
  match s with
  | ((t0, _), (t4, _), _) => (bif decide ((List.length t0) ≤ 9223372036854775807) then (bif decide (t4 < (Int.ofNat (List.length t0))) then (bif ib t4 (Int.ofNat (List.length t0)) then (bif ib (0 : Int) (Int.ofNat (List.length t0)) then (bif (!decide ((List.getD t0 (tn t4) (Ty.dflt (.pair (.int .i64) (.pair (.int .i64) (.pair (.slice 135 (.pair (.arr 3 (.int .u8)) (.pair (.int .i64) .unit))) .unit))))).1 = (List.getD t0 (tn (0 : Int)) (Ty.dflt (.pair (.int .i64) (.pair (.int .i64) (.pair (.slice 135 (.pair (.arr 3 (.int .u8)) (.pair (.int .i64) .unit))) .unit))))).1)) then (some ((2 : Int), ())) else (bif ib t4 (Int.ofNat (List.length t0)) then (bif ib (0 : Int) (Int.ofNat (List.length t0)) then (bif (bif false then true else (!decide ((List.getD t0 (tn t4) (Ty.dflt (.pair (.int .i64) (.pair (.int .i64) (.pair (.slice 135 (.pair (.arr 3 (.int .u8)) (.pair (.int .i64) .unit))) .unit))))).2.1 = (List.getD t0 (tn (0 : Int)) (Ty.dflt (.pair (.int .i64) (.pair (.int .i64) (.pair (.slice 135 (.pair (.arr 3 (.int .u8)) (.pair (.int .i64) .unit))) .unit))))).2.1))) then (some ((2 : Int), ())) else (bif ib t4 (Int.ofNat (List.length t0)) then (match (g115 ((List.getD t0 (tn t4) (Ty.dflt (.pair (.int .i64) (.pair (.int .i64) (.pair (.slice 135 (.pair (.arr 3 (.int .u8)) (.pair (.int .i64) .unit))) .unit))))), ())) with | some r14 => (bif (bif false then true else decide (r14.1 < (1 : Int))) then (some ((2 : Int), ())) else (bif ib t4 (Int.ofNat (List.length t0)) then (match (g167 ((List.getD t0 (tn t4) (Ty.dflt (.pair (.int .i64) (.pair (.int .i64) (.pair (.slice 135 (.pair (.arr 3 (.int .u8)) (.pair (.int .i64) .unit))) .unit))))), ())) with | some r15 => (bif (bif false then true else (!r15.1)) then (some ((2 : Int), ())) else k ((t0, ()), (((w6 (t4 + (1 : Int))), ()), ()))) | none => none) else none)) | none => none) else none)) else none) else none)) else none) else none) else kx ((t0, ()), ((t4, ()), ()))) else none)
def ru135_9 (g119 : G119) (g115 : G115) (g167 : G167) (F : Nat) (s : ShVal sh135_9) (kx : ShVal sh135_9 → Option R135) : Option R135 := iter (fun s k => st135_9 g119 g115 g167 F s k kx) F s
abbrev ls135_9 (g119 : G119) (g115 : G115) (g167 : G167) (F : Nat) : LS R135 := ⟨sh135_9, 2, ru135_9 g119 g115 g167 F⟩
def fn135 (g119 : G119) (g115 : G115) (g167 : G167) (F : Nat) (x : Args [.v (.slice 58 poly)]) : Option R135 :=
  match x with
  | (x0, _) => (ru135_2 g119 g115 g167 F ((x0, ()), (((0 : Int), ()), ())) (fun s' => match s' with | ((t0, _), (t3, _), _) => (bif decide ((List.length t0) ≤ 9223372036854775807) then (bif decide ((8 : Int) < (Int.ofNat (List.length t0))) then (some ((2 : Int), ())) else (ru135_9 g119 g115 g167 F ((t0, ()), (((0 : Int), ()), ())) (fun s' => match s' with | ((t0, _), (t4, _), _) => (some ((0 : Int), ()))))) else none)))
theorem ev135_2 (g119 : G119) (g115 : G115) (g167 : G167) (F : Nat) (s : ShVal sh135_2) (k kx : ShVal sh135_2 → Option R135) : evL TT (ct135 g119 g115 g167 ) kp135 [] (loopOf Try.f135 2) (envOf sh135_2 s) (fitK sh135_2 k) (fun j e => bif Nat.beq j 0 then fitK sh135_2 kx e else none) kr135 = st135_2 g119 g115 g167 F s k kx := by
  obtain ⟨⟨t0, _⟩, ⟨t3, _⟩, _⟩ := s
  kernel_rfl
theorem ok135_2 (g119 : G119) (g115 : G115) (g167 : G167) (F : Nat) (hK : KOK Try.prog (ct135 g119 g115 g167 )) : LSOK Try.prog ⟨64, false, undef⟩ (ls135_2 g119 g115 g167 F) (loopOf Try.f135 2) kr135 :=
  loop_ok (st135_2 g119 g115 g167 F) mixed tt_ok hK (by kernel_rfl) (LTOK_by (l := []) (by kernel_rfl) trivial) (ev135_2 g119 g115 g167 F)
theorem ev135_9 (g119 : G119) (g115 : G115) (g167 : G167) (F : Nat) (s : ShVal sh135_9) (k kx : ShVal sh135_9 → Option R135) : evL TT (ct135 g119 g115 g167 ) kp135 [] (loopOf Try.f135 9) (envOf sh135_9 s) (fitK sh135_9 k) (fun j e => bif Nat.beq j 2 then fitK sh135_9 kx e else none) kr135 = st135_9 g119 g115 g167 F s k kx := by
  obtain ⟨⟨t0, _⟩, ⟨t4, _⟩, _⟩ := s
  kernel_rfl
theorem ok135_9 (g119 : G119) (g115 : G115) (g167 : G167) (F : Nat) (hK : KOK Try.prog (ct135 g119 g115 g167 )) : LSOK Try.prog ⟨64, false, undef⟩ (ls135_9 g119 g115 g167 F) (loopOf Try.f135 9) kr135 :=
  loop_ok (st135_9 g119 g115 g167 F) mixed tt_ok hK (by kernel_rfl) (LTOK_by (l := []) (by kernel_rfl) trivial) (ev135_9 g119 g115 g167 F)
theorem ev135 (g119 : G119) (g115 : G115) (g167 : G167) (F : Nat) (x : Args [.v (.slice 58 poly)]) : fnK TT (ct135 g119 g115 g167 ) kp135 [i64] [(2, ls135_2 g119 g115 g167 F), (9, ls135_9 g119 g115 g167 F)] (bodyOf Try.f135) [.tmp 2] [.v (.slice 58 poly)] false false x = fn135 g119 g115 g167 F x := by
  obtain ⟨x0, _⟩ := x
  kernel_rfl
theorem ok135 (g119 : G119) (g115 : G115) (g167 : G167) (hK : KOK Try.prog (ct135 g119 g115 g167 )) (cf : G135) (h : ∀ x y, cf x = some y → ∃ F, fn135 g119 g115 g167 F x = some y) : KOne Try.prog 135 ⟨[.v (.slice 58 poly)], [i64], false, false, 0, cf⟩ :=
  fn_one rfl (c := bodyOf Try.f135) mixed tt_ok hK Try.func135 (by kernel_rfl) (by kernel_rfl) (Nat.le_of_ble_eq_true (by kernel_rfl)) (by decide) fun x y hxy => by
    obtain ⟨F, hF⟩ := h x y hxy
    exact ⟨[(2, ls135_2 g119 g115 g167 F), (9, ls135_9 g119 g115 g167 F)], LTOK_by (l := [loopOf Try.f135 2, loopOf Try.f135 9]) (by kernel_rfl) ⟨ls_at (by kernel_rfl) (ok135_2 g119 g115 g167 F hK), ⟨ls_at (by kernel_rfl) (ok135_9 g119 g115 g167 F hK), trivial⟩⟩, (ev135 g119 g115 g167 F x).trans hF⟩
abbrev R64 : Type := Ress [i64]
abbrev G64 : Type := Args [.v (.slice 58 poly), .v i64] → Option R64
abbrev kp64 : List (Nat × List Nat) := [(0, [0, 1]), (1, [0, 1, 5]), (2, [19, 5]), (3, [5]), (4, [4])]
abbrev ct64 (g135 : G135) (g73 : G73) : CTab := [(135, ⟨[.v (.slice 58 poly)], [i64], false, false, 0, g135⟩), (73, ⟨[.v i64, .v i64, .v i64], [.bool], false, false, 0, g73⟩)]
def fn64 (g135 : G135) (g73 : G73) (F : Nat) (x : Args [.v (.slice 58 poly), .v i64]) : Option R64 :=
  match x with
  | (x0, x1, _) => (match (g135 (x0, ())) with | some r6 => (bif decide (r6.1 = (0 : Int)) then (bif decide ((List.length x0) ≤ 9223372036854775807) then (bif decide ((Int.ofNat (List.length x0)) = (0 : Int)) then (bif (bif true then true else false) then (some ((2 : Int), ())) else (some (r6.1, ()))) else (match (g73 (x1, ((0 : Int), ((12 : Int), ())))) with | some r8 => (bif (bif true then (bif false then true else (!r8.1)) else false) then (some ((2 : Int), ())) else (some (r6.1, ()))) | none => none)) else none) else (some (r6.1, ()))) | none => none)
theorem ev64 (g135 : G135) (g73 : G73) (F : Nat) (x : Args [.v (.slice 58 poly), .v i64]) : fnK TT (ct64 g135 g73 ) kp64 [i64] [] (bodyOf Try.f64) [.tmp 4] [.v (.slice 58 poly), .v i64] false false x = fn64 g135 g73 F x := by
  obtain ⟨x0, x1, _⟩ := x
  kernel_rfl
theorem ok64 (g135 : G135) (g73 : G73) (hK : KOK Try.prog (ct64 g135 g73 )) (cf : G64) (h : ∀ x y, cf x = some y → ∃ F, fn64 g135 g73 F x = some y) : KOne Try.prog 64 ⟨[.v (.slice 58 poly), .v i64], [i64], false, false, 0, cf⟩ :=
  fn_one rfl (c := bodyOf Try.f64) mixed tt_ok hK Try.func64 (by kernel_rfl) (by kernel_rfl) (Nat.le_of_ble_eq_true (by kernel_rfl)) (by decide) fun x y hxy => by
    obtain ⟨F, hF⟩ := h x y hxy
    exact ⟨[], LTOK_by (l := []) (by kernel_rfl) trivial, (ev64 g135 g73 F x).trans hF⟩
def expsB (d : Int) (e : ex.den) : Bool := ((decide (2 ≤ d) || decide (x1 e = 0)) && (decide (3 ≤ d) || decide (x2 e = 0))) && decide (degX e ≤ 12)
theorem e143_1 (a b c : Int) (g : G158) : fn143 g 6 ((1 : Int), (a, b, c, ()), ()) = bif !decide (b = 0) then some (false, ()) else (bif !decide (c = 0) then some (false, ()) else (match g ((a, b, c, ()), ()) with | some r8 => (some (decide (r8.1 ≤ (12 : Int)), ())) | none => none)) := by kernel_rfl
theorem e143_2 (a b c : Int) (g : G158) : fn143 g 6 ((2 : Int), (a, b, c, ()), ()) = (bif !decide (c = 0) then some (false, ()) else (match g ((a, b, c, ()), ()) with | some r8 => (some (decide (r8.1 ≤ (12 : Int)), ())) | none => none)) := by kernel_rfl
theorem e143_3 (a b c : Int) (g : G158) : fn143 g 6 ((3 : Int), (a, b, c, ()), ()) = (match g ((a, b, c, ()), ()) with | some r8 => (some (decide (r8.1 ≤ (12 : Int)), ())) | none => none) := by kernel_rfl
theorem g143 {d : Int} {e : ex.den} (hd : 1 ≤ d ∧ d ≤ 3) (he : okX e) : cf143 (d, e, ()) = some (expsB d e, ()) := by
  obtain ⟨a, b, c, u⟩ := e
  have g : cf158 ((a, b, c, ()), ()) = some (degX (a, b, c, ()), ()) := if_pos he
  rcases (show d = 1 ∨ d = 2 ∨ d = 3 by omega) with rfl | rfl | rfl
  · refine (e143_1 a b c cf158).trans ?_
    rw [g]
    by_cases q1 : b = 0
    · by_cases q2 : c = 0
      · simp [expsB, q1, q2]
      · simp [expsB, q1, q2]
    · simp [expsB, q1]
  · refine (e143_2 a b c cf158).trans ?_
    rw [g]
    by_cases q2 : c = 0
    · simp [expsB, q2]
    · simp [expsB, q2]
  · refine (e143_3 a b c cf158).trans ?_
    rw [g]
    simp [expsB]
def inV (p : Int) (t : term.den) : Bool := decide (1 ≤ nT t) && decide (nT t ≤ p - 1)
def ordB (q : Option ex.den) (e : ex.den) : Bool := match q with | none => true | some e' => decide (keyX e' < keyX e)
def vT (p d : Int) : Option ex.den → List term.den → Bool
  | _, [] => true
  | q, t :: r => ((expsB d t.1 && inV p t) && ordB q t.1) && vT p d (some t.1) r
def vP (x : Po) : Bool := (isP x.1 && (decide ((1 : Int) ≤ x.2.1) && decide (x.2.1 ≤ (3 : Int)))) && vT x.1 x.2.1 none (tms x)
def Ahead (pre : List term.den) (q : Option ex.den) : Prop := (pre = [] ∧ q = none) ∨ ∃ pre' s, pre = pre' ++ [s] ∧ q = some s.1
theorem run119 {p d : Int} (hp : 2 ≤ p ∧ p ≤ 13) (hd : 1 ≤ d ∧ d ≤ 3) {F0 : Nat} : ∀ (r pre : List term.den) (q : Option ex.den) (F : Nat), Ahead pre q → r.length < F → (pre ++ r).length ≤ 2000000 → (∀ t ∈ pre ++ r, okX t.1) →
    iter (fun s k => st119_4 cf82 cf73 cf143 cf147 F0 s k (fun s' => match s' with | ((t1_0, t1_1, t1_2, _), (t3, _), _) => (some (true, ())))) F ((p, d, pre ++ r, ()), (((pre.length : Int), ()), ())) = some (vT p d q r, ())
  | [], pre, q, F, hq, hF, hl, ho => by
    obtain ⟨F, rfl⟩ : ∃ f, F = f + 1 := ⟨F - 1, by simp at hF; omega⟩
    rw [List.append_nil] at hl ⊢
    simp only [iter, st119_4]
    simp (disch := omega) only [dln_t, cond_true, ofn, dlt_f, cond_false]
    rfl
  | t :: r, pre, q, F, hq, hF, hl, ho => by
    obtain ⟨F, rfl⟩ : ∃ f, F = f + 1 := ⟨F - 1, by simp at hF; omega⟩
    have l1 : pre.length < (pre ++ t :: r).length := by simp
    have g1 : ∀ dd, (pre ++ t :: r).getD pre.length dd = t := fun dd => by rw [List.getD_eq_getElem?_getD, List.getElem?_append_right (Nat.le_refl _)]; simp
    have ot := ho t (by simp)
    have g := g143 (d := d) hd ot
    have g2 : cf73 (nT t, (1 : Int), p - 1, ()) = some (inV p t, ()) := rfl
    have hw : w6 (p - 1) = p - 1 := w6_id (by omega) (by omega)
    have ih := run119 hp hd (F0 := F0) r (pre ++ [t]) (some t.1) F (.inr ⟨pre, t, rfl, rfl⟩) (by simp at hF; omega) (by simpa using hl) (by simpa using ho)
    simp only [List.append_assoc, List.singleton_append, List.length_append, List.length_singleton] at ih
    simp only [iter, st119_4]
    simp (disch := omega) only [dln_t, cond_true, ofn, dlt_t, ib_t, tn_cast, w6_id (x := (pre.length : Int) + 1), hw]
    show (match cf143 (d, ((pre ++ t :: r).getD pre.length (Ty.dflt term)).1, ()) with | some r17 => _ | none => none) = _
    rw [g1, g]
    simp only [vT]
    cases h1 : expsB d t.1 with
    | false => rfl
    | true =>
      simp only [Bool.not_true, cond_false, Bool.true_and]
      show (bif !(inV p t) then _ else _) = _
      cases h2 : inV p t with
      | false => rfl
      | true =>
        simp only [Bool.not_true, cond_false, Bool.true_and]
        rcases hq with ⟨rfl, rfl⟩ | ⟨pre', s, rfl, rfl⟩
        · show (bif decide ((0 : Int) < ((([] : List term.den).length : Nat) : Int)) then _ else _) = _
          rw [dlt_f (by simp)]
          simp only [cond_false, ordB, Bool.true_and]
          exact ih
        · have hlen : (pre' ++ [s]).length = pre'.length + 1 := by simp
          have g0 : ∀ dd, (pre' ++ [s] ++ t :: r).getD pre'.length dd = s := fun dd => by rw [List.append_assoc, List.getD_eq_getElem?_getD, List.getElem?_append_right (Nat.le_refl _)]; simp
          have os := ho s (by simp)
          have g3 : cf147 (s.1, t.1, ()) = some (decide (keyX s.1 < keyX t.1), ()) := if_pos ⟨os, ot⟩
          have hwm : w6 (((pre' ++ [s]).length : Int) - 1) = (pre'.length : Int) := by rw [hlen]; exact (w6_id (by omega) (by simp at hl; omega)).trans (by omega)
          rw [dlt_t (by rw [hlen]; omega), cond_true, hwm, ib_t (by omega) (by simp at hl ⊢; omega), cond_true]
          show (match cf147 (((pre' ++ [s] ++ t :: r).getD pre'.length (Ty.dflt term)).1, t.1, ()) with | some r19 => _ | none => none) = _
          rw [g0, g3]
          simp only [ordB]
          cases h3 : decide (keyX s.1 < keyX t.1) with
          | false => rfl
          | true =>
            simp only [Bool.not_true, cond_false, cond_true, Bool.true_and]
            exact ih
open Classical in
noncomputable def cf119 : G119 := fun x => if okTs2 (tms x.1) then some (vP x.1, ()) else none
where okTs2 (l : List term.den) : Prop := l.length ≤ 2000000 ∧ ∀ t ∈ l, okX t.1
theorem k119 : KOne Try.prog 119 ⟨[.v poly], [.bool], false, false, 0, cf119⟩ := ok119 _ _ _ _ (.cons k82 (.cons k73 (.cons k143 (.cons k147 .nil)))) cf119 fun x y h => by
  obtain ⟨⟨p, d, l, u⟩, _⟩ := x
  change List term.den at l
  change Int at p
  change Int at d
  simp only [cf119] at h
  split at h
  · rename_i hc
    injection h with h; subst h
    obtain ⟨h1, h2⟩ := hc
    have h1 : l.length ≤ 2000000 := h1
    refine ⟨l.length + 1, ?_⟩
    simp only [fn119]
    rw [show cf82 (p, ()) = some (isP p, ()) from rfl, show cf73 (d, (1 : Int), (3 : Int), ()) = some (decide (1 ≤ d) && decide (d ≤ 3), ()) from rfl]
    show _ = some ((isP p && (decide (1 ≤ d) && decide (d ≤ 3))) && vT p d none l, ())
    cases hP : isP p with
    | false => rfl
    | true =>
      have hp : 2 ≤ p ∧ p ≤ 13 := by simp only [isP, Bool.or_eq_true, decide_eq_true_eq] at hP; omega
      cases hd : (decide (1 ≤ d) && decide (d ≤ 3)) with
      | false => rfl
      | true =>
        have hd' := hd
        simp only [Bool.and_eq_true, decide_eq_true_eq] at hd'
        simp only [Bool.not_true, cond_false, Bool.true_and, ru119_4]
        exact run119 hp hd' l [] none (l.length + 1) (.inl ⟨rfl, rfl⟩) (by omega) h1 h2
  · cases h
theorem in160 {F0 F : Nat} {p d : Int} {tt : List term.den} {a b c v : Int} {l : List term.den} {n i : Int} {kx : ShVal sh160_9 → Option R160} (hd : 1 ≤ d ∧ d ≤ 3) :
    iter (fun s k => st160_9 cf82 cf87 cf151 cf159 F0 s k kx) (F + 4) ((p, d, tt, ()), (((a, b, c, ()), v, ()), ((d, ()), ((l, ()), ((n, ()), ((i, ()), ())))))) =
    bif (decide (2 ≤ d) || decide (b = 0)) && (decide (3 ≤ d) || decide (c = 0)) then kx ((p, d, tt, ()), (((a, b, c, ()), v, ()), (((3 : Int), ()), ((l, ()), ((n, ()), ((i, ()), ())))))) else some (false, ()) := by
  have e1 : ∀ d0 : Int, iter (fun s k => st160_9 cf82 cf87 cf151 cf159 F0 s k kx) (F + 4) ((p, d0, tt, ()), (((a, b, c, ()), v, ()), (((1 : Int), ()), ((l, ()), ((n, ()), ((i, ()), ())))))) = bif !decide (b = 0) then some (false, ()) else (bif !decide (c = 0) then some (false, ()) else kx ((p, d0, tt, ()), (((a, b, c, ()), v, ()), (((3 : Int), ()), ((l, ()), ((n, ()), ((i, ()), ()))))))) := fun d0 => by kernel_rfl
  have e2 : ∀ d0 : Int, iter (fun s k => st160_9 cf82 cf87 cf151 cf159 F0 s k kx) (F + 4) ((p, d0, tt, ()), (((a, b, c, ()), v, ()), (((2 : Int), ()), ((l, ()), ((n, ()), ((i, ()), ())))))) = (bif !decide (c = 0) then some (false, ()) else kx ((p, d0, tt, ()), (((a, b, c, ()), v, ()), (((3 : Int), ()), ((l, ()), ((n, ()), ((i, ()), ()))))))) := fun d0 => by kernel_rfl
  have e3 : ∀ d0 : Int, iter (fun s k => st160_9 cf82 cf87 cf151 cf159 F0 s k kx) (F + 4) ((p, d0, tt, ()), (((a, b, c, ()), v, ()), (((3 : Int), ()), ((l, ()), ((n, ()), ((i, ()), ())))))) = kx ((p, d0, tt, ()), (((a, b, c, ()), v, ()), (((3 : Int), ()), ((l, ()), ((n, ()), ((i, ()), ())))))) := fun d0 => by kernel_rfl
  rcases (show d = 1 ∨ d = 2 ∨ d = 3 by omega) with rfl | rfl | rfl
  · rw [e1]
    by_cases q1 : b = 0 <;> by_cases q2 : c = 0 <;> simp [q1, q2]
  · rw [e2]
    by_cases q2 : c = 0 <;> simp [q2]
  · rw [e3]; simp
theorem run160 {p d : Int} (hp : 2 ≤ p ∧ p ≤ 13) (hd : 1 ≤ d ∧ d ≤ 3) {f0 N : Nat} : ∀ (r pre : List term.den) (q : Option ex.den) (F : Nat), Ahead pre q → r.length < F → (pre ++ r).length = N → N ≤ 2000000 → (∀ t ∈ pre ++ r, okX t.1) →
    iter (fun s k => st160_4 cf82 cf87 cf151 cf159 (f0 + 4) s k (fun s' => match s' with | ((t1_0, t1_1, t1_2, _), (t17, _), (t18, _), (t19, _), _) => (some (true, ())))) F ((p, d, pre ++ r, ()), ((pre ++ r, ()), (((N : Int), ()), (((pre.length : Int), ()), ())))) = some (vT p d q r, ())
  | [], pre, q, F, hq, hF, hl, hN, ho => by
    obtain ⟨F, rfl⟩ : ∃ f, F = f + 1 := ⟨F - 1, by simp at hF; omega⟩
    rw [List.append_nil] at hl ⊢
    simp only [iter, st160_4]
    simp (disch := omega) only [dlt_f, cond_false]
    rfl
  | t :: r, pre, q, F, hq, hF, hl, hN, ho => by
    obtain ⟨F, rfl⟩ : ∃ f, F = f + 1 := ⟨F - 1, by simp at hF; omega⟩
    have l1 : pre.length < N := by rw [← hl]; simp
    have g1 : ∀ dd, (pre ++ t :: r).getD pre.length dd = t := fun dd => by rw [List.getD_eq_getElem?_getD, List.getElem?_append_right (Nat.le_refl _)]; simp
    have ot := ho t (by simp)
    have g : cf159 (t.1, ()) = some (degX t.1, ()) := if_pos ot
    have ih := run160 hp hd (f0 := f0) (N := N) r (pre ++ [t]) (some t.1) F (.inr ⟨pre, t, rfl, rfl⟩) (by simp at hF; omega) (by simpa using hl) hN (by simpa using ho)
    simp only [List.append_assoc, List.singleton_append, List.length_append, List.length_singleton] at ih
    have inner : ∀ kx : ShVal sh160_9 → Option R160, iter (fun s k => st160_9 cf82 cf87 cf151 cf159 (f0 + 4) s k kx) (f0 + 4) ((p, d, pre ++ t :: r, ()), ((t.1, t.2.1, ()), ((d, ()), ((pre ++ t :: r, ()), (((N : Int), ()), (((pre.length : Int), ()), ())))))) =
        bif (decide (2 ≤ d) || decide (x1 t.1 = 0)) && (decide (3 ≤ d) || decide (x2 t.1 = 0)) then kx ((p, d, pre ++ t :: r, ()), ((t.1, t.2.1, ()), (((3 : Int), ()), ((pre ++ t :: r, ()), (((N : Int), ()), (((pre.length : Int), ()), ())))))) else some (false, ()) := fun kx => in160 hd
    have hw : w6 ((pre.length : Int) + 1) = (pre.length : Int) + 1 := w6_id (by omega) (by omega)
    simp only [iter, st160_4]
    simp (disch := omega) only [ofn, tn_cast, g1, dlt_t, ib_t, hl, cond_true]
    show (match cf159 (t.1, ()) with | some r19 => _ | none => none) = _
    rw [g]
    show (bif decide ((12 : Int) < degX t.1) then _ else _) = _
    simp only [vT]
    by_cases c1 : (12 : Int) < degX t.1
    · rw [dlt_t c1]
      have : expsB d t.1 = false := by unfold expsB; rw [decide_eq_false (by omega : ¬ degX t.1 ≤ 12), Bool.and_false]
      rw [this]; rfl
    · rw [dlt_f (by omega), cond_false]
      show (bif (bif false then true else decide (nT t < 1)) then _ else _) = _
      by_cases c2 : nT t < 1
      · rw [dlt_t c2]
        have : inV p t = false := by unfold inV; rw [decide_eq_false (by omega : ¬ 1 ≤ nT t), Bool.false_and]
        rw [this, Bool.and_false]; rfl
      · rw [dlt_f (by omega)]
        show (bif (bif false then true else decide (p ≤ nT t)) then _ else _) = _
        by_cases c3 : p ≤ nT t
        · rw [dle_t c3]
          have : inV p t = false := by unfold inV; rw [decide_eq_false (by omega : ¬ nT t ≤ p - 1), Bool.and_false]
          rw [this, Bool.and_false]; rfl
        · rw [dle_f (by omega)]
          have hv : inV p t = true := by unfold inV; rw [decide_eq_true (by omega : 1 ≤ nT t), decide_eq_true (by omega : nT t ≤ p - 1)]; rfl
          have he : expsB d t.1 = ((decide (2 ≤ d) || decide (x1 t.1 = 0)) && (decide (3 ≤ d) || decide (x2 t.1 = 0))) := by unfold expsB; rw [decide_eq_true (by omega : degX t.1 ≤ 12), Bool.and_true]
          rw [hv, Bool.and_true, he]
          simp only [cond_false]
          rcases hq with ⟨rfl, rfl⟩ | ⟨pre', s, rfl, rfl⟩
          · show (bif decide ((0 : Int) < ((([] : List term.den).length : Nat) : Int)) then _ else _) = _
            rw [dlt_f (by simp)]
            simp only [cond_false, ordB, Bool.and_true]
            refine (inner _).trans ?_
            cases ((decide (2 ≤ d) || decide (x1 t.1 = 0)) && (decide (3 ≤ d) || decide (x2 t.1 = 0))) with
            | false => rfl
            | true =>
              simp only [cond_true, Bool.true_and]
              exact ih
          · have hlen : (pre' ++ [s]).length = pre'.length + 1 := by simp
            have g0 : ∀ dd, (pre' ++ [s] ++ t :: r).getD pre'.length dd = s := fun dd => by rw [List.append_assoc, List.getD_eq_getElem?_getD, List.getElem?_append_right (Nat.le_refl _)]; simp
            have os := ho s (by simp)
            have g3 : cf151 (s.1, t.1, ()) = some (cmpX s.1 t.1, ()) := if_pos ⟨os, ot⟩
            have hk := cmpX_key os ot
            have hwm : w6 (((pre' ++ [s]).length : Int) - 1) = (pre'.length : Int) := by rw [hlen]; exact (w6_id (by omega) (by simp at hl; omega)).trans (by omega)
            rw [dlt_t (by rw [hlen]; omega), cond_true, hwm]
            rw [ib_t (by omega) (by rw [hlen] at l1; omega), cond_true]
            show (match cf151 (((pre' ++ [s] ++ t :: r).getD pre'.length (Ty.dflt term)).1, t.1, ()) with | some r20 => _ | none => none) = _
            rw [g0, g3]
            simp only [ordB]
            by_cases c4 : keyX s.1 < keyX t.1
            · rw [decide_eq_true c4, Bool.and_true]
              show (bif (bif false then true else (bif true then decide ((0 : Int) ≤ cmpX s.1 t.1) else false)) then _ else _) = _
              rw [dle_f (hk.2 c4)]
              simp only [cond_false, cond_true]
              refine (inner _).trans ?_
              cases ((decide (2 ≤ d) || decide (x1 t.1 = 0)) && (decide (3 ≤ d) || decide (x2 t.1 = 0))) with
              | false => rfl
              | true =>
                simp only [cond_true, Bool.true_and, hw]
                exact ih
            · rw [decide_eq_false c4, Bool.and_false, Bool.false_and]
              show (bif (bif false then true else (bif true then decide ((0 : Int) ≤ cmpX s.1 t.1) else false)) then _ else _) = _
              have : ¬ cmpX s.1 t.1 < 0 := fun q => c4 (hk.1 q)
              rw [dle_t (by omega)]; rfl
abbrev okT2 (l : List term.den) : Prop := cf119.okTs2 l
open Classical in
noncomputable def cf160 : G160 := fun x => if okT2 (tms x.1) then some (vP x.1, ()) else none
theorem k160 : KOne Try.prog 160 ⟨[.v poly], [.bool], false, false, 0, cf160⟩ := ok160 _ _ _ _ (.cons k86 (.cons k87 (.cons k151 (.cons k159 .nil)))) cf160 fun x y h => by
  obtain ⟨⟨p, d, l, u⟩, _⟩ := x
  change List term.den at l
  change Int at p
  change Int at d
  simp only [cf160] at h
  split at h
  · rename_i hc
    injection h with h; subst h
    obtain ⟨h1, h2⟩ := hc
    have h1 : l.length ≤ 2000000 := h1
    refine ⟨l.length + 4, ?_⟩
    simp only [fn160]
    rw [show cf82 (p, ()) = some (isP p, ()) from rfl, show cf87 (d, ()) = some (decide (1 ≤ d) && decide (d ≤ 3), ()) from rfl]
    show _ = some ((isP p && (decide (1 ≤ d) && decide (d ≤ 3))) && vT p d none l, ())
    cases hP : isP p with
    | false => rfl
    | true =>
      have hp : 2 ≤ p ∧ p ≤ 13 := by simp only [isP, Bool.or_eq_true, decide_eq_true_eq] at hP; omega
      cases hd : (decide (1 ≤ d) && decide (d ≤ 3)) with
      | false => rfl
      | true =>
        have hd' := hd
        simp only [Bool.and_eq_true, decide_eq_true_eq] at hd'
        simp only [Bool.not_true, cond_false, Bool.true_and, ru160_4]
        rw [dln_t (by omega), cond_true]
        exact run160 hp hd' (f0 := l.length) (N := l.length) l [] none (l.length + 4) (.inl ⟨rfl, rfl⟩) (by omega) rfl h1 h2
  · cases h
theorem vT_can {p d : Int} : ∀ {ts : List term.den} {q : Option ex.den}, (∀ t ∈ ts, okX t.1) → vT p d q ts = true → CanT p ts ∧ DegLe 12 ts ∧ ∀ e, q = some e → ∀ t ∈ ts, keyX e < keyT3 t
  | [], q, _, _ => ⟨can_nil, fun t h => (by cases h), fun e _ t h => (by cases h)⟩
  | t :: r, q, ho, h => by
    simp only [vT, Bool.and_eq_true] at h
    obtain ⟨⟨⟨h1, h2⟩, h3⟩, h4⟩ := h
    obtain ⟨c1, c2, c3⟩ := vT_can (fun s hs => ho s (.tail _ hs)) h4
    simp only [inV, Bool.and_eq_true, decide_eq_true_eq] at h2
    have hdeg : degX t.1 ≤ 12 := by unfold expsB at h1; simp only [Bool.and_eq_true, decide_eq_true_eq] at h1; exact h1.2
    have c3 := c3 t.1 rfl
    refine ⟨⟨List.pairwise_cons.2 ⟨fun s hs => c3 s hs, c1.srt⟩, fun s hs => ?_⟩, fun s hs => ?_, fun e he s hs => ?_⟩
    · rcases List.mem_cons.1 hs with rfl | hs
      · exact ⟨ho s (.head _), by show (0 : Int) < nT s; omega, by show nT s < p; omega⟩
      · exact c1.ok s hs
    · rcases List.mem_cons.1 hs with rfl | hs
      · exact hdeg
      · exact c2 s hs
    · subst he
      simp only [ordB, decide_eq_true_eq] at h3
      rcases List.mem_cons.1 hs with rfl | hs
      · exact h3
      · have := c3 s hs; show keyX e < keyT3 s; omega
theorem vP_can {x : Po} (ho : okT2 (tms x)) (h : vP x = true) : isP x.1 = true ∧ ((1 : Int) ≤ x.2.1 ∧ x.2.1 ≤ (3 : Int)) ∧ CanT x.1 (tms x) ∧ DegLe 12 (tms x) := by
  simp only [vP, Bool.and_eq_true, decide_eq_true_eq] at h
  obtain ⟨c1, c2, _⟩ := vT_can ho.2 h.2
  exact ⟨h.1.1, h.1.2, c1, c2⟩
theorem all_orG {α : Type} (f : α → Bool) (d : α) : ∀ l : List α, l.all f = true ∨ (l.all f = false ∧ ∃ n, n < l.length ∧ f (l.getD n d) = false ∧ ∀ i, i < n → f (l.getD i d) = true)
  | [] => .inl rfl
  | x :: r => by
    cases hx : f x with
    | false => exact .inr ⟨by simp [hx], 0, by simp, by simpa using hx, fun i hi => by omega⟩
    | true =>
      rcases all_orG f d r with h | ⟨h, n, h1, h2, h3⟩
      · exact .inl (by simp [hx]; simpa using h)
      · refine .inr ⟨by rw [List.all_cons, hx, h]; rfl, n + 1, by simpa using h1, by simpa using h2, fun i hi => ?_⟩
        cases i with
        | zero => simpa using hx
        | succ i => have := h3 i (by omega); simpa using this
theorem all_atG {α : Type} {f : α → Bool} {d : α} {l : List α} (h : l.all f = true) {i : Nat} (hi : i < l.length) : f (l.getD i d) = true := by
  rw [List.getD_eq_getElem?_getD, List.getElem?_eq_getElem hi]
  exact List.all_eq_true.1 h _ (List.getElem_mem hi)
theorem memG {α : Type} {d : α} {l : List α} {i : Nat} (hi : i < l.length) : l.getD i d ∈ l := by
  rw [List.getD_eq_getElem?_getD, List.getElem?_eq_getElem hi]; exact List.getElem_mem hi
abbrev DPo : Po := Ty.dflt poly
def smallV (L : List Po) : Prop := L.length ≤ 2000000 ∧ ∀ x ∈ L, okT2 (tms x)
open Classical in
noncomputable def cf122 : G122 := fun x => if smallV x.1 then some ((show List Po from x.1).all vP, ()) else none
theorem k122 : KOne Try.prog 122 ⟨[.v (.slice 58 poly)], [.bool], false, false, 0, cf122⟩ := ok122 _ (.cons k160 .nil) cf122 fun x y h => by
  obtain ⟨L, _⟩ := x
  change List Po at L
  simp only [cf122] at h
  split at h
  · rename_i hc
    injection h with h; subst h
    obtain ⟨h1, h2⟩ := hc
    have h1 : L.length ≤ 2000000 := h1
    have h2 : ∀ x ∈ L, okT2 (tms x) := h2
    refine ⟨L.length + 1, ?_⟩
    simp only [fn122]
    rw [dln_t (by omega)]
    simp only [cond_true, ofn, ru122_2]
    have g : ∀ i, i < L.length → cf160 (L.getD i DPo, ()) = some (vP (L.getD i DPo), ()) := fun i hi => if_pos (h2 _ (memG hi))
    rcases all_orG vP DPo L with hq | ⟨hq, n, q1, q2, q3⟩
    · rw [hq]
      refine iter_run L.length _ (fun i => ((L, ()), (((L.length : Int), ()), (((i : Int), ()), ())))) (by omega) (fun i hi k => ?_) (fun k => ?_)
      · simp (disch := omega) only [st122_2, ofn, cond_true, dlt_t, ib_t, tn_cast, w6_id]
        show (match cf160 (L.getD i DPo, ()) with | some r10 => _ | none => none) = _
        rw [g i hi, all_atG hq hi]; rfl
      · simp (disch := omega) only [st122_2, ofn, dlt_f, cond_false]
    · rw [hq]
      refine iter_run n _ (fun i => ((L, ()), (((L.length : Int), ()), (((i : Int), ()), ())))) (by omega) (fun i hi k => ?_) (fun k => ?_)
      · simp (disch := omega) only [st122_2, ofn, cond_true, dlt_t, ib_t, tn_cast, w6_id]
        show (match cf160 (L.getD i DPo, ()) with | some r10 => _ | none => none) = _
        rw [g i (by omega), q3 i hi]; rfl
      · simp (disch := omega) only [st122_2, ofn, cond_true, dlt_t, ib_t, tn_cast]
        show (match cf160 (L.getD n DPo, ()) with | some r10 => _ | none => none) = _
        rw [g n q1, q2]; rfl
  · cases h
def evB (ts : List term.den) : Bool := match ts with | [] => true | t :: _ => decide (degX t.1 = degI ts)
theorem ok_of {x : Po} (ho : okT2 (tms x)) (h : vP x = true) : okTs (tms x) := by
  obtain ⟨_, _, c1, c2⟩ := vP_can ho h
  exact okTs_of c1 c2 (by omega)
open Classical in
noncomputable def cf167 : G167 := fun x => if okTs (tms x.1) then some (evB (tms x.1), ()) else none
theorem k167 : KOne Try.prog 167 ⟨[.v poly], [.bool], false, false, 0, cf167⟩ := ok167 _ _ (.cons k158 (.cons k115 .nil)) cf167 fun x y h => by
  obtain ⟨⟨p, d, l, u⟩, _⟩ := x
  change List term.den at l
  simp only [cf167] at h
  split at h
  · rename_i hc
    injection h with h; subst h
    have hc : okTs l := hc
    have hl := hc.1
    refine ⟨0, ?_⟩
    simp only [fn167]
    rw [dln_t (by omega), cond_true]
    cases l with
    | nil => rfl
    | cons t r =>
      have g : cf158 (t.1, ()) = some (degX t.1, ()) := if_pos (hc.2 t (.head _))
      have g2 := g115_ok (p := p) (v := d) hc
      simp only [ofn]
      rw [deq_f (by simp only [List.length_cons]; omega), cond_false, ib_t (by omega) (by simp only [List.length_cons]; omega), cond_true]
      show (match cf158 (t.1, ()) with | some r5 => _ | none => none) = _
      rw [g]
      show (match cf115 ((p, d, t :: r, ()), ()) with | some r6 => _ | none => none) = _
      rw [g2]; rfl
  · cases h
def cf182 : G182 := fun x => if (show List term.den from x.1.2.2.1).length ≤ 9223372036854775807 then some (decide (((show List term.den from x.1.2.2.1).length : Int) = 0), ()) else none
theorem k182 : KOne Try.prog 182 ⟨[.v poly], [.bool], false, false, 0, cf182⟩ := ok182 .nil cf182 fun x y h => by
  obtain ⟨⟨p, d, l, u⟩, _⟩ := x
  change List term.den at l
  simp only [cf182] at h
  split at h
  · rename_i hc
    injection h with h; subst h
    refine ⟨0, ?_⟩
    have hc : l.length ≤ 9223372036854775807 := hc
    simp only [fn182]
    rw [dln_t hc, cond_true]; rfl
  · cases h
open Classical in
noncomputable def cf169 : G169 := fun x => if okTs (tms x.1) then some (evB (tms x.1), ()) else none
theorem k169 : KOne Try.prog 169 ⟨[.v poly], [.bool], false, false, 0, cf169⟩ := ok169 _ _ _ (.cons k182 (.cons k159 (.cons k117 .nil))) cf169 fun x y h => by
  obtain ⟨⟨p, d, l, u⟩, _⟩ := x
  change List term.den at l
  simp only [cf169] at h
  split at h
  · rename_i hc
    injection h with h; subst h
    have hc : okTs l := hc
    have hl := hc.1
    have g0 : cf182 ((p, d, l, ()), ()) = some (decide ((l.length : Int) = 0), ()) := if_pos (by show l.length ≤ _; omega)
    refine ⟨0, ?_⟩
    simp only [fn169]
    show (match cf182 ((p, d, l, ()), ()) with | some r6 => _ | none => none) = _
    rw [g0]
    cases l with
    | nil => rfl
    | cons t r =>
      have g : cf159 (t.1, ()) = some (degX t.1, ()) := if_pos (hc.2 t (.head _))
      have g2 := g117_ok (p := p) (v := d) hc
      show (bif decide ((((t :: r).length : Nat) : Int) = 0) then _ else _) = _
      rw [deq_f (by simp only [List.length_cons]; omega), cond_false]
      show (bif ib (0 : Int) (((t :: r).length : Nat) : Int) then _ else _) = _
      rw [ib_t (by omega) (by simp only [List.length_cons]; omega), cond_true]
      show (match cf159 (t.1, ()) with | some r7 => _ | none => none) = _
      rw [g]
      show (match cf117 ((p, d, t :: r, ()), ()) with | some r8 => _ | none => none) = _
      rw [g2]; rfl
  · cases h
def cf123 : G123 := fn123 0
theorem k123 : KOne Try.prog 123 ⟨[.v poly, .v poly], [.bool], false, false, 0, cf123⟩ := ok123 .nil cf123 fun x y h => ⟨0, h⟩
def alB (x0 x : Po) : Bool := decide ((show Int from x.1) = x0.1) && decide ((show Int from x.2.1) = x0.2.1)
def gd (x0 x : Po) : Bool := (alB x0 x && !(decide (degI (tms x) < 1))) && evB (tms x)
def lcA (L : List Po) : Int := bif L.all vP then (bif decide ((8 : Int) < L.length) then 2 else (bif L.all (gd (L.getD 0 DPo)) then 0 else 2)) else 1
theorem step135 {L : List Po} (hs : smallV L) (hv : L.all vP = true) {F0 i : Nat} (hi : i < L.length) (k kx : ShVal sh135_9 → Option R135) :
    st135_9 cf119 cf115 cf167 F0 ((L, ()), (((i : Int), ()), ())) k kx = bif gd (L.getD 0 DPo) (L.getD i DPo) then k ((L, ()), ((((i + 1 : Nat) : Int), ()), ())) else some ((2 : Int), ()) := by
  have hL := hs.1
  have hx := hs.2 _ (memG (d := DPo) hi)
  have hk := ok_of hx (all_atG hv hi)
  have g1 : cf115 (L.getD i DPo, ()) = some (degI (tms (L.getD i DPo)), ()) := g115_ok (p := (L.getD i DPo).1) (v := (L.getD i DPo).2.1) hk
  have g2 : cf167 (L.getD i DPo, ()) = some (evB (tms (L.getD i DPo)), ()) := if_pos hk
  have e0 : (0 : Nat) < L.length := by omega
  simp (disch := omega) only [st135_9, dln_t, cond_true, ofn, dlt_t, ib_t, tn_cast, w6_id]
  show (bif !(decide ((show Int from (L.getD i DPo).1) = (L.getD 0 DPo).1)) then some ((2 : Int), ()) else (bif !(decide ((show Int from (L.getD i DPo).2.1) = (L.getD 0 DPo).2.1)) then some ((2 : Int), ()) else (match cf115 (L.getD i DPo, ()) with | some r14 => (bif decide (r14.1 < (1 : Int)) then some ((2 : Int), ()) else (match cf167 (L.getD i DPo, ()) with | some r15 => (bif !r15.1 then some ((2 : Int), ()) else k ((L, ()), ((((i + 1 : Nat) : Int), ()), ()))) | none => none)) | none => none))) = _
  rw [g1, g2]
  unfold gd alB
  cases decide ((show Int from (L.getD i DPo).1) = (L.getD 0 DPo).1) <;> cases decide ((show Int from (L.getD i DPo).2.1) = (L.getD 0 DPo).2.1) <;> cases evB (tms (L.getD i DPo)) <;> by_cases q : degI (tms (L.getD i DPo)) < 1 <;> simp [q]
open Classical in
noncomputable def cf135 : G135 := fun x => if smallV x.1 then some (lcA x.1, ()) else none
theorem k135 : KOne Try.prog 135 ⟨[.v (.slice 58 poly)], [i64], false, false, 0, cf135⟩ := ok135 _ _ _ (.cons k119 (.cons k115 (.cons k167 .nil))) cf135 fun x y h => by
  obtain ⟨L, _⟩ := x
  change List Po at L
  simp only [cf135] at h
  split at h
  · rename_i hs
    injection h with h; subst h
    have hs : smallV L := hs
    obtain ⟨h1, h2⟩ := hs
    refine ⟨L.length + 1, ?_⟩
    simp only [fn135, ru135_2]
    have g : ∀ i, i < L.length → cf119 (L.getD i DPo, ()) = some (vP (L.getD i DPo), ()) := fun i hi => if_pos (h2 _ (memG hi))
    unfold lcA
    rcases all_orG vP DPo L with hq | ⟨hq, n, q1, q2, q3⟩
    · rw [hq, cond_true]
      refine iter_run L.length _ (fun i => ((L, ()), (((i : Int), ()), ()))) (by omega) (fun i hi k => ?_) (fun k => ?_)
      · simp (disch := omega) only [st135_2, dln_t, ofn, cond_true, dlt_t, ib_t, tn_cast, w6_id]
        show (match cf119 (L.getD i DPo, ()) with | some r10 => _ | none => none) = _
        rw [g i hi, all_atG hq hi]; rfl
      · simp (disch := omega) only [st135_2, dln_t, ofn, cond_true, dlt_f, cond_false]
        by_cases c8 : (8 : Int) < L.length
        · rw [dlt_t c8]; rfl
        · rw [dlt_f (by omega)]
          simp only [cond_false, ru135_9]
          rcases all_orG (gd (L.getD 0 DPo)) DPo L with hg | ⟨hg, n, q1, q2, q3⟩
          · rw [hg]
            refine iter_run L.length _ (fun i => ((L, ()), (((i : Int), ()), ()))) (by omega) (fun i hi k => ?_) (fun k => ?_)
            · rw [step135 ⟨h1, h2⟩ hq hi, all_atG hg hi]; rfl
            · simp (disch := omega) only [st135_9, dln_t, ofn, cond_true, dlt_f, cond_false]
          · rw [hg]
            refine iter_run n _ (fun i => ((L, ()), (((i : Int), ()), ()))) (by omega) (fun i hi k => ?_) (fun k => ?_)
            · rw [step135 ⟨h1, h2⟩ hq (by omega), q3 i hi]; rfl
            · rw [step135 ⟨h1, h2⟩ hq q1, q2]; rfl
    · rw [hq, cond_false]
      refine iter_run n _ (fun i => ((L, ()), (((i : Int), ()), ()))) (by omega) (fun i hi k => ?_) (fun k => ?_)
      · simp (disch := omega) only [st135_2, dln_t, ofn, cond_true, dlt_t, ib_t, tn_cast, w6_id]
        show (match cf119 (L.getD i DPo, ()) with | some r10 => _ | none => none) = _
        rw [g i (by omega), q3 i hi]; rfl
      · simp (disch := omega) only [st135_2, dln_t, ofn, cond_true, dlt_t, ib_t, tn_cast]
        show (match cf119 (L.getD n DPo, ()) with | some r10 => _ | none => none) = _
        rw [g n q1, q2]; rfl
  · cases h
def lc (L : List Po) : Int := bif L.all vP then (bif decide ((L.length : Int) = 0) then 2 else (bif L.all (gd (L.getD 0 DPo)) && decide ((L.length : Int) ≤ 8) then 0 else 2)) else 1
noncomputable def cf64 : G64 := fn64 cf135 cf73 0
theorem k64 : KOne Try.prog 64 ⟨[.v (.slice 58 poly), .v i64], [i64], false, false, 0, cf64⟩ := ok64 _ _ (.cons k135 (.cons k73 .nil)) cf64 fun x y h => ⟨0, h⟩
theorem g64_ok {L : List Po} {n : Int} (hs : smallV L) (hn : 0 ≤ n ∧ n ≤ 12) : cf64 (L, n, ()) = some (lc L, ()) := by
  have g : cf135 (L, ()) = some (lcA L, ()) := if_pos hs
  have hL := hs.1
  simp only [cf64, fn64]
  rw [g, show cf73 (n, (0 : Int), (12 : Int), ()) = some (decide (0 ≤ n) && decide (n ≤ 12), ()) from rfl, decide_eq_true hn.1, decide_eq_true hn.2]
  simp only [ofn]
  rw [dln_t (show L.length ≤ 9223372036854775807 by omega)]
  unfold lcA lc
  cases hq : L.all vP with
  | false => rfl
  | true =>
    simp only [cond_true]
    by_cases c8 : (8 : Int) < L.length
    · rw [dlt_t c8, deq_f (show (L.length : Int) ≠ 0 by omega), dle_f (show (8 : Int) < (L.length : Int) by omega)]
      simp
    · rw [dlt_f (show (L.length : Int) ≤ 8 by omega), dle_t (show (L.length : Int) ≤ 8 by omega), Bool.and_true]
      simp only [cond_false]
      by_cases c0 : (L.length : Int) = 0
      · have : L = [] := List.eq_nil_of_length_eq_zero (by omega)
        subst this; rfl
      · rw [deq_f c0]
        cases hg : L.all (gd (L.getD 0 DPo)) with
        | false => rfl
        | true => rfl
theorem step137 {L : List Po} (hs : smallV L) (hv : L.all vP = true) {F0 i : Nat} (hi : i < L.length) (k kx : ShVal sh137_2 → Option R137) :
    st137_2 cf123 cf169 cf117 F0 ((L, ()), ((L, ()), (((L.length : Int), ()), (((i : Int), ()), ())))) k kx = bif gd (L.getD 0 DPo) (L.getD i DPo) then k ((L, ()), ((L, ()), (((L.length : Int), ()), ((((i + 1 : Nat) : Int), ()), ())))) else some (false, ()) := by
  have hL := hs.1
  have hx := hs.2 _ (memG (d := DPo) hi)
  have hk := ok_of hx (all_atG hv hi)
  have g1 : cf117 (L.getD i DPo, ()) = some (degI (tms (L.getD i DPo)), ()) := g117_ok (p := (L.getD i DPo).1) (v := (L.getD i DPo).2.1) hk
  have g2 : cf169 (L.getD i DPo, ()) = some (evB (tms (L.getD i DPo)), ()) := if_pos hk
  have g3 : cf123 (L.getD i DPo, L.getD 0 DPo, ()) = some (alB (L.getD 0 DPo) (L.getD i DPo), ()) := by
    unfold alB
    show (bif decide ((show Int from (L.getD i DPo).1) = (L.getD 0 DPo).1) then (some ((bif true then decide ((show Int from (L.getD i DPo).2.1) = (L.getD 0 DPo).2.1) else false), ())) else (some (false, ()))) = _
    cases decide ((show Int from (L.getD i DPo).1) = (L.getD 0 DPo).1) <;> rfl
  have e0 : (0 : Nat) < L.length := by omega
  simp (disch := omega) only [st137_2, cond_true, ofn, dlt_t, ib_t, tn_cast, w6_id]
  show (match cf123 (L.getD i DPo, L.getD 0 DPo, ()) with | some r13 => (bif !r13.1 then some (false, ()) else (match cf169 (L.getD i DPo, ()) with | some r14 => (bif !r14.1 then some (false, ()) else (match cf117 (L.getD i DPo, ()) with | some r15 => (bif decide (r15.1 < (1 : Int)) then some (false, ()) else k ((L, ()), ((L, ()), (((L.length : Int), ()), ((((i + 1 : Nat) : Int), ()), ()))))) | none => none)) | none => none)) | none => none) = _
  rw [g1, g2, g3]
  unfold gd
  cases alB (L.getD 0 DPo) (L.getD i DPo) <;> cases evB (tms (L.getD i DPo)) <;> by_cases q : degI (tms (L.getD i DPo)) < 1 <;> simp [q]
open Classical in
noncomputable def cf137 : G137 := fun x => if smallV x.1 ∧ (show List Po from x.1).all vP = true then some ((show List Po from x.1).all (gd ((show List Po from x.1).getD 0 DPo)) && decide (((show List Po from x.1).length : Int) ≤ 8), ()) else none
theorem k137 : KOne Try.prog 137 ⟨[.v (.slice 58 poly)], [.bool], false, false, 0, cf137⟩ := ok137 _ _ _ (.cons k123 (.cons k169 (.cons k117 .nil))) cf137 fun x y h => by
  obtain ⟨L, _⟩ := x
  change List Po at L
  simp only [cf137] at h
  split at h
  · rename_i hs
    injection h with h; subst h
    obtain ⟨hs, hq⟩ := hs
    have hs : smallV L := hs
    have hq : L.all vP = true := hq
    have h1 := hs.1
    refine ⟨L.length + 1, ?_⟩
    simp only [fn137]
    rw [dln_t (by omega)]
    simp only [cond_true, ofn, ru137_2]
    rcases all_orG (gd (L.getD 0 DPo)) DPo L with hg | ⟨hg, n, q1, q2, q3⟩
    · rw [hg, Bool.true_and]
      refine iter_run L.length _ (fun i => ((L, ()), ((L, ()), (((L.length : Int), ()), (((i : Int), ()), ()))))) (by omega) (fun i hi k => ?_) (fun k => ?_)
      · rw [step137 hs hq hi, all_atG hg hi]; rfl
      · simp (disch := omega) only [st137_2, dln_t, ofn, cond_true, dlt_f, cond_false]
    · rw [hg, Bool.false_and]
      refine iter_run n _ (fun i => ((L, ()), ((L, ()), (((L.length : Int), ()), (((i : Int), ()), ()))))) (by omega) (fun i hi k => ?_) (fun k => ?_)
      · rw [step137 hs hq (by omega), q3 i hi]; rfl
      · rw [step137 hs hq q1, q2]; rfl
  · cases h
noncomputable def cf67 : G67 := fn67 cf122 cf137 0
theorem k67 : KOne Try.prog 67 ⟨[.v (.slice 58 poly)], [i64], false, false, 0, cf67⟩ := ok67 _ _ (.cons k122 (.cons k137 .nil)) cf67 fun x y h => ⟨0, h⟩
theorem g67_ok {L : List Po} (hs : smallV L) : cf67 (L, ()) = some (lc L, ()) := by
  have g : cf122 (L, ()) = some (L.all vP, ()) := if_pos hs
  have hL := hs.1
  simp only [cf67, fn67]
  rw [g]
  unfold lc
  cases hq : L.all vP with
  | false => rfl
  | true =>
    have g2 : cf137 (L, ()) = some (L.all (gd (L.getD 0 DPo)) && decide ((L.length : Int) ≤ 8), ()) := if_pos ⟨hs, hq⟩
    simp only [ofn]
    rw [dln_t (show L.length ≤ 9223372036854775807 by omega), g2]
    simp only [Bool.not_true, cond_false, cond_true]
    by_cases c0 : (L.length : Int) = 0
    · rw [deq_t c0]; rfl
    · rw [deq_f c0]
      cases (L.all (gd (L.getD 0 DPo)) && decide ((L.length : Int) ≤ 8)) <;> rfl
abbrev R68 : Type := Ress [.bool]
abbrev G68 : Type := Args [.v i64] → Option R68
abbrev kp68 : List (Nat × List Nat) := [(0, [0]), (1, [2])]
abbrev ct68 : CTab := []
def fn68 (F : Nat) (x : Args [.v i64]) : Option R68 :=
  match x with
  | (x0, _) => (bif decide ((0 : Int) ≤ x0) then (some ((bif true then decide (x0 ≤ (12 : Int)) else false), ())) else (some (false, ())))
theorem ev68 (F : Nat) (x : Args [.v i64]) : fnK TT (ct68 ) kp68 [.bool] [] (bodyOf Try.f68) [.tmp 2] [.v i64] false false x = fn68 F x := by
  obtain ⟨x0, _⟩ := x
  kernel_rfl
theorem ok68 (hK : KOK Try.prog (ct68 )) (cf : G68) (h : ∀ x y, cf x = some y → ∃ F, fn68 F x = some y) : KOne Try.prog 68 ⟨[.v i64], [.bool], false, false, 0, cf⟩ :=
  fn_one rfl (c := bodyOf Try.f68) mixed tt_ok hK Try.func68 (by kernel_rfl) (by kernel_rfl) (Nat.le_of_ble_eq_true (by kernel_rfl)) (by decide) fun x y hxy => by
    obtain ⟨F, hF⟩ := h x y hxy
    exact ⟨[], LTOK_by (l := []) (by kernel_rfl) trivial, (ev68 F x).trans hF⟩
abbrev R65 : Type := Ress [(.slice 24 (.slice 2 i64))]
abbrev G65 : Type := Args [.v (.slice 58 poly), .v i64] → Option R65
abbrev kp65 : List (Nat × List Nat) := [(0, [0, 1]), (1, [12, 0, 1]), (2, [14]), (3, [4]), (4, [4]), (5, [5, 6, 1, 0]), (6, [5, 7, 6, 1, 0]), (7, [27, 7, 5, 6, 1, 0]), (9, [8, 7, 5, 6, 1, 0]), (10, [9, 8, 7, 5, 6, 1, 0]), (11, [41, 5, 9, 8, 7, 6, 1, 0]), (13, [9, 8, 7, 5, 6, 1, 0]), (12, [9, 8, 7, 5, 6, 1, 0]), (8, [5, 7, 6, 1, 0]), (14, [4])]
abbrev ct65 (g65 : G65) (g115 : G115) : CTab := [(65, ⟨[.v (.slice 58 poly), .v i64], [(.slice 24 (.slice 2 i64))], true, false, 0, g65⟩), (115, ⟨[.v poly], [i64], false, false, 0, g115⟩)]
abbrev kr65 : Env → Option R65 := endK TT [.tmp 4] [(.slice 24 (.slice 2 i64))] true false
abbrev sh65_11 : Shape := [(0, .val false [.fz (.slice 58 poly) 0 true]), (1, vv i64), (5, vr 24 (.slice 2 i64) 81 false), (6, vv i64), (7, vv i64), (8, vr 24 (.slice 2 i64) 129 false), (9, vv i64)]
def st65_11 (g65 : G65) (g115 : G115) (F : Nat) (s : ShVal sh65_11) (k kx : ShVal sh65_11 → Option R65) : Option R65 :=
  match s with
  | ((t0, _), (t1, _), (t5, _), (t6, _), (t7, _), (t8, _), (t9, _), _) => (bif decide ((List.length t8) ≤ 9223372036854775807) then (bif decide (t9 < (Int.ofNat (List.length t8))) then (bif ib t9 (Int.ofNat (List.length t8)) then (bif (growOk (List.length (t7 :: [])) (List.length (List.getD t8 (tn t9) []))) then (bif (growOk (List.length t5) (List.length (((t7 :: []) ++ (List.getD t8 (tn t9) [])) :: []))) then k ((t0, ()), ((t1, ()), (((t5 ++ (((t7 :: []) ++ (List.getD t8 (tn t9) [])) :: [])), ()), ((t6, ()), ((t7, ()), ((t8, ()), (((w6 (t9 + (1 : Int))), ()), ()))))))) else none) else none) else none) else kx ((t0, ()), ((t1, ()), ((t5, ()), ((t6, ()), ((t7, ()), ((t8, ()), ((t9, ()), ())))))))) else none)
def ru65_11 (g65 : G65) (g115 : G115) (F : Nat) (s : ShVal sh65_11) (kx : ShVal sh65_11 → Option R65) : Option R65 := iter (fun s k => st65_11 g65 g115 F s k kx) F s
abbrev ls65_11 (g65 : G65) (g115 : G115) (F : Nat) : LS R65 := ⟨sh65_11, 2, ru65_11 g65 g115 F⟩
abbrev sh65_7 : Shape := [(0, .val false [.fz (.slice 58 poly) 0 true]), (1, vv i64), (5, vr 24 (.slice 2 i64) 81 false), (6, vv i64), (7, vv i64)]
def st65_7 (g65 : G65) (g115 : G115) (F : Nat) (s : ShVal sh65_7) (k kx : ShVal sh65_7 → Option R65) : Option R65 :=
  match s with
  | ((t0, _), (t1, _), (t5, _), (t6, _), (t7, _), _) => (bif decide ((0 : Int) ≤ t7) then (bif ((decide ((0 : Int) ≤ (1 : Int)) && decide ((1 : Int) ≤ (Int.ofNat (List.length t0)))) && decide ((Int.ofNat (List.length t0)) ≤ (Int.ofNat (List.length t0)))) then (match (g65 ((List.drop (tn (1 : Int)) (List.take (tn (Int.ofNat (List.length t0))) t0)), ((w6 (t1 - (w6 (t7 * t6)))), ()))) with | some r16 => (ru65_11 g65 g115 F ((t0, ()), ((t1, ()), ((t5, ()), ((t6, ()), ((t7, ()), ((r16.1, ()), (((0 : Int), ()), ()))))))) (fun s' => match s' with | ((t0, _), (t1, _), (t5, _), (t6, _), (t7, _), (t8, _), (t9, _), _) => k ((t0, ()), ((t1, ()), ((t5, ()), ((t6, ()), (((w6 (t7 - (1 : Int))), ()), ()))))))) | none => none) else none) else kx ((t0, ()), ((t1, ()), ((t5, ()), ((t6, ()), ((t7, ()), ()))))))
def ru65_7 (g65 : G65) (g115 : G115) (F : Nat) (s : ShVal sh65_7) (kx : ShVal sh65_7 → Option R65) : Option R65 := iter (fun s k => st65_7 g65 g115 F s k kx) F s
abbrev ls65_7 (g65 : G65) (g115 : G115) (F : Nat) : LS R65 := ⟨sh65_7, 0, ru65_7 g65 g115 F⟩
def fn65 (g65 : G65) (g115 : G115) (F : Nat) (x : Args [.v (.slice 58 poly), .v i64]) : Option R65 :=
  match x with
  | (x0, x1, _) => (bif decide ((List.length x0) ≤ 9223372036854775807) then (bif decide ((Int.ofNat (List.length x0)) = (0 : Int)) then (bif decide (x1 = (0 : Int)) then (some (([] :: []), ())) else (some ([], ()))) else (bif ib (0 : Int) (Int.ofNat (List.length x0)) then (match (g115 ((List.getD x0 (tn (0 : Int)) (Ty.dflt (.pair (.int .i64) (.pair (.int .i64) (.pair (.slice 135 (.pair (.arr 3 (.int .u8)) (.pair (.int .i64) .unit))) .unit))))), ())) with | some r7 => (bif (!decide (r7.1 = (0 : Int))) then (ru65_7 g65 g115 F ((x0, ()), ((x1, ()), (([], ()), ((r7.1, ()), (((w6 (Int.tdiv x1 r7.1)), ()), ()))))) (fun s' => match s' with | ((t0, _), (t1, _), (t5, _), (t6, _), (t7, _), _) => (some (t5, ())))) else none) | none => none) else none)) else none)
theorem ev65_11 (g65 : G65) (g115 : G115) (F : Nat) (s : ShVal sh65_11) (k kx : ShVal sh65_11 → Option R65) : evL TT (ct65 g65 g115 ) kp65 [] (loopOf Try.f65 11) (envOf sh65_11 s) (fitK sh65_11 k) (fun j e => bif Nat.beq j 2 then fitK sh65_11 kx e else none) kr65 = st65_11 g65 g115 F s k kx := by
  obtain ⟨⟨t0, _⟩, ⟨t1, _⟩, ⟨t5, _⟩, ⟨t6, _⟩, ⟨t7, _⟩, ⟨t8, _⟩, ⟨t9, _⟩, _⟩ := s
  kernel_rfl
theorem ok65_11 (g65 : G65) (g115 : G115) (F : Nat) (hK : KOK Try.prog (ct65 g65 g115 )) : LSOK Try.prog ⟨55, false, undef⟩ (ls65_11 g65 g115 F) (loopOf Try.f65 11) kr65 :=
  loop_ok (st65_11 g65 g115 F) mixed tt_ok hK (by kernel_rfl) (LTOK_by (l := []) (by kernel_rfl) trivial) (ev65_11 g65 g115 F)
theorem ev65_7 (g65 : G65) (g115 : G115) (F : Nat) (s : ShVal sh65_7) (k kx : ShVal sh65_7 → Option R65) : evL TT (ct65 g65 g115 ) kp65 [(11, ls65_11 g65 g115 F)] (loopOf Try.f65 7) (envOf sh65_7 s) (fitK sh65_7 k) (fun j e => bif Nat.beq j 0 then fitK sh65_7 kx e else none) kr65 = st65_7 g65 g115 F s k kx := by
  obtain ⟨⟨t0, _⟩, ⟨t1, _⟩, ⟨t5, _⟩, ⟨t6, _⟩, ⟨t7, _⟩, _⟩ := s
  kernel_rfl
theorem ok65_7 (g65 : G65) (g115 : G115) (F : Nat) (hK : KOK Try.prog (ct65 g65 g115 )) : LSOK Try.prog ⟨55, false, undef⟩ (ls65_7 g65 g115 F) (loopOf Try.f65 7) kr65 :=
  loop_ok (st65_7 g65 g115 F) mixed tt_ok hK (by kernel_rfl) (LTOK_by (l := [loopOf Try.f65 11]) (by kernel_rfl) ⟨ls_at (by kernel_rfl) (ok65_11 g65 g115 F hK), trivial⟩) (ev65_7 g65 g115 F)
theorem ev65 (g65 : G65) (g115 : G115) (F : Nat) (x : Args [.v (.slice 58 poly), .v i64]) : fnK TT (ct65 g65 g115 ) kp65 [(.slice 24 (.slice 2 i64))] [(7, ls65_7 g65 g115 F)] (bodyOf Try.f65) [.tmp 4] [.v (.slice 58 poly), .v i64] true false x = fn65 g65 g115 F x := by
  obtain ⟨x0, x1, _⟩ := x
  kernel_rfl
theorem ok65 (g65 : G65) (g115 : G115) (hK : KOK Try.prog (ct65 g65 g115 )) (cf : G65) (h : ∀ x y, cf x = some y → ∃ F, fn65 g65 g115 F x = some y) : KOne Try.prog 65 ⟨[.v (.slice 58 poly), .v i64], [(.slice 24 (.slice 2 i64))], true, false, 0, cf⟩ :=
  fn_one rfl (c := bodyOf Try.f65) mixed tt_ok hK Try.func65 (by kernel_rfl) (by kernel_rfl) (Nat.le_of_ble_eq_true (by kernel_rfl)) (by decide) fun x y hxy => by
    obtain ⟨F, hF⟩ := h x y hxy
    exact ⟨[(7, ls65_7 g65 g115 F)], LTOK_by (l := [loopOf Try.f65 7]) (by kernel_rfl) ⟨ls_at (by kernel_rfl) (ok65_7 g65 g115 F hK), trivial⟩, (ev65 g65 g115 F x).trans hF⟩
abbrev R22 : Type := Ress [(.slice 24 (.slice 2 i64)), i64]
abbrev G22 : Type := Args [.v (.slice 58 poly), .v i64] → Option R22
abbrev kp22 : List (Nat × List Nat) := [(0, [1, 0]), (1, [1, 0, 6]), (2, [11, 1, 0, 6]), (3, [5, 4]), (4, [5, 4])]
abbrev ct22 (g64 : G64) (g65 : G65) : CTab := [(64, ⟨[.v (.slice 58 poly), .v i64], [i64], false, false, 0, g64⟩), (65, ⟨[.v (.slice 58 poly), .v i64], [(.slice 24 (.slice 2 i64))], true, false, 0, g65⟩)]
def fn22 (g64 : G64) (g65 : G65) (F : Nat) (x : Args [.v (.slice 58 poly), .v i64]) : Option R22 :=
  match x with
  | (x0, x1, _) => (match (g64 (x0, (x1, ()))) with | some r6 => (bif (!decide (r6.1 = (0 : Int))) then (some ([], (r6.1, ()))) else (match (g65 (x0, (x1, ()))) with | some r9 => (some (r9.1, ((0 : Int), ()))) | none => none)) | none => none)
theorem ev22 (g64 : G64) (g65 : G65) (F : Nat) (x : Args [.v (.slice 58 poly), .v i64]) : fnK TT (ct22 g64 g65 ) kp22 [(.slice 24 (.slice 2 i64)), i64] [] (bodyOf Try.f22) [.tmp 4, .tmp 5] [.v (.slice 58 poly), .v i64] true false x = fn22 g64 g65 F x := by
  obtain ⟨x0, x1, _⟩ := x
  kernel_rfl
theorem ok22 (g64 : G64) (g65 : G65) (hK : KOK Try.prog (ct22 g64 g65 )) (cf : G22) (h : ∀ x y, cf x = some y → ∃ F, fn22 g64 g65 F x = some y) : KOne Try.prog 22 ⟨[.v (.slice 58 poly), .v i64], [(.slice 24 (.slice 2 i64)), i64], true, false, 0, cf⟩ :=
  fn_one rfl (c := bodyOf Try.f22) mixed tt_ok hK Try.func22 (by kernel_rfl) (by kernel_rfl) (Nat.le_of_ble_eq_true (by kernel_rfl)) (by decide) fun x y hxy => by
    obtain ⟨F, hF⟩ := h x y hxy
    exact ⟨[], LTOK_by (l := []) (by kernel_rfl) trivial, (ev22 g64 g65 F x).trans hF⟩
abbrev R69 : Type := Ress [(.slice 24 (.slice 2 i64))]
abbrev G69 : Type := Args [.v (.slice 58 poly), .v i64] → Option R69
abbrev kp69 : List (Nat × List Nat) := [(0, [0, 1]), (1, [12, 0, 1]), (2, [14]), (3, [4]), (4, [4]), (5, [5, 1, 0]), (6, [6, 5, 1, 0]), (7, [6, 7, 5, 1, 0]), (8, [26, 7, 6, 5, 1, 0]), (10, [38, 7, 6, 36, 5, 1, 0, 37]), (11, [39, 6, 38, 7, 36, 5, 1, 0, 37]), (12, [6, 9, 38, 7, 36, 5, 1, 0, 37]), (13, [38, 7, 6, 36, 5, 1, 0, 37]), (14, [38, 7, 6, 36, 5, 1, 0, 37]), (9, [6, 7, 5, 1, 0]), (15, [4])]
abbrev ct69 (g69 : G69) (g117 : G117) : CTab := [(69, ⟨[.v (.slice 58 poly), .v i64], [(.slice 24 (.slice 2 i64))], true, false, 0, g69⟩), (117, ⟨[.v poly], [i64], false, false, 0, g117⟩)]
abbrev kr69 : Env → Option R69 := endK TT [.tmp 4] [(.slice 24 (.slice 2 i64))] true false
abbrev sh69_11 : Shape := [(0, .val false [.fz (.slice 58 poly) 0 true]), (1, vv i64), (5, vv i64), (6, vr 24 (.slice 2 i64) 97 false), (7, vv i64), (36, vr 24 (.slice 2 i64) 577 false), (37, vv i64), (38, vv i64)]
def st69_11 (g69 : G69) (g117 : G117) (F : Nat) (s : ShVal sh69_11) (k kx : ShVal sh69_11 → Option R69) : Option R69 :=
  match s with
  | ((t0, _), (t1, _), (t5, _), (t6, _), (t7, _), (t36, _), (t37, _), (t38, _), _) => (bif decide (t38 < t37) then (bif ib t38 (Int.ofNat (List.length t36)) then (bif (growOk (List.length (t7 :: [])) (List.length (List.getD t36 (tn t38) []))) then (bif (growOk (List.length t6) (List.length (((t7 :: []) ++ (List.getD t36 (tn t38) [])) :: []))) then k ((t0, ()), ((t1, ()), ((t5, ()), (((t6 ++ (((t7 :: []) ++ (List.getD t36 (tn t38) [])) :: [])), ()), ((t7, ()), ((t36, ()), ((t37, ()), (((w6 (t38 + (1 : Int))), ()), ())))))))) else none) else none) else none) else kx ((t0, ()), ((t1, ()), ((t5, ()), ((t6, ()), ((t7, ()), ((t36, ()), ((t37, ()), ((t38, ()), ())))))))))
def ru69_11 (g69 : G69) (g117 : G117) (F : Nat) (s : ShVal sh69_11) (kx : ShVal sh69_11 → Option R69) : Option R69 := iter (fun s k => st69_11 g69 g117 F s k kx) F s
abbrev ls69_11 (g69 : G69) (g117 : G117) (F : Nat) : LS R69 := ⟨sh69_11, 2, ru69_11 g69 g117 F⟩
abbrev sh69_8 : Shape := [(0, .val false [.fz (.slice 58 poly) 0 true]), (1, vv i64), (5, vv i64), (6, vr 24 (.slice 2 i64) 97 false), (7, vv i64)]
def st69_8 (g69 : G69) (g117 : G117) (F : Nat) (s : ShVal sh69_8) (k kx : ShVal sh69_8 → Option R69) : Option R69 :=
  match s with
  | ((t0, _), (t1, _), (t5, _), (t6, _), (t7, _), _) => (bif decide ((0 : Int) ≤ t7) then (bif ((decide ((0 : Int) ≤ (1 : Int)) && decide ((1 : Int) ≤ (Int.ofNat (List.length t0)))) && decide ((Int.ofNat (List.length t0)) ≤ (Int.ofNat (List.length t0)))) then (match (g69 ((List.drop (tn (1 : Int)) (List.take (tn (Int.ofNat (List.length t0))) t0)), ((w6 (t1 - (w6 (t7 * t5)))), ()))) with | some r17 => (bif decide ((List.length r17.1) ≤ 9223372036854775807) then (ru69_11 g69 g117 F ((t0, ()), ((t1, ()), ((t5, ()), ((t6, ()), ((t7, ()), ((r17.1, ()), (((Int.ofNat (List.length r17.1)), ()), (((0 : Int), ()), ())))))))) (fun s' => match s' with | ((t0, _), (t1, _), (t5, _), (t6, _), (t7, _), (t36, _), (t37, _), (t38, _), _) => k ((t0, ()), ((t1, ()), ((t5, ()), ((t6, ()), (((w6 (t7 - (1 : Int))), ()), ()))))))) else none) | none => none) else none) else kx ((t0, ()), ((t1, ()), ((t5, ()), ((t6, ()), ((t7, ()), ()))))))
def ru69_8 (g69 : G69) (g117 : G117) (F : Nat) (s : ShVal sh69_8) (kx : ShVal sh69_8 → Option R69) : Option R69 := iter (fun s k => st69_8 g69 g117 F s k kx) F s
abbrev ls69_8 (g69 : G69) (g117 : G117) (F : Nat) : LS R69 := ⟨sh69_8, 0, ru69_8 g69 g117 F⟩
def fn69 (g69 : G69) (g117 : G117) (F : Nat) (x : Args [.v (.slice 58 poly), .v i64]) : Option R69 :=
  match x with
  | (x0, x1, _) => (bif decide ((List.length x0) ≤ 9223372036854775807) then (bif decide ((Int.ofNat (List.length x0)) = (0 : Int)) then (bif decide (x1 = (0 : Int)) then (some (([] :: []), ())) else (some ([], ()))) else (bif ib (0 : Int) (Int.ofNat (List.length x0)) then (match (g117 ((List.getD x0 (tn (0 : Int)) (Ty.dflt (.pair (.int .i64) (.pair (.int .i64) (.pair (.slice 135 (.pair (.arr 3 (.int .u8)) (.pair (.int .i64) .unit))) .unit))))), ())) with | some r7 => (bif (!decide (r7.1 = (0 : Int))) then (ru69_8 g69 g117 F ((x0, ()), ((x1, ()), ((r7.1, ()), (([], ()), (((w6 (Int.tdiv x1 r7.1)), ()), ()))))) (fun s' => match s' with | ((t0, _), (t1, _), (t5, _), (t6, _), (t7, _), _) => (some (t6, ())))) else none) | none => none) else none)) else none)
theorem ev69_11 (g69 : G69) (g117 : G117) (F : Nat) (s : ShVal sh69_11) (k kx : ShVal sh69_11 → Option R69) : evL TT (ct69 g69 g117 ) kp69 [] (loopOf Try.f69 11) (envOf sh69_11 s) (fitK sh69_11 k) (fun j e => bif Nat.beq j 2 then fitK sh69_11 kx e else none) kr69 = st69_11 g69 g117 F s k kx := by
  obtain ⟨⟨t0, _⟩, ⟨t1, _⟩, ⟨t5, _⟩, ⟨t6, _⟩, ⟨t7, _⟩, ⟨t36, _⟩, ⟨t37, _⟩, ⟨t38, _⟩, _⟩ := s
  kernel_rfl
theorem ok69_11 (g69 : G69) (g117 : G117) (F : Nat) (hK : KOK Try.prog (ct69 g69 g117 )) : LSOK Try.prog ⟨51, false, undef⟩ (ls69_11 g69 g117 F) (loopOf Try.f69 11) kr69 :=
  loop_ok (st69_11 g69 g117 F) mixed tt_ok hK (by kernel_rfl) (LTOK_by (l := []) (by kernel_rfl) trivial) (ev69_11 g69 g117 F)
theorem ev69_8 (g69 : G69) (g117 : G117) (F : Nat) (s : ShVal sh69_8) (k kx : ShVal sh69_8 → Option R69) : evL TT (ct69 g69 g117 ) kp69 [(11, ls69_11 g69 g117 F)] (loopOf Try.f69 8) (envOf sh69_8 s) (fitK sh69_8 k) (fun j e => bif Nat.beq j 0 then fitK sh69_8 kx e else none) kr69 = st69_8 g69 g117 F s k kx := by
  obtain ⟨⟨t0, _⟩, ⟨t1, _⟩, ⟨t5, _⟩, ⟨t6, _⟩, ⟨t7, _⟩, _⟩ := s
  kernel_rfl
theorem ok69_8 (g69 : G69) (g117 : G117) (F : Nat) (hK : KOK Try.prog (ct69 g69 g117 )) : LSOK Try.prog ⟨51, false, undef⟩ (ls69_8 g69 g117 F) (loopOf Try.f69 8) kr69 :=
  loop_ok (st69_8 g69 g117 F) mixed tt_ok hK (by kernel_rfl) (LTOK_by (l := [loopOf Try.f69 11]) (by kernel_rfl) ⟨ls_at (by kernel_rfl) (ok69_11 g69 g117 F hK), trivial⟩) (ev69_8 g69 g117 F)
theorem ev69 (g69 : G69) (g117 : G117) (F : Nat) (x : Args [.v (.slice 58 poly), .v i64]) : fnK TT (ct69 g69 g117 ) kp69 [(.slice 24 (.slice 2 i64))] [(8, ls69_8 g69 g117 F)] (bodyOf Try.f69) [.tmp 4] [.v (.slice 58 poly), .v i64] true false x = fn69 g69 g117 F x := by
  obtain ⟨x0, x1, _⟩ := x
  kernel_rfl
theorem ok69 (g69 : G69) (g117 : G117) (hK : KOK Try.prog (ct69 g69 g117 )) (cf : G69) (h : ∀ x y, cf x = some y → ∃ F, fn69 g69 g117 F x = some y) : KOne Try.prog 69 ⟨[.v (.slice 58 poly), .v i64], [(.slice 24 (.slice 2 i64))], true, false, 0, cf⟩ :=
  fn_one rfl (c := bodyOf Try.f69) mixed tt_ok hK Try.func69 (by kernel_rfl) (by kernel_rfl) (Nat.le_of_ble_eq_true (by kernel_rfl)) (by decide) fun x y hxy => by
    obtain ⟨F, hF⟩ := h x y hxy
    exact ⟨[(8, ls69_8 g69 g117 F)], LTOK_by (l := [loopOf Try.f69 8]) (by kernel_rfl) ⟨ls_at (by kernel_rfl) (ok69_8 g69 g117 F hK), trivial⟩, (ev69 g69 g117 F x).trans hF⟩
abbrev R24 : Type := Ress [(.slice 24 (.slice 2 i64)), i64]
abbrev G24 : Type := Args [.v (.slice 58 poly), .v i64] → Option R24
abbrev kp24 : List (Nat × List Nat) := [(0, [0, 1]), (1, [0, 1, 6]), (2, [10, 0, 1, 6]), (3, [5, 4]), (4, [14, 1, 0]), (5, [5, 4]), (6, [5, 4])]
abbrev ct24 (g67 : G67) (g69 : G69) (g68 : G68) : CTab := [(67, ⟨[.v (.slice 58 poly)], [i64], false, false, 0, g67⟩), (69, ⟨[.v (.slice 58 poly), .v i64], [(.slice 24 (.slice 2 i64))], true, false, 0, g69⟩), (68, ⟨[.v i64], [.bool], false, false, 0, g68⟩)]
def fn24 (g67 : G67) (g69 : G69) (g68 : G68) (F : Nat) (x : Args [.v (.slice 58 poly), .v i64]) : Option R24 :=
  match x with
  | (x0, x1, _) => (match (g67 (x0, ())) with | some r7 => (bif (!decide (r7.1 = (0 : Int))) then (some ([], (r7.1, ()))) else (match (g68 (x1, ())) with | some r10 => (bif (!r10.1) then (some ([], ((2 : Int), ()))) else (match (g69 (x0, (x1, ()))) with | some r12 => (some (r12.1, ((0 : Int), ()))) | none => none)) | none => none)) | none => none)
theorem ev24 (g67 : G67) (g69 : G69) (g68 : G68) (F : Nat) (x : Args [.v (.slice 58 poly), .v i64]) : fnK TT (ct24 g67 g69 g68 ) kp24 [(.slice 24 (.slice 2 i64)), i64] [] (bodyOf Try.f24) [.tmp 4, .tmp 5] [.v (.slice 58 poly), .v i64] true false x = fn24 g67 g69 g68 F x := by
  obtain ⟨x0, x1, _⟩ := x
  kernel_rfl
theorem ok24 (g67 : G67) (g69 : G69) (g68 : G68) (hK : KOK Try.prog (ct24 g67 g69 g68 )) (cf : G24) (h : ∀ x y, cf x = some y → ∃ F, fn24 g67 g69 g68 F x = some y) : KOne Try.prog 24 ⟨[.v (.slice 58 poly), .v i64], [(.slice 24 (.slice 2 i64)), i64], true, false, 0, cf⟩ :=
  fn_one rfl (c := bodyOf Try.f24) mixed tt_ok hK Try.func24 (by kernel_rfl) (by kernel_rfl) (Nat.le_of_ble_eq_true (by kernel_rfl)) (by decide) fun x y hxy => by
    obtain ⟨F, hF⟩ := h x y hxy
    exact ⟨[], LTOK_by (l := []) (by kernel_rfl) trivial, (ev24 g67 g69 g68 F x).trans hF⟩
def downR (f : Nat → List (List Int)) : Nat → List (List Int)
  | 0 => []
  | m + 1 => f m ++ downR f m
def expL : List Po → Int → List (List Int)
  | [], n => if n = 0 then [[]] else []
  | x :: xs, n => downR (fun k => (expL xs (n - (k : Int) * degI (tms x))).map (List.cons (k : Int))) ((n / degI (tms x)).toNat + 1)
def okL (L : List Po) : Prop := ∀ x ∈ L, okTs (tms x) ∧ 1 ≤ degI (tms x) ∧ degI (tms x) ≤ 12
theorem downR_len {f : Nat → List (List Int)} {B : Nat} : ∀ {m : Nat}, (∀ k, k < m → (f k).length ≤ B) → (downR f m).length ≤ m * B
  | 0, _ => Nat.zero_le _
  | m + 1, h => by
    have := downR_len (f := f) (m := m) fun k hk => h k (by omega)
    have h0 := h m (by omega)
    simp only [downR, List.length_append, Nat.succ_mul]; omega
theorem downR_mem {f : Nat → List (List Int)} {r : List Int} : ∀ {m : Nat}, r ∈ downR f m → ∃ k, k < m ∧ r ∈ f k
  | 0, h => by cases h
  | m + 1, h => by
    simp only [downR, List.mem_append] at h
    rcases h with h | h
    · exact ⟨m, by omega, h⟩
    · obtain ⟨k, h1, h2⟩ := downR_mem h; exact ⟨k, by omega, h2⟩
theorem expL_len : ∀ {L : List Po} {n : Int}, okL L → n ≤ 12 → (expL L n).length ≤ 13 ^ L.length
  | [], n, _, _ => by simp only [expL]; split <;> simp
  | x :: xs, n, h, hn => by
    obtain ⟨_, h1, h2⟩ := h x (.head _)
    have h' : okL xs := fun y hy => h y (.tail _ hy)
    have q1 : n / degI (tms x) ≤ 12 := by
      rcases Int.lt_or_le n 0 with q | q
      · have := Int.ediv_neg_of_neg_of_pos q (show 0 < degI (tms x) by omega); omega
      · have := Int.ediv_le_self (degI (tms x)) q; omega
    simp only [expL]
    refine Nat.le_trans (downR_len (B := 13 ^ xs.length) fun k hk => ?_) ?_
    · rw [List.length_map]
      refine expL_len h' ?_
      have : 0 ≤ (k : Int) * degI (tms x) := Int.mul_nonneg (by omega) (by omega)
      omega
    · rw [List.length_cons, Nat.pow_succ, Nat.mul_comm]
      exact Nat.mul_le_mul_left _ (by omega)
theorem expL_row : ∀ {L : List Po} {n : Int}, ∀ r ∈ expL L n, r.length = L.length
  | [], n, r, h => by
    simp only [expL] at h
    split at h
    · simp at h; rw [h]; rfl
    · cases h
  | x :: xs, n, r, h => by
    simp only [expL] at h
    obtain ⟨k, _, hk⟩ := downR_mem h
    obtain ⟨s, hs, rfl⟩ := List.mem_map.1 hk
    have := expL_row s hs
    simp [this]
theorem in65 {g65 : G65} {L : List Po} {n d k : Int} {R : List (List Int)} {F0 : Nat} {kx : ShVal sh65_11 → Option R65} (hR : R.length ≤ 1000000000) (hr : ∀ r ∈ R, r.length ≤ 1000) : ∀ (r pre : List (List Int)) (out : List (List Int)) (F : Nat), pre ++ r = R → r.length < F → out.length + r.length ≤ 100000000000 →
    iter (fun s k => st65_11 g65 cf115 F0 s k kx) F ((L, ()), ((n, ()), ((out, ()), ((d, ()), ((k, ()), ((R, ()), (((pre.length : Int), ()), ()))))))) = kx ((L, ()), ((n, ()), ((out ++ r.map (List.cons k), ()), ((d, ()), ((k, ()), ((R, ()), (((R.length : Int), ()), ())))))))
  | [], pre, out, F, e, hF, ho => by
    obtain ⟨F, rfl⟩ : ∃ f, F = f + 1 := ⟨F - 1, by simp at hF; omega⟩
    rw [List.append_nil] at e; subst e
    simp only [iter, st65_11]
    simp (disch := omega) only [dln_t, cond_true, ofn, dlt_f, cond_false]
    simp
  | x :: r, pre, out, F, e, hF, ho => by
    obtain ⟨F, rfl⟩ : ∃ f, F = f + 1 := ⟨F - 1, by simp at hF; omega⟩
    have l1 : pre.length < R.length := by rw [← e]; simp
    have g1 : ∀ dd, R.getD pre.length dd = x := fun dd => by rw [← e, List.getD_eq_getElem?_getD, List.getElem?_append_right (Nat.le_refl _)]; simp
    have hx := hr x (by rw [← e]; simp)
    simp only [List.length_cons] at ho
    have ih := in65 (g65 := g65) (L := L) (n := n) (d := d) (k := k) (F0 := F0) (kx := kx) hR hr r (pre ++ [x]) (out ++ [k :: x]) F (by simpa using e) (by simp at hF; omega) (by simp; omega)
    simp only [List.length_append, List.length_singleton] at ih
    simp only [iter, st65_11]
    simp (disch := omega) only [dln_t, cond_true, ofn, dlt_t, ib_t, tn_cast, g1, w6_id]
    rw [grow_t (by simp; omega), grow_t (by simp; omega)]
    simp only [cond_true]
    refine Eq.trans ?_ (ih.trans ?_)
    · rfl
    · simp
theorem out65 {g65 : G65} {x : Po} {xs : List Po} {n : Int} {f0 : Nat} {kx : ShVal sh65_7 → Option R65} (hx : 1 ≤ degI (tms x) ∧ degI (tms x) ≤ 12) (hok : okL xs) (hn : 0 ≤ n ∧ n ≤ 12) (hl : xs.length ≤ 7) (hg : ∀ m : Int, 0 ≤ m → m ≤ 12 → g65 (xs, m, ()) = some (expL xs m, ())) (hF0 : 100000000 < f0) :
    ∀ (m : Nat) (out : List (List Int)) (F : Nat), m < F → ((m : Int) - 1) * degI (tms x) ≤ n → m ≤ 13 → out.length + m * 62748517 ≤ 10000000000 →
    iter (fun s k => st65_7 g65 cf115 f0 s k kx) F ((x :: xs, ()), ((n, ()), ((out, ()), ((degI (tms x), ()), ((((m : Int) - 1, ()), ())))))) = kx ((x :: xs, ()), ((n, ()), ((out ++ downR (fun k => (expL xs (n - (k : Int) * degI (tms x))).map (List.cons (k : Int))) m, ()), ((degI (tms x), ()), ((((-1 : Int), ()), ()))))))
  | 0, out, F, hF, hm, h13, hb => by
    obtain ⟨F, rfl⟩ : ∃ f, F = f + 1 := ⟨F - 1, by omega⟩
    simp only [iter, st65_7]
    rw [dle_f (by omega), cond_false]
    simp [downR]
  | m + 1, out, F, hF, hm, h13, hb => by
    obtain ⟨F, rfl⟩ : ∃ f, F = f + 1 := ⟨F - 1, by omega⟩
    have em : ((m + 1 : Nat) : Int) - 1 = (m : Int) := by omega
    rw [em] at hm ⊢
    have hmul : 0 ≤ (m : Int) * degI (tms x) := Int.mul_nonneg (by omega) (by omega)
    have hmul2 : ((m : Int) - 1) * degI (tms x) ≤ n := by rw [Int.sub_mul]; omega
    have hE := expL_len (n := n - (m : Int) * degI (tms x)) hok (by omega)
    have hp : (13 : Nat) ^ xs.length ≤ 13 ^ 7 := Nat.pow_le_pow_right (by omega) hl
    have h7 : (13 : Nat) ^ 7 = 62748517 := by decide
    have hrow : ∀ r ∈ expL xs (n - (m : Int) * degI (tms x)), r.length ≤ 1000 := fun r hr => by have := expL_row r hr; omega
    have g := hg (n - (m : Int) * degI (tms x)) (by omega) (by omega)
    have w1 : w6 ((m : Int) * degI (tms x)) = (m : Int) * degI (tms x) := w6_id (by omega) (by omega)
    have w2 : w6 (n - (m : Int) * degI (tms x)) = n - (m : Int) * degI (tms x) := w6_id (by omega) (by omega)
    have w3 : w6 ((m : Int) - 1) = (m : Int) - 1 := w6_id (by omega) (by omega)
    have ih := out65 (g65 := g65) (f0 := f0) (kx := kx) hx hok hn hl hg hF0 m (out ++ (expL xs (n - (m : Int) * degI (tms x))).map (List.cons (m : Int))) F (by omega) hmul2 (by omega) (by rw [List.length_append, List.length_map]; omega)
    simp only [iter, st65_7]
    rw [dle_t (by omega), cond_true]
    simp only [ofn]
    rw [dle_t (show (0 : Int) ≤ 1 by omega), dle_t (show (1 : Int) ≤ (((x :: xs).length : Nat) : Int) by simp only [List.length_cons]; omega), dle_t (Int.le_refl _)]
    simp only [Bool.and_self, cond_true, w1, w2]
    have ed : List.drop (tn 1) (List.take (tn (((x :: xs).length : Nat) : Int)) (x :: xs)) = xs := by
      rw [tn_cast, List.take_length]; rfl
    show (match g65 (List.drop (tn 1) (List.take (tn (((x :: xs).length : Nat) : Int)) (x :: xs)), n - (m : Int) * degI (tms x), ()) with | some r16 => _ | none => none) = _
    rw [ed, g]
    simp only [ru65_11]
    refine (in65 (g65 := g65) (by omega) hrow (expL xs (n - (m : Int) * degI (tms x))) [] out f0 rfl (by omega) (by omega)).trans ?_
    simp only [w3]
    refine ih.trans ?_
    simp [downR]
def goodL (m : Nat) (L : List Po) (n : Int) : Prop := L.length ≤ m ∧ L.length ≤ 8 ∧ okL L ∧ 0 ≤ n ∧ n ≤ 12
open Classical in
noncomputable def cf65 (m : Nat) : G65 := fun x => if goodL m x.1 x.2.1 then some (expL x.1 x.2.1, ()) else none
theorem none65 : KOne Try.prog 65 ⟨[.v (.slice 58 poly), .v i64], [.slice 24 (.slice 2 i64)], true, false, 0, fun _ => none⟩ := ⟨fun _ x y h => (by cases h), fun q => (by cases q), fun q => (by cases q), Try.f65, Try.func65, by decide, rfl⟩
theorem tdivN {n d : Int} (hn : 0 ≤ n) (hd : 1 ≤ d) : Int.tdiv n d = n / d := Int.tdiv_eq_ediv_of_nonneg hn
theorem step65 {m : Nat} {g65 : G65} (k : KOne Try.prog 65 ⟨[.v (.slice 58 poly), .v i64], [.slice 24 (.slice 2 i64)], true, false, 0, g65⟩)
    (hg : ∀ (xs : List Po) (n : Int), xs.length + 1 ≤ m → goodL m xs n → g65 (xs, n, ()) = some (expL xs n, ())) : KOne Try.prog 65 ⟨[.v (.slice 58 poly), .v i64], [.slice 24 (.slice 2 i64)], true, false, 0, cf65 m⟩ :=
  ok65 _ _ (.cons k (.cons k115 .nil)) (cf65 m) fun x y h => by
    obtain ⟨L, n, _⟩ := x
    change List Po at L
    change Int at n
    simp only [cf65] at h
    split at h
    · rename_i hc
      injection h with h; subst h
      obtain ⟨h1, h2, h3, h4, h5⟩ := hc
      have h4 : (0 : Int) ≤ n := h4
      have h5 : n ≤ (12 : Int) := h5
      have h2 : L.length ≤ 8 := h2
      have h1 : L.length ≤ m := h1
      have h3 : okL L := h3
      obtain ⟨F, hF⟩ : ∃ F : Nat, 100000000 < F := ⟨100000001, by omega⟩
      refine ⟨F, ?_⟩
      cases L with
      | nil =>
        simp only [fn65]
        show (bif decide (n = 0) then some ([[]], ()) else some ([], ())) = some (if n = 0 then [[]] else [], ())
        by_cases q : n = 0
        · rw [deq_t q, if_pos q]; rfl
        · rw [deq_f q, if_neg q]; rfl
      | cons x xs =>
        obtain ⟨o1, o2, o3⟩ := h3 x (.head _)
        have hok : okL xs := fun y hy => h3 y (.tail _ hy)
        have g : cf115 (x, ()) = some (degI (tms x), ()) := g115_ok (p := x.1) (v := x.2.1) o1
        simp only [List.length_cons] at h1 h2
        have gg : ∀ j : Int, 0 ≤ j → j ≤ 12 → g65 (xs, j, ()) = some (expL xs j, ()) := fun j j0 j1 => hg xs j h1 ⟨by omega, by omega, hok, j0, j1⟩
        have hq1 : n / degI (tms x) ≤ 12 := by have := Int.ediv_le_self (degI (tms x)) h4; omega
        have hq0 : 0 ≤ n / degI (tms x) := Int.ediv_nonneg h4 (by omega)
        have hqm : n / degI (tms x) * degI (tms x) ≤ n := Int.ediv_mul_le n (by omega)
        simp only [fn65, ofn]
        rw [dln_t (by simp only [List.length_cons]; omega), cond_true, deq_f (show (((x :: xs).length : Nat) : Int) ≠ 0 by simp only [List.length_cons]; omega), cond_false, ib_t (by omega) (by simp only [List.length_cons]; omega), cond_true]
        show (match cf115 (x, ()) with | some r7 => _ | none => none) = _
        rw [g]
        show (bif !(decide (degI (tms x) = 0)) then ru65_7 g65 cf115 F ((x :: xs, ()), ((n, ()), (([], ()), ((degI (tms x), ()), (((w6 (Int.tdiv n (degI (tms x)))), ()), ()))))) _ else none) = _
        rw [deq_f (by omega), Bool.not_false, cond_true, tdivN h4 o2, w6_id (by omega) (by omega)]
        have key := fun kx => out65 (g65 := g65) (n := n) (f0 := F) (kx := kx) ⟨o2, o3⟩ hok ⟨h4, h5⟩ (by omega) gg hF ((n / degI (tms x)).toNat + 1) [] F (by omega) (by rw [show ((((n / degI (tms x)).toNat + 1 : Nat) : Int) - 1) = n / degI (tms x) by omega]; exact hqm) (by omega) (by simp; omega)
        rw [show ((((n / degI (tms x)).toNat + 1 : Nat) : Int) - 1) = n / degI (tms x) by omega] at key
        refine (key _).trans ?_
        simp only [expL, List.nil_append]
    · cases h
theorem k65 : ∀ m, KOne Try.prog 65 ⟨[.v (.slice 58 poly), .v i64], [.slice 24 (.slice 2 i64)], true, false, 0, cf65 m⟩
  | 0 => step65 none65 fun xs n h _ => by omega
  | m + 1 => step65 (k65 m) fun xs n h hg => if_pos (show goodL m xs n from ⟨by omega, hg.2⟩)
theorem g65_ok {L : List Po} {n : Int} (h : L.length ≤ 8) (ho : okL L) (hn : 0 ≤ n ∧ n ≤ 12) : cf65 8 (L, n, ()) = some (expL L n, ()) := if_pos ⟨h, h, ho, hn⟩
theorem in69 {g69 : G69} {L : List Po} {n d k : Int} {R : List (List Int)} {F0 : Nat} {kx : ShVal sh69_11 → Option R69} (hR : R.length ≤ 1000000000) (hr : ∀ r ∈ R, r.length ≤ 1000) : ∀ (r pre : List (List Int)) (out : List (List Int)) (F : Nat), pre ++ r = R → r.length < F → out.length + r.length ≤ 100000000000 →
    iter (fun s k => st69_11 g69 cf117 F0 s k kx) F ((L, ()), ((n, ()), ((d, ()), ((out, ()), ((k, ()), ((R, ()), (((R.length : Int), ()), (((pre.length : Int), ()), ())))))))) = kx ((L, ()), ((n, ()), ((d, ()), ((out ++ r.map (List.cons k), ()), ((k, ()), ((R, ()), (((R.length : Int), ()), (((R.length : Int), ()), ()))))))))
  | [], pre, out, F, e, hF, ho => by
    obtain ⟨F, rfl⟩ : ∃ f, F = f + 1 := ⟨F - 1, by simp at hF; omega⟩
    rw [List.append_nil] at e; subst e
    simp only [iter, st69_11]
    simp (disch := omega) only [ofn, dlt_f, cond_false]
    simp
  | x :: r, pre, out, F, e, hF, ho => by
    obtain ⟨F, rfl⟩ : ∃ f, F = f + 1 := ⟨F - 1, by simp at hF; omega⟩
    have l1 : pre.length < R.length := by rw [← e]; simp
    have g1 : ∀ dd, R.getD pre.length dd = x := fun dd => by rw [← e, List.getD_eq_getElem?_getD, List.getElem?_append_right (Nat.le_refl _)]; simp
    have hx := hr x (by rw [← e]; simp)
    simp only [List.length_cons] at ho
    have ih := in69 (g69 := g69) (L := L) (n := n) (d := d) (k := k) (F0 := F0) (kx := kx) hR hr r (pre ++ [x]) (out ++ [k :: x]) F (by simpa using e) (by simp at hF; omega) (by simp; omega)
    simp only [List.length_append, List.length_singleton] at ih
    simp only [iter, st69_11]
    simp (disch := omega) only [cond_true, ofn, dlt_t, ib_t, tn_cast, g1, w6_id]
    rw [grow_t (by simp; omega), grow_t (by simp; omega)]
    simp only [cond_true]
    refine Eq.trans ?_ (ih.trans ?_)
    · rfl
    · simp
theorem out69 {g69 : G69} {x : Po} {xs : List Po} {n : Int} {f0 : Nat} {kx : ShVal sh69_8 → Option R69} (hx : 1 ≤ degI (tms x) ∧ degI (tms x) ≤ 12) (hok : okL xs) (hn : 0 ≤ n ∧ n ≤ 12) (hl : xs.length ≤ 7) (hg : ∀ m : Int, 0 ≤ m → m ≤ 12 → g69 (xs, m, ()) = some (expL xs m, ())) (hF0 : 100000000 < f0) :
    ∀ (m : Nat) (out : List (List Int)) (F : Nat), m < F → ((m : Int) - 1) * degI (tms x) ≤ n → m ≤ 13 → out.length + m * 62748517 ≤ 10000000000 →
    iter (fun s k => st69_8 g69 cf117 f0 s k kx) F ((x :: xs, ()), ((n, ()), ((degI (tms x), ()), ((out, ()), ((((m : Int) - 1, ()), ())))))) = kx ((x :: xs, ()), ((n, ()), ((degI (tms x), ()), ((out ++ downR (fun k => (expL xs (n - (k : Int) * degI (tms x))).map (List.cons (k : Int))) m, ()), ((((-1 : Int), ()), ()))))))
  | 0, out, F, hF, hm, h13, hb => by
    obtain ⟨F, rfl⟩ : ∃ f, F = f + 1 := ⟨F - 1, by omega⟩
    simp only [iter, st69_8]
    rw [dle_f (by omega), cond_false]
    simp [downR]
  | m + 1, out, F, hF, hm, h13, hb => by
    obtain ⟨F, rfl⟩ : ∃ f, F = f + 1 := ⟨F - 1, by omega⟩
    have em : ((m + 1 : Nat) : Int) - 1 = (m : Int) := by omega
    rw [em] at hm ⊢
    have hmul : 0 ≤ (m : Int) * degI (tms x) := Int.mul_nonneg (by omega) (by omega)
    have hmul2 : ((m : Int) - 1) * degI (tms x) ≤ n := by rw [Int.sub_mul]; omega
    have hE := expL_len (n := n - (m : Int) * degI (tms x)) hok (by omega)
    have hp : (13 : Nat) ^ xs.length ≤ 13 ^ 7 := Nat.pow_le_pow_right (by omega) hl
    have h7 : (13 : Nat) ^ 7 = 62748517 := by decide
    have hrow : ∀ r ∈ expL xs (n - (m : Int) * degI (tms x)), r.length ≤ 1000 := fun r hr => by have := expL_row r hr; omega
    have g := hg (n - (m : Int) * degI (tms x)) (by omega) (by omega)
    have w1 : w6 ((m : Int) * degI (tms x)) = (m : Int) * degI (tms x) := w6_id (by omega) (by omega)
    have w2 : w6 (n - (m : Int) * degI (tms x)) = n - (m : Int) * degI (tms x) := w6_id (by omega) (by omega)
    have w3 : w6 ((m : Int) - 1) = (m : Int) - 1 := w6_id (by omega) (by omega)
    have ih := out69 (g69 := g69) (f0 := f0) (kx := kx) hx hok hn hl hg hF0 m (out ++ (expL xs (n - (m : Int) * degI (tms x))).map (List.cons (m : Int))) F (by omega) hmul2 (by omega) (by rw [List.length_append, List.length_map]; omega)
    simp only [iter, st69_8]
    rw [dle_t (by omega), cond_true]
    simp only [ofn]
    rw [dle_t (show (0 : Int) ≤ 1 by omega), dle_t (show (1 : Int) ≤ (((x :: xs).length : Nat) : Int) by simp only [List.length_cons]; omega), dle_t (Int.le_refl _)]
    simp only [Bool.and_self, cond_true, w1, w2]
    have ed : List.drop (tn 1) (List.take (tn (((x :: xs).length : Nat) : Int)) (x :: xs)) = xs := by
      rw [tn_cast, List.take_length]; rfl
    show (match g69 (List.drop (tn 1) (List.take (tn (((x :: xs).length : Nat) : Int)) (x :: xs)), n - (m : Int) * degI (tms x), ()) with | some r17 => _ | none => none) = _
    rw [ed, g]
    show (bif decide ((expL xs (n - (m : Int) * degI (tms x))).length ≤ 9223372036854775807) then _ else none) = _
    rw [dln_t (by omega), cond_true]
    simp only [ru69_11, ofn]
    refine (in69 (g69 := g69) (by omega) hrow (expL xs (n - (m : Int) * degI (tms x))) [] out f0 rfl (by omega) (by omega)).trans ?_
    simp only [w3]
    refine ih.trans ?_
    simp [downR]
open Classical in
noncomputable def cf69 (m : Nat) : G69 := fun x => if goodL m x.1 x.2.1 then some (expL x.1 x.2.1, ()) else none
theorem none69 : KOne Try.prog 69 ⟨[.v (.slice 58 poly), .v i64], [.slice 24 (.slice 2 i64)], true, false, 0, fun _ => none⟩ := ⟨fun _ x y h => (by cases h), fun q => (by cases q), fun q => (by cases q), Try.f69, Try.func69, by decide, rfl⟩
theorem step69 {m : Nat} {g69 : G69} (k : KOne Try.prog 69 ⟨[.v (.slice 58 poly), .v i64], [.slice 24 (.slice 2 i64)], true, false, 0, g69⟩)
    (hg : ∀ (xs : List Po) (n : Int), xs.length + 1 ≤ m → goodL m xs n → g69 (xs, n, ()) = some (expL xs n, ())) : KOne Try.prog 69 ⟨[.v (.slice 58 poly), .v i64], [.slice 24 (.slice 2 i64)], true, false, 0, cf69 m⟩ :=
  ok69 _ _ (.cons k (.cons k117 .nil)) (cf69 m) fun x y h => by
    obtain ⟨L, n, _⟩ := x
    change List Po at L
    change Int at n
    simp only [cf69] at h
    split at h
    · rename_i hc
      injection h with h; subst h
      obtain ⟨h1, h2, h3, h4, h5⟩ := hc
      have h4 : (0 : Int) ≤ n := h4
      have h5 : n ≤ (12 : Int) := h5
      have h2 : L.length ≤ 8 := h2
      have h1 : L.length ≤ m := h1
      have h3 : okL L := h3
      obtain ⟨F, hF⟩ : ∃ F : Nat, 100000000 < F := ⟨100000001, by omega⟩
      refine ⟨F, ?_⟩
      cases L with
      | nil =>
        simp only [fn69]
        show (bif decide (n = 0) then some ([[]], ()) else some ([], ())) = some (if n = 0 then [[]] else [], ())
        by_cases q : n = 0
        · rw [deq_t q, if_pos q]; rfl
        · rw [deq_f q, if_neg q]; rfl
      | cons x xs =>
        obtain ⟨o1, o2, o3⟩ := h3 x (.head _)
        have hok : okL xs := fun y hy => h3 y (.tail _ hy)
        have g : cf117 (x, ()) = some (degI (tms x), ()) := g117_ok (p := x.1) (v := x.2.1) o1
        simp only [List.length_cons] at h1 h2
        have gg : ∀ j : Int, 0 ≤ j → j ≤ 12 → g69 (xs, j, ()) = some (expL xs j, ()) := fun j j0 j1 => hg xs j h1 ⟨by omega, by omega, hok, j0, j1⟩
        have hq1 : n / degI (tms x) ≤ 12 := by have := Int.ediv_le_self (degI (tms x)) h4; omega
        have hq0 : 0 ≤ n / degI (tms x) := Int.ediv_nonneg h4 (by omega)
        have hqm : n / degI (tms x) * degI (tms x) ≤ n := Int.ediv_mul_le n (by omega)
        simp only [fn69, ofn]
        rw [dln_t (by simp only [List.length_cons]; omega), cond_true, deq_f (show (((x :: xs).length : Nat) : Int) ≠ 0 by simp only [List.length_cons]; omega), cond_false, ib_t (by omega) (by simp only [List.length_cons]; omega), cond_true]
        show (match cf117 (x, ()) with | some r7 => _ | none => none) = _
        rw [g]
        show (bif !(decide (degI (tms x) = 0)) then ru69_8 g69 cf117 F ((x :: xs, ()), ((n, ()), ((degI (tms x), ()), (([], ()), (((w6 (Int.tdiv n (degI (tms x)))), ()), ()))))) _ else none) = _
        rw [deq_f (by omega), Bool.not_false, cond_true, tdivN h4 o2, w6_id (by omega) (by omega)]
        have key := fun kx => out69 (g69 := g69) (n := n) (f0 := F) (kx := kx) ⟨o2, o3⟩ hok ⟨h4, h5⟩ (by omega) gg hF ((n / degI (tms x)).toNat + 1) [] F (by omega) (by rw [show ((((n / degI (tms x)).toNat + 1 : Nat) : Int) - 1) = n / degI (tms x) by omega]; exact hqm) (by omega) (by simp; omega)
        rw [show ((((n / degI (tms x)).toNat + 1 : Nat) : Int) - 1) = n / degI (tms x) by omega] at key
        refine (key _).trans ?_
        simp only [expL, List.nil_append]
    · cases h
theorem k69 : ∀ m, KOne Try.prog 69 ⟨[.v (.slice 58 poly), .v i64], [.slice 24 (.slice 2 i64)], true, false, 0, cf69 m⟩
  | 0 => step69 none69 fun xs n h _ => by omega
  | m + 1 => step69 (k69 m) fun xs n h hg => if_pos (show goodL m xs n from ⟨by omega, hg.2⟩)
theorem g69_ok {L : List Po} {n : Int} (h : L.length ≤ 8) (ho : okL L) (hn : 0 ≤ n ∧ n ≤ 12) : cf69 8 (L, n, ()) = some (expL L n, ()) := if_pos ⟨h, h, ho, hn⟩
def cf68 : G68 := fn68 0
theorem k68 : KOne Try.prog 68 ⟨[.v i64], [.bool], false, false, 0, cf68⟩ := ok68 .nil cf68 fun x y h => ⟨0, h⟩
theorem g68 (n : Int) : cf68 (n, ()) = some (decide (0 ≤ n) && decide (n ≤ 12), ()) := by
  simp only [cf68, fn68]
  cases decide ((0 : Int) ≤ n) <;> rfl
section
variable {p : Int} {m n : Nat}
theorem RR.incr {out : List (List Int)} (rr : RR p m out) {i j : Nat} (hij : i < j) (hj : j < out.length) : ld (out[i]'(by omega)) < ld out[j] :=
  (List.pairwise_iff_getElem.1 rr.ord i j (by omega) hj hij).1
theorem RR.ge {out : List (List Int)} (rr : RR p m out) : ∀ (i : Nat) (hi : i < out.length), i ≤ ld out[i]
  | 0, _ => Nat.zero_le _
  | i + 1, hi => by
    have h1 := rr.ge i (by omega)
    have h2 := rr.incr (i := i) (j := i + 1) (by omega) hi
    omega
theorem RR.le {out : List (List Int)} (rr : RR p m out) (h : ∀ r ∈ out, ld r < out.length) : ∀ (k i : Nat) (hi : i < out.length), out.length - 1 - i = k → ld out[i] ≤ i
  | 0, i, hi, hk => by
    have := h _ (List.getElem_mem hi); omega
  | k + 1, i, hi, hk => by
    have h1 := rr.le h k (i + 1) (by omega) (by omega)
    have h2 := rr.incr (i := i) (j := i + 1) (by omega) (by omega)
    omega
theorem RR.all {out : List (List Int)} (rr : RR p m out) (h : ∀ r ∈ out, ld r < out.length) (i : Nat) (hi : i < out.length) : ld out[i] = i := by
  have h1 := rr.ge i hi
  have h2 := rr.le h _ i hi rfl
  omega
end
theorem g19_ok {l : List Int} {k : Int} (hl : l.length ≤ 1000000) (hk : 0 ≤ k ∧ k ≤ 1000000000000) : cf19 (l, k, ()) = some (marks k l.length, k + l.length, ()) := if_pos ⟨hl, hk.1, hk.2⟩
theorem g20_ok {n : Nat} {k : Int} (hl : n ≤ 1000000) (hk : 0 ≤ k ∧ k ≤ 1000000000000) : cf20 (marks k n, k, ()) = some (k + n, ()) := by
  have hm := marks_len n k
  have : cf20 (marks k n, k, ()) = some (k + ((marks k n).length : Int), ()) := if_pos ⟨by rw [hm]; exact hl, hk.1, hk.2, by rw [hm]⟩
  rw [this, hm]
abbrev R28 : Type := Ress [(.slice 24 (.slice 2 i64)), i64]
abbrev G28 : Type := Args [.v (.slice 24 (.slice 2 i64)), .v i64] → Option R28
abbrev R25 : Type := Ress [.bool]
abbrev G25 : Type := Args [.v (.slice 24 (.slice 2 i64)), .v (.slice 24 (.slice 2 i64))] → Option R25
abbrev kp25 : List (Nat × List Nat) := [(0, [0, 1]), (1, [10, 0, 1]), (2, [4]), (3, [5, 1, 0]), (4, [14, 0, 1, 5]), (6, [26, 0, 1, 5]), (7, [4]), (5, [5, 1, 0]), (8, [4])]
abbrev ct25 (g18 : G18) : CTab := [(18, ⟨[.v (.slice 2 i64), .v (.slice 2 i64)], [.bool], false, false, 0, g18⟩)]
abbrev kr25 : Env → Option R25 := endK TT [.tmp 4] [.bool] false false
abbrev sh25_4 : Shape := [(0, .val false [.fz (.slice 24 (.slice 2 i64)) 0 true]), (1, .val false [.fz (.slice 24 (.slice 2 i64)) 0 true]), (5, vv i64)]
def st25_4 (g18 : G18) (F : Nat) (s : ShVal sh25_4) (k kx : ShVal sh25_4 → Option R25) : Option R25 :=
  match s with
  | ((t0, _), (t1, _), (t5, _), _) => (bif decide ((List.length t0) ≤ 9223372036854775807) then (bif decide (t5 < (Int.ofNat (List.length t0))) then (bif ib t5 (Int.ofNat (List.length t0)) then (bif ib t5 (Int.ofNat (List.length t1)) then (match (g18 ((List.getD t0 (tn t5) []), ((List.getD t1 (tn t5) []), ()))) with | some r11 => (bif (!r11.1) then (some (false, ())) else k ((t0, ()), ((t1, ()), (((w6 (t5 + (1 : Int))), ()), ())))) | none => none) else none) else none) else kx ((t0, ()), ((t1, ()), ((t5, ()), ())))) else none)
def ru25_4 (g18 : G18) (F : Nat) (s : ShVal sh25_4) (kx : ShVal sh25_4 → Option R25) : Option R25 := iter (fun s k => st25_4 g18 F s k kx) F s
abbrev ls25_4 (g18 : G18) (F : Nat) : LS R25 := ⟨sh25_4, 0, ru25_4 g18 F⟩
def fn25 (g18 : G18) (F : Nat) (x : Args [.v (.slice 24 (.slice 2 i64)), .v (.slice 24 (.slice 2 i64))]) : Option R25 :=
  match x with
  | (x0, x1, _) => (bif decide ((List.length x0) ≤ 9223372036854775807) then (bif decide ((List.length x1) ≤ 9223372036854775807) then (bif (!decide ((Int.ofNat (List.length x0)) = (Int.ofNat (List.length x1)))) then (some (false, ())) else (ru25_4 g18 F ((x0, ()), ((x1, ()), (((0 : Int), ()), ()))) (fun s' => match s' with | ((t0, _), (t1, _), (t5, _), _) => (some (true, ()))))) else none) else none)
theorem ev25_4 (g18 : G18) (F : Nat) (s : ShVal sh25_4) (k kx : ShVal sh25_4 → Option R25) : evL TT (ct25 g18 ) kp25 [] (loopOf Try.f25 4) (envOf sh25_4 s) (fitK sh25_4 k) (fun j e => bif Nat.beq j 0 then fitK sh25_4 kx e else none) kr25 = st25_4 g18 F s k kx := by
  obtain ⟨⟨t0, _⟩, ⟨t1, _⟩, ⟨t5, _⟩, _⟩ := s
  kernel_rfl
theorem ok25_4 (g18 : G18) (F : Nat) (hK : KOK Try.prog (ct25 g18 )) : LSOK Try.prog ⟨27, false, undef⟩ (ls25_4 g18 F) (loopOf Try.f25 4) kr25 :=
  loop_ok (st25_4 g18 F) mixed tt_ok hK (by kernel_rfl) (LTOK_by (l := []) (by kernel_rfl) trivial) (ev25_4 g18 F)
theorem ev25 (g18 : G18) (F : Nat) (x : Args [.v (.slice 24 (.slice 2 i64)), .v (.slice 24 (.slice 2 i64))]) : fnK TT (ct25 g18 ) kp25 [.bool] [(4, ls25_4 g18 F)] (bodyOf Try.f25) [.tmp 4] [.v (.slice 24 (.slice 2 i64)), .v (.slice 24 (.slice 2 i64))] false false x = fn25 g18 F x := by
  obtain ⟨x0, x1, _⟩ := x
  kernel_rfl
theorem ok25 (g18 : G18) (hK : KOK Try.prog (ct25 g18 )) (cf : G25) (h : ∀ x y, cf x = some y → ∃ F, fn25 g18 F x = some y) : KOne Try.prog 25 ⟨[.v (.slice 24 (.slice 2 i64)), .v (.slice 24 (.slice 2 i64))], [.bool], false, false, 0, cf⟩ :=
  fn_one rfl (c := bodyOf Try.f25) mixed tt_ok hK Try.func25 (by kernel_rfl) (by kernel_rfl) (Nat.le_of_ble_eq_true (by kernel_rfl)) (by decide) fun x y hxy => by
    obtain ⟨F, hF⟩ := h x y hxy
    exact ⟨[(4, ls25_4 g18 F)], LTOK_by (l := [loopOf Try.f25 4]) (by kernel_rfl) ⟨ls_at (by kernel_rfl) (ok25_4 g18 F hK), trivial⟩, (ev25 g18 F x).trans hF⟩
abbrev R29 : Type := Ress [i64]
abbrev G29 : Type := Args [.v (.slice 24 (.slice 2 i64)), .v i64] → Option R29
abbrev kp29 : List (Nat × List Nat) := [(0, [1, 0]), (1, [5, 1, 0]), (2, [9, 1, 0, 5]), (4, [0, 1, 5]), (5, [19, 0, 1, 5]), (6, [4]), (3, [5, 1, 0]), (7, [4])]
abbrev ct29 (g20 : G20) : CTab := [(20, ⟨[.v (.slice 2 i64), .v i64], [i64], false, false, 0, g20⟩)]
abbrev kr29 : Env → Option R29 := endK TT [.tmp 4] [i64] false false
abbrev sh29_2 : Shape := [(0, .val false [.fz (.slice 24 (.slice 2 i64)) 0 true]), (1, vv i64), (5, vv i64)]
def st29_2 (g20 : G20) (F : Nat) (s : ShVal sh29_2) (k kx : ShVal sh29_2 → Option R29) : Option R29 :=
  match s with
  | ((t0, _), (t1, _), (t5, _), _) => (bif decide ((List.length t0) ≤ 9223372036854775807) then (bif decide (t5 < (Int.ofNat (List.length t0))) then (bif ib t5 (Int.ofNat (List.length t0)) then (match (g20 ((List.getD t0 (tn t5) []), (t1, ()))) with | some r10 => (bif decide (r10.1 < (0 : Int)) then (some ((-(1 : Int)), ())) else k ((t0, ()), ((r10.1, ()), (((w6 (t5 + (1 : Int))), ()), ())))) | none => none) else none) else kx ((t0, ()), ((t1, ()), ((t5, ()), ())))) else none)
def ru29_2 (g20 : G20) (F : Nat) (s : ShVal sh29_2) (kx : ShVal sh29_2 → Option R29) : Option R29 := iter (fun s k => st29_2 g20 F s k kx) F s
abbrev ls29_2 (g20 : G20) (F : Nat) : LS R29 := ⟨sh29_2, 0, ru29_2 g20 F⟩
def fn29 (g20 : G20) (F : Nat) (x : Args [.v (.slice 24 (.slice 2 i64)), .v i64]) : Option R29 :=
  match x with
  | (x0, x1, _) => (ru29_2 g20 F ((x0, ()), ((x1, ()), (((0 : Int), ()), ()))) (fun s' => match s' with | ((t0, _), (t1, _), (t5, _), _) => (some (t1, ()))))
theorem ev29_2 (g20 : G20) (F : Nat) (s : ShVal sh29_2) (k kx : ShVal sh29_2 → Option R29) : evL TT (ct29 g20 ) kp29 [] (loopOf Try.f29 2) (envOf sh29_2 s) (fitK sh29_2 k) (fun j e => bif Nat.beq j 0 then fitK sh29_2 kx e else none) kr29 = st29_2 g20 F s k kx := by
  obtain ⟨⟨t0, _⟩, ⟨t1, _⟩, ⟨t5, _⟩, _⟩ := s
  kernel_rfl
theorem ok29_2 (g20 : G20) (F : Nat) (hK : KOK Try.prog (ct29 g20 )) : LSOK Try.prog ⟨21, false, undef⟩ (ls29_2 g20 F) (loopOf Try.f29 2) kr29 :=
  loop_ok (st29_2 g20 F) mixed tt_ok hK (by kernel_rfl) (LTOK_by (l := []) (by kernel_rfl) trivial) (ev29_2 g20 F)
theorem ev29 (g20 : G20) (F : Nat) (x : Args [.v (.slice 24 (.slice 2 i64)), .v i64]) : fnK TT (ct29 g20 ) kp29 [i64] [(2, ls29_2 g20 F)] (bodyOf Try.f29) [.tmp 4] [.v (.slice 24 (.slice 2 i64)), .v i64] false false x = fn29 g20 F x := by
  obtain ⟨x0, x1, _⟩ := x
  kernel_rfl
theorem ok29 (g20 : G20) (hK : KOK Try.prog (ct29 g20 )) (cf : G29) (h : ∀ x y, cf x = some y → ∃ F, fn29 g20 F x = some y) : KOne Try.prog 29 ⟨[.v (.slice 24 (.slice 2 i64)), .v i64], [i64], false, false, 0, cf⟩ :=
  fn_one rfl (c := bodyOf Try.f29) mixed tt_ok hK Try.func29 (by kernel_rfl) (by kernel_rfl) (Nat.le_of_ble_eq_true (by kernel_rfl)) (by decide) fun x y hxy => by
    obtain ⟨F, hF⟩ := h x y hxy
    exact ⟨[(2, ls29_2 g20 F)], LTOK_by (l := [loopOf Try.f29 2]) (by kernel_rfl) ⟨ls_at (by kernel_rfl) (ok29_2 g20 F hK), trivial⟩, (ev29 g20 F x).trans hF⟩
def tot : List (List Int) → Nat
  | [] => 0
  | x :: r => x.length + tot r
def marksL (k : Int) : List (List Int) → List (List Int)
  | [] => []
  | x :: r => marks k x.length :: marksL (k + (x.length : Int)) r
def smallL (L : List (List Int)) : Prop := L.length ≤ 1000000000 ∧ (∀ r ∈ L, r.length ≤ 100000) ∧ tot L ≤ 10000000000
theorem marksL_len : ∀ {L : List (List Int)} {k : Int}, (marksL k L).length = L.length
  | [], _ => rfl
  | x :: r, k => by simp [marksL, marksL_len]
theorem tot_marks : ∀ {L : List (List Int)} {k : Int}, tot (marksL k L) = tot L
  | [], _ => rfl
  | x :: r, k => by simp [marksL, tot, tot_marks, marks_len]
theorem fold28 : ∀ {L : List (List Int)} {k : Int}, (∀ r ∈ L, r.length ≤ 100000) → 0 ≤ k → k + (tot L : Int) ≤ 100000000000 → foldM28 cf19 L k = some (marksL k L, k + (tot L : Int))
  | [], k, _, _, _ => by simp [foldM28, marksL, tot]
  | x :: r, k, h, h0, h1 => by
    have hx := h x (.head _)
    simp only [tot] at h1
    have g : cf19 (x, k, ()) = some (marks k x.length, k + (x.length : Int), ()) := g19_ok (by omega) (by omega)
    have ih := fold28 (L := r) (k := k + (x.length : Int)) (fun z hz => h z (.tail _ hz)) (by omega) (by omega)
    simp only [foldM28, g, ih, marksL, tot]
    simp only [Option.some.injEq, Prod.mk.injEq, true_and]
    omega
open Classical in
noncomputable def cf28 : G28 := fun x => if smallL x.1 ∧ (0 : Int) ≤ x.2.1 ∧ x.2.1 ≤ (1000000 : Int) then some (marksL x.2.1 x.1, x.2.1 + (tot x.1 : Int), ()) else none
theorem k28 : KOne Try.prog 28 ⟨[.v (.slice 24 (.slice 2 i64)), .v i64], [.slice 24 (.slice 2 i64), i64], false, false, 1, cf28⟩ := one28 (cf := cf28) k19 fun x y h => by
  obtain ⟨L, k, _⟩ := x
  change List (List Int) at L
  change Int at k
  simp only [cf28] at h
  split at h
  · rename_i hc
    injection h with h; subst h
    obtain ⟨⟨c1, c2, c3⟩, c4, c5⟩ := hc
    have c4 : (0 : Int) ≤ k := c4
    have c5 : k ≤ (1000000 : Int) := c5
    have c3 : tot L ≤ 10000000000 := c3
    exact ⟨Nat.le_trans c1 (by omega), _, fold28 (L := L) (k := k) c2 c4 (by omega), rfl⟩
  · cases h
theorem g28_ok {L : List (List Int)} (h : smallL L) : cf28 (L, (1 : Int), ()) = some (marksL 1 L, 1 + (tot L : Int), ()) := if_pos ⟨h, by show (0 : Int) ≤ 1; omega, by show (1 : Int) ≤ 1000000; omega⟩
theorem getD_preZ {α : Type} {pre r : List α} {t d : α} : (pre ++ t :: r).getD pre.length d = t := by
  rw [List.getD_eq_getElem?_getD, List.getElem?_append_right (Nat.le_refl _)]; simp
theorem run29 {k0 : Int} {F0 : Nat} : ∀ (r pre : List (List Int)) (k : Int) (F : Nat), r.length < F → (pre ++ marksL k r).length ≤ 1000000000 → (∀ x ∈ r, x.length ≤ 100000) → 0 ≤ k → k + (tot r : Int) ≤ 100000000000 →
    iter (fun s k => st29_2 cf20 F0 s k (fun s' => match s' with | ((t0, _), (t1, _), (t5, _), _) => (some (t1, ())))) F ((pre ++ marksL k r, ()), ((k, ()), (((pre.length : Int), ()), ()))) = some (k + (tot r : Int), ())
  | [], pre, k, F, hF, hl, hr, h0, h1 => by
    obtain ⟨F, rfl⟩ : ∃ f, F = f + 1 := ⟨F - 1, by simp at hF; omega⟩
    simp only [marksL, List.append_nil] at hl ⊢
    simp only [iter, st29_2]
    simp (disch := omega) only [dln_t, cond_true, ofn, dlt_f, cond_false]
    simp [tot]
  | x :: r, pre, k, F, hF, hl, hr, h0, h1 => by
    obtain ⟨F, rfl⟩ : ∃ f, F = f + 1 := ⟨F - 1, by simp at hF; omega⟩
    have hx := hr x (.head _)
    simp only [tot] at h1
    simp only [marksL] at hl ⊢
    have l1 : pre.length < (pre ++ marks k x.length :: marksL (k + (x.length : Int)) r).length := by simp
    have g1 : ∀ dd, (pre ++ marks k x.length :: marksL (k + (x.length : Int)) r).getD pre.length dd = marks k x.length := fun dd => getD_preZ
    have g : cf20 (marks k x.length, k, ()) = some (k + (x.length : Int), ()) := g20_ok (by omega) (by omega)
    simp only [iter, st29_2]
    simp (disch := omega) only [dln_t, cond_true, ofn, dlt_t, ib_t, tn_cast, w6_id, g1]
    show (match cf20 (marks k x.length, k, ()) with | some r10 => _ | none => none) = _
    rw [g]
    show (bif decide (k + (x.length : Int) < 0) then _ else _) = _
    rw [dlt_f (by omega), cond_false]
    have ih := run29 (k0 := k0) (F0 := F0) r (pre ++ [marks k x.length]) (k + (x.length : Int)) F (by simp at hF; omega) (by simpa using hl) (fun z hz => hr z (.tail _ hz)) (by omega) (by omega)
    simp only [List.append_assoc, List.singleton_append, List.length_append, List.length_singleton] at ih
    simp only [tot]
    rw [show k + ((x.length + tot r : Nat) : Int) = k + (x.length : Int) + (tot r : Int) by omega]
    exact ih
open Classical in
noncomputable def cf29 : G29 := fun x => if smallL x.1 ∧ x.1 = marksL x.2.1 x.1 ∧ (0 : Int) ≤ x.2.1 ∧ x.2.1 ≤ (1000000 : Int) then some (x.2.1 + (tot x.1 : Int), ()) else none
theorem k29 : KOne Try.prog 29 ⟨[.v (.slice 24 (.slice 2 i64)), .v i64], [i64], false, false, 0, cf29⟩ := ok29 _ (.cons k20 .nil) cf29 fun x y h => by
  obtain ⟨L, k, _⟩ := x
  change List (List Int) at L
  change Int at k
  simp only [cf29] at h
  split at h
  · rename_i hc
    injection h with h; subst h
    obtain ⟨⟨c1, c2, c3⟩, c4, c5, c6⟩ := hc
    have c5 : (0 : Int) ≤ k := c5
    have c6 : k ≤ (1000000 : Int) := c6
    refine ⟨L.length + 1, ?_⟩
    have c4 : L = marksL k L := c4
    have key := run29 (k0 := 0) (F0 := L.length + 1) L [] k (L.length + 1) (by omega) (by rw [List.nil_append, ← c4]; omega) c2 c5 (by omega)
    rw [List.nil_append, ← c4] at key
    exact key
  · cases h
theorem marksL_idem : ∀ {L : List (List Int)} {k : Int}, marksL k (marksL k L) = marksL k L
  | [], _ => rfl
  | x :: r, k => by simp [marksL, marks_len, marksL_idem]
theorem smallL_marks {L : List (List Int)} {k : Int} (h : smallL L) : smallL (marksL k L) := by
  obtain ⟨h1, h2, h3⟩ := h
  refine ⟨by rw [marksL_len]; exact h1, ?_, by rw [tot_marks]; exact h3⟩
  clear h1 h3
  induction L generalizing k with
  | nil => intro r hr; cases hr
  | cons x s ih =>
    intro r hr
    rcases List.mem_cons.1 hr with rfl | hr
    · rw [marks_len]; exact h2 x (.head _)
    · exact ih (fun z hz => h2 z (.tail _ hz)) r hr
theorem g29_ok {L : List (List Int)} (h : smallL L) : cf29 (marksL 1 L, (1 : Int), ()) = some (1 + (tot L : Int), ()) := by
  have : cf29 (marksL 1 L, (1 : Int), ()) = some ((1 : Int) + (tot (marksL 1 L) : Int), ()) := if_pos ⟨smallL_marks h, (marksL_idem (L := L) (k := 1)).symm, by show (0 : Int) ≤ 1; omega, by show (1 : Int) ≤ 1000000; omega⟩
  rw [this, tot_marks]
theorem run25 {L : List (List Int)} (hL : L.length ≤ 1000000000) (h : ∀ r ∈ L, r.length ≤ 100000) {F0 : Nat} : ∀ (r pre : List (List Int)) (F : Nat), r.length < F → pre ++ r = L →
    iter (fun s k => st25_4 cf18 F0 s k (fun s' => match s' with | ((t0, _), (t1, _), (t5, _), _) => (some (true, ())))) F ((L, ()), ((L, ()), (((pre.length : Int), ()), ()))) = some (true, ())
  | [], pre, F, hF, e => by
    obtain ⟨F, rfl⟩ : ∃ f, F = f + 1 := ⟨F - 1, by simp at hF; omega⟩
    rw [List.append_nil] at e; subst e
    simp only [iter, st25_4]
    simp (disch := omega) only [dln_t, cond_true, ofn, dlt_f, cond_false]
  | x :: r, pre, F, hF, e => by
    obtain ⟨F, rfl⟩ : ∃ f, F = f + 1 := ⟨F - 1, by simp at hF; omega⟩
    have l1 : pre.length < L.length := by rw [← e]; simp
    have g1 : ∀ dd, L.getD pre.length dd = x := fun dd => by rw [← e]; exact getD_preZ
    have hx : x.length ≤ 100000 := h x (by rw [← e]; simp)
    have g : cf18 (x, x, ()) = some (true, ()) := by
      have : cf18 (x, x, ()) = some (decide (x = x), ()) := if_pos ⟨by simp only [B]; omega, by simp only [B]; omega⟩
      rw [this, decide_eq_true rfl]
    simp only [iter, st25_4]
    simp (disch := omega) only [dln_t, cond_true, ofn, dlt_t, ib_t, tn_cast, w6_id, g1, g, Bool.not_true, cond_false]
    have ih := run25 hL h (F0 := F0) r (pre ++ [x]) F (by simp at hF; omega) (by simpa using e)
    simp only [List.length_append, List.length_singleton] at ih
    exact ih
open Classical in
noncomputable def cf25 : G25 := fun x => if x.1 = x.2.1 ∧ smallL x.1 then some (true, ()) else none
theorem k25 : KOne Try.prog 25 ⟨[.v (.slice 24 (.slice 2 i64)), .v (.slice 24 (.slice 2 i64))], [.bool], false, false, 0, cf25⟩ := ok25 _ (.cons k18 .nil) cf25 fun x y h => by
  obtain ⟨L, M, _⟩ := x
  change List (List Int) at L
  change List (List Int) at M
  simp only [cf25] at h
  split at h
  · rename_i hc
    injection h with h; subst h
    obtain ⟨c0, c1, c2, c3⟩ := hc
    have c0 : L = M := c0
    subst c0
    refine ⟨L.length + 1, ?_⟩
    simp (disch := omega) only [fn25, dln_t, cond_true, ofn, deq_t, Bool.not_true, cond_false, ru25_4]
    simp only [decide_true, Bool.not_true, cond_false]
    exact run25 c1 c2 L [] (L.length + 1) (by omega) rfl
  · cases h
theorem g25_ok {L : List (List Int)} (h : smallL L) : cf25 (L, L, ()) = some (true, ()) := if_pos ⟨rfl, h⟩
theorem tot_le {m : Nat} : ∀ {L : List (List Int)}, (∀ r ∈ L, r.length ≤ m) → tot L ≤ L.length * m
  | [], _ => Nat.zero_le _
  | x :: r, h => by
    have := tot_le (L := r) fun z hz => h z (.tail _ hz)
    have hx := h x (.head _)
    simp only [tot, List.length_cons, Nat.succ_mul]; omega
abbrev R4 : Type := Ress [.bool]
abbrev G4 : Type := Args [.v (.slice 84 lpoly), .v i64] → Option R4
abbrev kp4 : List (Nat × List Nat) := [(0, [0, 1]), (1, [5, 0, 1]), (2, [5, 0, 1]), (3, [20, 0, 1]), (4, [4]), (5, [7, 6, 1, 0]), (6, [8, 7, 6, 1, 0]), (7, [8, 10, 9, 7, 6, 1, 0]), (8, [44, 8, 10, 9, 7, 6, 1, 0]), (9, [4]), (10, [49, 0, 1, 6, 7, 9, 10, 8]), (11, [4]), (12, [8, 11, 10, 9, 7, 6, 1, 0]), (13, [11, 10, 9, 7, 6, 1, 0]), (14, [65, 9, 7, 6, 1, 0]), (15, [4]), (16, [12, 0, 1, 6, 7, 9]), (17, [0, 1, 6, 7, 12, 9]), (18, [13, 0, 1, 6, 7, 12, 9]), (19, [0, 1, 6, 7, 12, 9, 13]), (20, [73, 0, 1, 6, 7, 12, 9, 13]), (21, [4]), (22, [76, 9, 12, 7, 6, 1, 0]), (23, [4]), (24, [14, 6, 15, 7, 12, 9]), (25, [92, 12, 9]), (26, [4]), (27, [9, 13, 12]), (28, [12, 13]), (29, [97, 12, 13]), (30, [4]), (31, [100]), (32, [4]), (33, [4])]
abbrev ct4 (g25 : G25) (g28 : G28) (g29 : G29) (g27 : G27) (g26 : G26) (g24 : G24) (g22 : G22) (g23 : G23) (g21 : G21) : CTab := [(25, ⟨[.v (.slice 24 (.slice 2 i64)), .v (.slice 24 (.slice 2 i64))], [.bool], false, false, 0, g25⟩), (28, ⟨[.v (.slice 24 (.slice 2 i64)), .v i64], [(.slice 24 (.slice 2 i64)), i64], false, false, 1, g28⟩), (29, ⟨[.v (.slice 24 (.slice 2 i64)), .v i64], [i64], false, false, 0, g29⟩), (27, ⟨[.v (.slice 58 poly), .v i64], [(.slice 58 poly), i64], false, false, 1, g27⟩), (26, ⟨[.v (.slice 58 poly), .v (.slice 58 poly)], [.bool], false, false, 0, g26⟩), (24, ⟨[.v (.slice 58 poly), .v i64], [(.slice 24 (.slice 2 i64)), i64], true, false, 0, g24⟩), (22, ⟨[.v (.slice 58 poly), .v i64], [(.slice 24 (.slice 2 i64)), i64], true, false, 0, g22⟩), (23, ⟨[.v (.slice 84 lpoly)], [(.slice 58 poly)], true, false, 0, g23⟩), (21, ⟨[.v (.slice 84 lpoly), .v i64], [i64], false, false, 0, g21⟩)]
def fn4 (g25 : G25) (g28 : G28) (g29 : G29) (g27 : G27) (g26 : G26) (g24 : G24) (g22 : G22) (g23 : G23) (g21 : G21) (F : Nat) (x : Args [.v (.slice 84 lpoly), .v i64]) : Option R4 :=
  match x with
  | (x0, x1, _) => (match (g21 (x0, ((1048576 : Int), ()))) with | some r14 => (bif decide (r14.1 < (0 : Int)) then (some (true, ())) else (match (g23 (x0, ())) with | some r17 => (match (g22 (r17.1, (x1, ()))) with | some r18 => (match (g23 (x0, ())) with | some r20 => (match (g24 (r20.1, (x1, ()))) with | some r22 => (match (g25 (r22.1, (r18.1, ()))) with | some r24 => (bif (!r24.1) then (some (false, ())) else (bif (bif false then true else (!decide (r22.2.1 = r18.2.1))) then (some (false, ())) else (match (g23 (x0, ())) with | some r26 => (match (g26 (r20.1, (r26.1, ()))) with | some r27 => (bif (!r27.1) then (some (false, ())) else (match (g27 (r20.1, ((1 : Int), ()))) with | some r30 => (bif decide (r30.2.1 < (0 : Int)) then (some (false, ())) else (match (g25 (r22.1, (r18.1, ()))) with | some r32 => (bif (bif false then true else (!r32.1)) then (some (false, ())) else (bif (bif false then true else (!decide (r22.2.1 = r18.2.1))) then (some (false, ())) else (match (g28 (r22.1, ((1 : Int), ()))) with | some r35 => (match (g29 ((bif ((Nat.beq 24 24) && ((Nat.beq 2 2) && true)) then r35.1 else []), ((1 : Int), ()))) with | some r38 => (bif decide (r38.1 < (0 : Int)) then (some (false, ())) else (bif (!decide (r38.1 = r35.2.1)) then (some (false, ())) else (match (g23 (x0, ())) with | some r42 => (match (g24 (r42.1, (x1, ()))) with | some r43 => (match (g25 (r43.1, (r18.1, ()))) with | some r45 => (bif (!r45.1) then (some (false, ())) else (bif (bif false then true else (!decide (r43.2.1 = r18.2.1))) then (some (false, ())) else (match (g29 ((bif ((Nat.beq 24 24) && ((Nat.beq 2 2) && true)) then r35.1 else []), ((1 : Int), ()))) with | some r48 => (bif decide (r48.1 < (0 : Int)) then (some (false, ())) else (bif (!decide (r48.1 = r35.2.1)) then (some (false, ())) else (some (true, ())))) | none => none))) | none => none) | none => none) | none => none))) | none => none) | none => none))) | none => none)) | none => none)) | none => none) | none => none))) | none => none) | none => none) | none => none) | none => none) | none => none)) | none => none)
theorem ev4 (g25 : G25) (g28 : G28) (g29 : G29) (g27 : G27) (g26 : G26) (g24 : G24) (g22 : G22) (g23 : G23) (g21 : G21) (F : Nat) (x : Args [.v (.slice 84 lpoly), .v i64]) : fnK TT (ct4 g25 g28 g29 g27 g26 g24 g22 g23 g21 ) kp4 [.bool] [] (bodyOf Try.f4) [.tmp 4] [.v (.slice 84 lpoly), .v i64] false false x = fn4 g25 g28 g29 g27 g26 g24 g22 g23 g21 F x := by
  obtain ⟨x0, x1, _⟩ := x
  kernel_rfl
theorem ok4 (g25 : G25) (g28 : G28) (g29 : G29) (g27 : G27) (g26 : G26) (g24 : G24) (g22 : G22) (g23 : G23) (g21 : G21) (hK : KOK Try.prog (ct4 g25 g28 g29 g27 g26 g24 g22 g23 g21 )) (cf : G4) (h : ∀ x y, cf x = some y → ∃ F, fn4 g25 g28 g29 g27 g26 g24 g22 g23 g21 F x = some y) : KOne Try.prog 4 ⟨[.v (.slice 84 lpoly), .v i64], [.bool], false, false, 0, cf⟩ :=
  fn_one rfl (c := bodyOf Try.f4) mixed tt_ok hK Try.func4 (by kernel_rfl) (by kernel_rfl) (Nat.le_of_ble_eq_true (by kernel_rfl)) (by decide) fun x y hxy => by
    obtain ⟨F, hF⟩ := h x y hxy
    exact ⟨[], LTOK_by (l := []) (by kernel_rfl) trivial, (ev4 g25 g28 g29 g27 g26 g24 g22 g23 g21 F x).trans hF⟩
theorem okL_of {L : List Po} (hs : smallV L) (h : lc L = 0) : okL L ∧ L.length ≤ 8 := by
  unfold lc at h
  cases hv : L.all vP with
  | false => rw [hv] at h; simp at h
  | true =>
    rw [hv, cond_true] at h
    by_cases c0 : (L.length : Int) = 0
    · rw [deq_t c0] at h; simp at h
    · rw [deq_f c0, cond_false] at h
      cases hg : (L.all (gd (L.getD 0 DPo)) && decide ((L.length : Int) ≤ 8)) with
      | false => rw [hg] at h; simp at h
      | true =>
        simp only [Bool.and_eq_true, decide_eq_true_eq] at hg
        refine ⟨fun x hx => ?_, by omega⟩
        have g := List.all_eq_true.1 hg.1 x hx
        obtain ⟨_, _, c1, c2⟩ := vP_can (hs.2 x hx) (List.all_eq_true.1 hv x hx)
        simp only [gd, alB, Bool.and_eq_true, decide_eq_true_eq, Bool.not_eq_true', decide_eq_false_iff_not] at g
        have := degI_rng c1 c2 (by omega)
        exact ⟨okTs_of c1 c2 (by omega), by omega, this.2⟩
def inB (n : Int) : Bool := decide (0 ≤ n) && decide (n ≤ 12)
theorem g64n {L : List Po} {n : Int} (hs : smallV L) (hn : inB n = false) : cf64 (L, n, ()) = some (if lc L = 0 then 2 else lc L, ()) := by
  have g : cf135 (L, ()) = some (lcA L, ()) := if_pos hs
  have hL := hs.1
  simp only [cf64, fn64]
  rw [g, show cf73 (n, (0 : Int), (12 : Int), ()) = some (inB n, ()) from rfl, hn]
  simp only [ofn]
  rw [dln_t (show L.length ≤ 9223372036854775807 by omega)]
  unfold lcA lc
  cases hq : L.all vP with
  | false => rfl
  | true =>
    simp only [cond_true]
    by_cases c8 : (8 : Int) < L.length
    · rw [dlt_t c8, deq_f (show (L.length : Int) ≠ 0 by omega), dle_f (show (8 : Int) < (L.length : Int) by omega)]
      simp
    · rw [dlt_f (show (L.length : Int) ≤ 8 by omega), dle_t (show (L.length : Int) ≤ 8 by omega), Bool.and_true]
      simp only [cond_false]
      by_cases c0 : (L.length : Int) = 0
      · have : L = [] := List.eq_nil_of_length_eq_zero (by omega)
        subst this; rfl
      · rw [deq_f c0]
        cases hg : L.all (gd (L.getD 0 DPo)) with
        | false => rfl
        | true => rfl
noncomputable def cf22 : G22 := fn22 cf64 (cf65 8) 0
theorem k22 : KOne Try.prog 22 ⟨[.v (.slice 58 poly), .v i64], [.slice 24 (.slice 2 i64), i64], true, false, 0, cf22⟩ := ok22 _ _ (.cons k64 (.cons (k65 8) .nil)) cf22 fun x y h => ⟨0, h⟩
noncomputable def cf24 : G24 := fn24 cf67 (cf69 8) cf68 0
theorem k24 : KOne Try.prog 24 ⟨[.v (.slice 58 poly), .v i64], [.slice 24 (.slice 2 i64), i64], true, false, 0, cf24⟩ := ok24 _ _ _ (.cons k67 (.cons (k69 8) (.cons k68 .nil))) cf24 fun x y h => ⟨0, h⟩
theorem small_exp {L : List Po} {n : Int} (ho : okL L) (h8 : L.length ≤ 8) (hn : n ≤ 12) : smallL (expL L n) := by
  have h1 := expL_len (n := n) ho hn
  have h2 : (13 : Nat) ^ L.length ≤ 13 ^ 8 := Nat.pow_le_pow_right (by omega) h8
  have h3 : (13 : Nat) ^ 8 = 815730721 := by decide
  have h4 : ∀ r ∈ expL L n, r.length ≤ 8 := fun r hr => by rw [expL_row r hr]; exact h8
  refine ⟨by omega, fun r hr => by have := h4 r hr; omega, ?_⟩
  have := tot_le h4
  omega
theorem same22 {L : List Po} {n : Int} (hs : smallV L) : ∃ (R : List (List Int)) (c : Int), smallL R ∧ cf22 (L, n, ()) = some (R, c, ()) ∧ cf24 (L, n, ()) = some (R, c, ()) := by
  have sm : smallL [] := ⟨by simp, by simp, by simp [tot]⟩
  simp only [cf22, cf24, fn22, fn24]
  rw [g67_ok hs, g68 n]
  cases hn : inB n with
  | false =>
    have hn' : (decide ((0 : Int) ≤ n) && decide (n ≤ 12)) = false := hn
    rw [g64n hs hn, hn']
    by_cases h0 : lc L = 0
    · rw [if_pos h0, h0]
      exact ⟨[], 2, sm, rfl, rfl⟩
    · rw [if_neg h0]
      refine ⟨[], lc L, sm, ?_, ?_⟩
      · show (bif !decide (lc L = 0) then some ([], lc L, ()) else _) = _
        rw [deq_f h0]; rfl
      · show (bif !decide (lc L = 0) then some ([], lc L, ()) else _) = _
        rw [deq_f h0]; rfl
  | true =>
    have hn' : (decide ((0 : Int) ≤ n) && decide (n ≤ 12)) = true := hn
    have hr := hn'
    simp only [Bool.and_eq_true, decide_eq_true_eq] at hr
    rw [g64_ok hs hr, hn']
    by_cases h0 : lc L = 0
    · obtain ⟨ho, h8⟩ := okL_of hs h0
      have g1 := g65_ok h8 ho hr
      have g2 : cf69 8 (L, n, ()) = some (expL L n, ()) := g69_ok h8 ho hr
      refine ⟨expL L n, 0, small_exp ho h8 hr.2, ?_, ?_⟩
      · show (bif !decide (lc L = 0) then _ else (match cf65 8 (L, n, ()) with | some r9 => _ | none => none)) = _
        rw [deq_t h0, g1]; rfl
      · show (bif !decide (lc L = 0) then _ else (bif !true then _ else (match cf69 8 (L, n, ()) with | some r12 => _ | none => none))) = _
        rw [deq_t h0, g2]; rfl
    · refine ⟨[], lc L, sm, ?_, ?_⟩
      · show (bif !decide (lc L = 0) then some ([], lc L, ()) else _) = _
        rw [deq_f h0]; rfl
      · show (bif !decide (lc L = 0) then some ([], lc L, ()) else _) = _
        rw [deq_f h0]; rfl
theorem law4_one : KOne Try.prog 4 ⟨[.v (.slice 84 lpoly), .v i64], [.bool], false, false, 0, fun x => bif okA [.v (.slice 84 lpoly), .v i64] x then some (true, ()) else none⟩ :=
  ok4 _ _ _ _ _ _ _ _ _ (.cons k25 (.cons k28 (.cons k29 (.cons k27 (.cons k26 (.cons k24 (.cons k22 (.cons k23 (.cons k21 .nil))))))))) _ fun x y h => by
    obtain ⟨L, n, _⟩ := x
    change List Po at L
    change Int at n
    cases hx : okA [.v (.slice 84 lpoly), .v i64] (L, n, ()) with
    | false => simp only [hx, cond_false] at h; cases h
    | true =>
      simp only [hx, cond_true] at h
      injection h with h; subst h
      refine ⟨0, ?_⟩
      simp only [okA, okV, Bool.and_true, Bool.and_eq_true, decide_eq_true_eq] at hx
      obtain ⟨⟨x1, x2⟩, _⟩ := hx
      have x1 : L.length ≤ 9223372036854775807 := x1
      have x2 : ∀ z ∈ L, (tms z).length ≤ 9223372036854775807 ∧ ∀ t ∈ tms z, okX t.1 := fun z hz => by
        have := List.all_eq_true.1 x2 z hz
        obtain ⟨p, d, l, u⟩ := z
        change List term.den at l
        simp only [okV, Bool.and_true, Bool.and_eq_true, decide_eq_true_eq] at this
        obtain ⟨_, _, t1, t2⟩ := this
        refine ⟨t1, fun t ht => ?_⟩
        have := List.all_eq_true.1 t2 t ht
        obtain ⟨⟨a, b, c, _⟩, v, _⟩ := t
        simp [okV, okV.okT, kwf, IntKind.min, IntKind.max, IntKind.bits, IntKind.signed] at this
        change Int at a; change Int at b; change Int at c
        show (0 ≤ a ∧ a ≤ 255) ∧ (0 ≤ b ∧ b ≤ 255) ∧ (0 ≤ c ∧ c ≤ 255)
        exact this.1
      simp only [fn4]
      have c21 := g21_ok x1 fun z hz => (x2 z hz).1
      rw [c21]
      show (bif decide (sz21 L < 0) then _ else _) = _
      by_cases hsz : sz21 L < 0
      · rw [dlt_t hsz, cond_true]
      · rw [dlt_f (by omega), cond_false]
        have hsm := sz21_small (by omega : 0 ≤ sz21 L)
        have hsP := smallP_of hsm
        have hsV : smallV L := ⟨hsP.1, fun z hz => ⟨hsP.2 z hz, (x2 z hz).2⟩⟩
        obtain ⟨R, c, hl, e1, e2⟩ := same22 (n := n) hsV
        obtain ⟨M, q, c27, n0, n1⟩ := g27_ok hsm
        have c23 := g23_ok hsP
        have c26 := g26_ok hsP
        have c25 := g25_ok hl
        have c28 := g28_ok hl
        have c29 := g29_ok hl
        have n2 : (bif ((Nat.beq 24 24) && ((Nat.beq 2 2) && true)) then marksL 1 R else []) = marksL 1 R := rfl
        simp (disch := omega) only [c23, e1, e2, c26, c27, c25, c28, n2, c29, Bool.not_true, cond_false, deq_t, decide_true, dlt_f]
end Go.Proofs.YtkoifikjfnbcpaaEv
