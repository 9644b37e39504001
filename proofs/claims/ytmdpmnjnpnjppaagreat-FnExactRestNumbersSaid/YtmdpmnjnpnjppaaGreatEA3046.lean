/- The program's operations on plain typed data, that the machine does the same, what the functions come to, and what they give (part 6). No condition. -/
import Derived.Test.YtmdpmnjnpnjppaaGreatEA3045
set_option linter.unusedVariables false
set_option linter.unusedSimpArgs false
namespace Go.Proofs.YtmdpmnjnpnjppaaGreatEv
open Go Go.RowKit Go.Proofs
def foldM27 (g : G70h) : List poly.den → Int → Option (List poly.den × Int)
  | [], k => some ([], k)
  | x :: r, k => match g (x.2.2.1, wr1 (wr1 k), ()) with
    | some y => (match foldM27 g r y.2.1 with | some z => some ((k, wr1 k, y.1, ()) :: z.1, z.2) | none => none)
    | none => none
structure I27 (w0 : World) (ba : List Nat) (hd : Value) (g : G70h) (N : Nat) (y : List poly.den × Int) (a : Act) (w : World) (pre suf : List poly.den) (k : Int) (f : Nat → Value) : Prop where
  at_ : AtV 34 f a
  f0 : f 0 = hd
  f1 : f 1 = .int .i64 k
  f5 : f 5 = .int .i64 pre.length
  wk : (Lit.int .i64 k).wf = true
  nst : Nst w0 ba 34 poly hd (pre ++ suf) w
  len : (pre ++ suf).length = N
  run : ∃ z, foldM27 g suf k = some z ∧ (pre ++ z.1, z.2) = y
section
variable {w0 : World} {ba : List Nat} {hd : Value} {g : G70h} {N : Nat} {y : List poly.den × Int}
theorem reg27_8 {a : Act} {w : World} {pre suf : List poly.den} {x : poly.den} {k : Int} {f : Nat → Value} {yx : Ress [.slice 135 term, i64]} {Q : Exit → Act → World → Prop} (k70 : KOne Tryz.prog 110 ⟨[.v (.slice 135 term), .v i64], [.slice 135 term, i64], false, false, 1, g⟩)
    (hA : AtV 34 f a) (f0 : f 0 = hd) (f1 : f 1 = .int .i64 k) (f5 : f 5 = .int .i64 pre.length) (wk : (Lit.int .i64 k).wf = true)
    (n1 : Nst w0 ba 34 poly hd (pre ++ x :: suf) w) (hyx : g (x.2.2.1, k, ()) = some yx)
    (hQ : ∀ a' w' f', AtV 34 f' a' → f' 0 = hd → f' 1 = .int .i64 yx.2.1 → f' 5 = .int .i64 pre.length → (Lit.int .i64 yx.2.1).wf = true → Nst w0 ba 34 poly hd (pre ++ (x.1, x.2.1, yx.1, ()) :: suf) w' → Q .normal a' w') : (Code.region 8 (o27 8) false).wp Tryz.prog Q a w := by
  obtain ⟨b, o, cap, c, e', be, r1, r2, r3, r4, r5, r6, r7, r8, fin⟩ := n1.elem (by decide)
  have three : (poly).size = 3 := rfl
  rw [three] at r3 r4
  obtain ⟨v, c1, c2, c3, c4⟩ := rdPoly.1 r4
  have v4 := c4
  obtain ⟨v', blkv, bsv, v1, v2, v3⟩ := v4
  injection v1 with v1 _
  subst v1
  have hcv : c[o + pre.length * 3 + 2]? = some v := by
    have : ((c.toList.drop (o + pre.length * 3)).take 3)[2]? = some v := by rw [c1]; rfl
    rw [List.getElem?_take_of_lt (by omega), List.getElem?_drop, Array.getElem?_toList] at this
    exact this
  refine wp_region ?_
  rw [rg27_8]
  obtain ⟨o0, o0a, o0b, o0c, o0d⟩ := q27_8_0
  obtain ⟨o1, o1a, o1b, o1c, o1d⟩ := q27_8_1
  obtain ⟨o2, o2a, o2b, o2c, o2d⟩ := q27_8_2
  obtain ⟨o3, o3a, o3b, o3c, o3d⟩ := q27_8_3
  obtain ⟨o4, o4a, o4b, o4c, o4d⟩ := q27_8_4
  obtain ⟨o5, o5a, o5b, o5c, o5d⟩ := q27_8_5
  obtain ⟨of, cf, zf, f1a, f1b, f1e, f1f, f1g, f1c, f1d⟩ := q27_8_6
  obtain ⟨o7, o7a, o7b, o7c, o7d⟩ := q27_8_7
  refine wpOps_cons o0a o0d (upon_val (v := hd) (w' := w) (by simp only [execOp, o0b, show a.eval (.tmp 0) = hd from hA.ev.trans f0, Sem.run_pure]) ?_)
  rw [o0c]
  have p1 := hA.put (d := 26) (by omega) hd
  generalize a.put (some 26) hd = a2 at p1 ⊢
  refine wpOps_cons o1a o1d (upon_val (v := .int .i64 pre.length) (w' := w) (by simp only [execOp, o1b, show a2.eval (.tmp 5) = .int .i64 pre.length from p1.ev.trans f5, Sem.run_pure]) ?_)
  rw [o1c]
  have p2 := p1.put (d := 27) (by omega) (.int .i64 pre.length)
  generalize a2.put (some 27) (.int .i64 pre.length) = a3 at p2 ⊢
  have ri := run_indexS (P := Tryz.prog) tt_ok (tt_ok 30 polys (by kernel_rfl)) (w := w) (b := b) (o := o) (m := (pre ++ x :: suf).length) (cap := cap) (kk := .i64) (i := pre.length) (by simp)
  rw [three, ← r1] at ri
  refine wpOps_cons o2a o2d (upon_val (v := .pointer (some ⟨b, o + pre.length * 3, none⟩)) (w' := w) (by
    simp only [execOp, o2b, show a3.eval (.tmp 26) = hd from p2.ev, show a3.eval (.tmp 27) = .int .i64 pre.length from p2.ev, Sem.run_bind, ri, Result.andThen_ok, Sem.run_pure]) ?_)
  rw [o2c]
  have p3 := p2.put (d := 28) (by omega) (.pointer (some ⟨b, o + pre.length * 3, none⟩))
  generalize a3.put (some 28) (.pointer (some ⟨b, o + pre.length * 3, none⟩)) = a4 at p3 ⊢
  have rf := run_fieldAt (P := Tryz.prog) (w := w) (b := b) (o := o + pre.length * 3) (j := 2) (u := .slice 135 term) tt_ok (tt_ok 34 poly (by kernel_rfl)) rfl rfl
  rw [show poff poly [.fld 2] = 2 from rfl] at rf
  refine wpOps_cons o3a o3d (upon_val (v := .pointer (some ⟨b, o + pre.length * 3 + 2, none⟩)) (w' := w) (by
    simp only [execOp, o3b, show a4.eval (.tmp 28) = .pointer (some ⟨b, o + pre.length * 3, none⟩) from p3.ev, Sem.run_bind, rf, Result.andThen_ok, Sem.run_pure]) ?_)
  rw [o3c]
  have p4 := p3.put (d := 29) (by omega) (.pointer (some ⟨b, o + pre.length * 3 + 2, none⟩))
  generalize a4.put (some 29) (.pointer (some ⟨b, o + pre.length * 3 + 2, none⟩)) = a5 at p4 ⊢
  have rl := run_loadS (P := Tryz.prog) (tt_ok 32 (.slice 135 term) (by kernel_rfl)) (w := w) (b := b) (o := o + pre.length * 3 + 2) r2 hcv
  refine wpOps_cons o4a o4d (upon_val (v := v) (w' := w) (by
    simp only [execOp, o4b, show a5.eval (.tmp 29) = .pointer (some ⟨b, o + pre.length * 3 + 2, none⟩) from p4.ev, Sem.run_bind, rl, Result.andThen_ok, Sem.run_pure]) ?_)
  rw [o4c]
  have p5 := p4.put (d := 30) (by omega) v
  generalize a5.put (some 30) v = a6 at p5 ⊢
  refine wpOps_cons o5a o5d (upon_val (v := .int .i64 k) (w' := w) (by simp only [execOp, o5b, show a6.eval (.tmp 1) = .int .i64 k from p5.ev.trans f1, Sem.run_pure]) ?_)
  rw [o5c]
  have p6 := p5.put (d := 31) (by omega) (.int .i64 k)
  generalize a6.put (some 31) (.int .i64 k) = a7 at p6 ⊢
  obtain ⟨fn, h1, h2, h3⟩ := k70.fn
  refine wpOps_cons f1a f1d ?_
  unfold Oper.wp
  rw [run_enter2 f1b f1e (isF_ev f1f a7) f1g h1 h2 h3]
  simp only [Oper.upon]
  have e15 : a7.eval (.tmp 30) = v := p6.ev
  have e16 : a7.eval (.tmp 31) = .int .i64 k := p6.ev
  rw [e15, e16]
  have hcvv : v.cells = #[v] := by
    rcases v2 with ⟨p, q, _⟩ | ⟨_, _, _, _, _, q, _⟩ <;> rw [q] <;> rfl
  have hone : OneV w.heap (.slice 135 term) x.2.2.1 v be := ⟨⟨v, blkv, bsv, by rw [hcvv], v2, v3⟩, fun q => (by cases q), fun _ => hcvv⟩
  have hav : ArgsV w.heap [.v (.slice 135 term), .v i64] (x.2.2.1, k, ()) [v, .int .i64 k] be :=
    ⟨_, _, be, [], rfl, by simp, hone, _, _, [], [], rfl, rfl, one_int wk, rfl, rfl⟩
  have call := k70.inp rfl (x.2.2.1, k, ()) yx hyx w _ be hav r5 (fun b hb => n1.wr b (r6 b hb))
  refine call.mono ?_
  rintro ee w2 ⟨v0', rv, bf, z1, rfl, z2, ⟨zn, zs⟩, z3, z4, z5, z6, z7, z8⟩
  simp only [List.head?_cons, Option.some.injEq] at z1
  subst z1
  obtain ⟨u1, ur, ub1, ub2, y1, y2, _, y3, y4⟩ := z2
  simp only [List.cons.injEq] at y1
  obtain ⟨y1a, y1b⟩ := y1
  subst y1a; subst y1b
  obtain ⟨u2, ur2, ub3, ub4, y5, y6, _, y7, y8⟩ := y3
  obtain ⟨y7a, y7b⟩ := y7
  subst y7a; subst y5; subst y7b; subst y8; subst y4
  have hk2 : u2 = .int .i64 yx.2.1 ∧ (Lit.int .i64 yx.2.1).wf = true ∧ ub3 = [] := by
    obtain ⟨⟨c1, c2, c3⟩, _, c4⟩ := y6
    rw [c4 rfl] at c1
    exact ⟨by simpa using c1, c2, c3⟩
  obtain ⟨hk2, wk2, hb3⟩ := hk2
  subst hk2; subst hb3
  simp only [List.append_nil] at zn zs
  show wpOps _ _ _ _ _ _
  rw [f1c]
  show wpOps _ _ _ _ (a7.put (some 32) (.int .i64 yx.2.1)) _
  have p7 := p6.put (d := 32) (by omega) (.int .i64 yx.2.1)
  generalize a7.put (some 32) (.int .i64 yx.2.1) = a8 at p7 ⊢
  refine wpOps_cons o7a o7d (upon_val (v := .int .i64 yx.2.1) (w' := w2) (by simp only [execOp, o7b, show a8.eval (.tmp 32) = .int .i64 yx.2.1 from p7.ev, Sem.run_pure]) ?_)
  rw [o7c]
  have p8 := p7.put (d := 1) (by omega) (.int .i64 yx.2.1)
  generalize a8.put (some 1) (.int .i64 yx.2.1) = a9 at p8 ⊢
  have hb2 : w2.heap[b]? = some (.cells c e' (0, 0)) := by
    rw [z7 b (Nat.lt_of_lt_of_le (n1.lt b r8) n1.size) r7]; exact r2
  have n2 : Nst w0 ba 34 poly hd (pre ++ (x.1, x.2.1, yx.1, ()) :: suf) w2 := by
    refine fin w2 (x.1, x.2.1, yx.1, ()) c ub1 hb2 rfl (fun _ _ => rfl) ?_ zn zs z3 z4 z5 z6 (fun z hz hn _ => z7 z hz hn) z8
    rw [three, c1]
    obtain ⟨⟨hd3, blk3, bs3, w1', w2', w3'⟩, _, _⟩ := y2
    rw [hcvv] at w1'
    exact rdPoly.2 ⟨v, rfl, c2, c3, hd3, blk3, bs3, w1', w2', w3'⟩
  exact hQ a9 w2 _ p8 (show _ = hd from f0) (show _ = Value.int .i64 yx.2.1 from rfl) (show _ = Value.int .i64 (pre.length : Int) from f5) wk2 n2
theorem round27 {a : Act} {w : World} {pre suf : List poly.den} {k : Int} {f : Nat → Value} {Q : Exit → Act → World → Prop} (k70 : KOne Tryz.prog 110 ⟨[.v (.slice 135 term), .v i64], [.slice 135 term, i64], false, false, 1, g⟩) (hN : N ≤ 100000000)
    (I : I27 w0 ba hd g N y a w pre suf k f) (hQ : ∀ a' w' f', AtV 34 f' a' → f' 0 = hd → f' 1 = .int .i64 y.2 → (Lit.int .i64 y.2).wf = true → Nst w0 ba 34 poly hd y.1 w' → (∃ i, f' 5 = .int .i64 i ∧ (Lit.int .i64 i).wf = true) → Q (.exit 0) a' w') :
    loop27.wp Tryz.prog (Exit.then (fun a' w' => (∃ pre suf k f, I27 w0 ba hd g N y a' w' pre suf k f) ∧ mu28 N a' < mu28 N a) Q) a w := by
  have hl := I.len
  simp only [List.length_append] at hl
  have wi : (Lit.int .i64 (pre.length : Int)).wf = true := wf_i (by omega) (by omega)
  have st := rawSt I.at_ I.f0 I.f1 I.f5 I.wk wi I.nst
  have hlen : decide (List.length (pre ++ suf) ≤ 9223372036854775807) = true := decide_eq_true (by rw [List.length_append]; omega)
  refine wp_seq (wp_seq (ev_wp (A := fun b => b ∈ ba) (ks := [0, 1, 5, 9]) mixed tt_ok KOK.nil (fun b hb => (by cases hb)) (oc27 2 (by simp) hd) trivial ((e27c (pre ++ suf) k pre.length).trans (by rw [hlen]; rfl)) st rfl fun a1 w1 g1 st1 A1 => ?_))
  have t0 : a1.tmps.getD 0 undef = hd := st1.sz.2 rfl
  have t1 : a1.tmps.getD 1 undef = .int .i64 k := (asI_inv (st1.ent 1) rfl).1
  have t5 : a1.tmps.getD 5 undef = .int .i64 pre.length := (asI_inv (st1.ent 5) rfl).1
  have t9 : a1.eval (.tmp 9) = .bool (decide ((pre.length : Int) < Int.ofNat (pre ++ suf).length)) := by
    have : EntR g1 w1.heap 9 (boolE (decide ((pre.length : Int) < Int.ofNat (pre ++ suf).length))) (a1.tmps.getD 9 undef) := st1.ent 9
    obtain ⟨bs4, hl4, _⟩ := val1 this
    obtain ⟨⟨z, _⟩, _⟩ := hl4
    injection z
  have n1 := I.nst.of_St st1
  have at1 : AtV 34 _ a1 := st1.atV
  show Code.wp _ _ _ _ _
  cases suf with
  | nil =>
    have t9 : a1.eval (.tmp 9) = .bool false := by rw [t9]; congr 1; exact decide_eq_false (by simp)
    refine wp_cond (t := false) t9 (wp_exit ?_)
    obtain ⟨z, hz, hy⟩ := I.run
    simp only [foldM27, Option.some.injEq] at hz
    subst hz
    subst hy
    rw [List.append_nil] at n1
    exact hQ a1 w1 _ at1 t0 t1 I.wk (by show Nst w0 ba 34 poly hd (pre ++ []) w1; rw [List.append_nil]; exact n1) ⟨_, t5, wi⟩
  | cons x suf =>
    have t9 : a1.eval (.tmp 9) = .bool true := by rw [t9]; congr 1; exact decide_eq_true (by simp; omega)
    refine wp_cond (t := true) t9 (wp_skip ?_)
    show Code.wp _ _ _ _ _
    obtain ⟨z, hz, hy⟩ := I.run
    simp only [foldM27] at hz
    split at hz
    · rename_i yx hyx
      split at hz
      · rename_i zr hzr
        injection hz with hz; subst hz
        have w1k : (Lit.int .i64 (wr1 k)).wf = true := wrap_wf _ _
        have w2k : (Lit.int .i64 (wr1 (wr1 k))).wf = true := wrap_wf _ _
        refine wp_seq (wp_block (wp_seq (reg27_4 at1 t0 t1 t5 I.wk n1 fun b1 u1 h1 bt1 bf0 bf1 bf5 m1 => ?_)))
        show Code.wp _ _ _ _ _
        have sa := rawSt bt1 bf0 bf1 bf5 I.wk wi m1
        refine wp_seq (ev_wp (A := fun b => b ∈ ba) (ks := [0, 1, 5]) mixed tt_ok KOK.nil (fun b hb => (by cases hb)) (oc27 5 (by simp) hd) trivial (e27f _ k pre.length) sa rfl fun b2 u2 h2 sb B2 => ?_)
        show Code.wp _ _ _ _ _
        refine wp_seq (reg27_6 (sb.atV : AtV 34 _ b2) (sb.sz.2 rfl) (asI_inv (sb.ent 1) rfl).1 (asI_inv (sb.ent 5) rfl).1 w1k (m1.of_St sb) fun b3 u3 h3 bt3 cf0 cf1 cf5 m3 => ?_)
        show Code.wp _ _ _ _ _
        have sc := rawSt bt3 cf0 cf1 cf5 w1k wi m3
        refine wp_seq (ev_wp (A := fun b => b ∈ ba) (ks := [0, 1, 5]) mixed tt_ok KOK.nil (fun b hb => (by cases hb)) (oc27 7 (by simp) hd) trivial (e27g _ (wr1 k) pre.length) sc rfl fun b4 u4 h4 sd B4 => ?_)
        show Code.wp _ _ _ _ _
        refine reg27_8 (x := setF 1 (setF 0 x k) (wr1 k)) k70 (sd.atV : AtV 34 _ b4) (sd.sz.2 rfl) (asI_inv (sd.ent 1) rfl).1 (asI_inv (sd.ent 5) rfl).1 w2k (m3.of_St sd) hyx fun a8 w2 h5 p7 df0 df1 df5 wk2 n2 => ?_
        show Code.wp _ _ _ _ _
        have st2 := rawSt p7 df0 df1 df5 wk2 wi n2
        refine ev_wp (A := fun b => b ∈ ba) (ks := [0, 1, 5]) mixed tt_ok KOK.nil (fun b hb => (by cases hb)) (oc27 3 (by simp) hd) trivial (e27d _ yx.2.1 pre.length) st2 rfl fun a9 w9 g9 st9 A9 => ?_
        have s0 : a9.tmps.getD 0 undef = hd := st9.sz.2 rfl
        have s1 : a9.tmps.getD 1 undef = .int .i64 yx.2.1 := (asI_inv (st9.ent 1) rfl).1
        have s5 : a9.tmps.getD 5 undef = .int .i64 (IntKind.i64.wrap (pre.length + 1)) := (asI_inv (st9.ent 5) rfl).1
        have hwr : IntKind.i64.wrap ((pre.length : Int) + 1) = ((pre.length + 1 : Nat) : Int) := by
          simp only [List.length_cons] at hl
          simp [IntKind.wrap, IntKind.bits, IntKind.signed]; split <;> omega
        rw [hwr] at s5
        have n9 := n2.of_St st9
        simp only [List.length_cons] at hl
        refine ⟨⟨pre ++ [(k, wr1 k, yx.1, ())], suf, yx.2.1, _, st9.atV, s0, s1, ?_, wk2, ?_, ?_, zr, hzr, ?_⟩, ?_⟩
        · show a9.tmps.getD 5 undef = _
          rw [s5]; simp
        · rw [List.append_assoc]; exact n9
        · simp; omega
        · rw [← hy]; simp
        · have : mu28 N a = N - pre.length := by
            unfold mu28
            rw [I.at_.at_, I.f5]; simp only; omega
          have m9 : mu28 N a9 = N - (pre.length + 1) := by unfold mu28; rw [s5]; simp only; omega
          rw [this, m9]; omega
      · cases hz
    · cases hz
theorem one27 {cf : G27h} (k70 : KOne Tryz.prog 110 ⟨[.v (.slice 135 term), .v i64], [.slice 135 term, i64], false, false, 1, g⟩)
    (h : ∀ x y, cf x = some y → (show List poly.den from x.1).length ≤ 100000000 ∧ ∃ z, foldM27 g x.1 x.2.1 = some z ∧ y = (z.1, z.2, ())) : KOne Tryz.prog 40 ⟨[.v polys, .v i64], [polys, i64], false, false, 1, cf⟩ := by
  refine ⟨fun q => (by cases q), fun _ => ?_, fun q => (by cases q), Tryz.f40, Tryz.func40, by decide, rfl⟩
  intro x y hxy w vs ba hv hnd hw
  obtain ⟨L, k, _⟩ := x
  obtain ⟨hN, z, hz, rfl⟩ := h _ _ hxy
  replace hN : List.length (show List poly.den from L) ≤ 100000000 := hN
  have hv0 := hv
  obtain ⟨v0, r1, b1, b2, rfl, rfl, o1, v1, r2, b3, b4, rfl, rfl, o2, rfl, rfl⟩ := hv
  have hv1 : v1 = .int .i64 k ∧ (Lit.int .i64 k).wf = true ∧ b3 = [] := by
    obtain ⟨⟨c1, c2, c3⟩, _, c4⟩ := o2
    rw [c4 rfl] at c1
    exact ⟨by simpa using c1, c2, c3⟩
  obtain ⟨rfl, wk, rfl⟩ := hv1
  simp only [List.append_nil] at hnd hw hv0 ⊢
  obtain ⟨⟨hd, blk, bs, z1, z2, z3⟩, _, z4⟩ := o1
  have hc := z4 rfl
  have eh : hd = v0 := by rw [hc] at z1; injection z1 with z1 _; exact z1.symm
  subst eh
  have lt : ∀ b ∈ b1, b < w.heap.size := fun b hb => by
    obtain ⟨c, e, q⟩ := hw b hb
    rcases Nat.lt_or_ge b w.heap.size with q' | q'
    · exact q'
    · rw [Array.getElem?_eq_none q'] at q; cases q
  have n0 : Nst w b1 34 poly hd L w := ⟨⟨blk, bs, z2, by rw [← z3]; exact hnd, by rw [← z3]; exact fun z hz => hz⟩, rfl, Tp.refl, rfl, Nat.le_refl _, fun _ _ _ => rfl, hw, lt⟩
  have st0 := init_St (n := Tryz.f40.ntmps) hv0 (by rw [nt27]; decide)
  refine calls_of_wp Tryz.func40 sk27 ?_
  have stk : St ⟨34, true, hd⟩ w (fun _ => False) (gh0 w [hd, .int .i64 k] b1) (initEnv 0 [.v polys, .v i64] (L, k, ())).get { tmps := [hd, .int .i64 k].toArray ++ Array.replicate (Tryz.f40.ntmps - [hd, .int .i64 k].toArray.size) undef, defers := [] } w :=
    ⟨st0.inv, st0.ent, ⟨st0.sz.1.trans nt27, fun _ => by rw [Array.getD_eq_getD_getElem?, Array.getElem?_append_left (by simp)]; rfl⟩, st0.df, st0.os, st0.tape, st0.output⟩
  refine wp_seq (ev_wp (A := fun b => b ∈ b1) (ks := [0, 1]) mixed tt_ok KOK.nil (fun b hb => (by cases hb)) (oc27 0 (by simp) hd) trivial (e27a L k) stk rfl fun a1 w1 g1 st1 A1 => ?_)
  show Code.wp _ _ _ _ _
  refine wp_seq (wp_seq (ev_wp (A := fun b => b ∈ b1) (ks := [0, 1, 5]) mixed tt_ok KOK.nil (fun b hb => (by cases hb)) (oc27 1 (by simp) hd) trivial (e27b L k) st1 A1 fun a2 w2 g2 st2 A2 => ?_))
  show Code.wp _ _ _ _ _
  have n2 := n0.of_St st2
  have at2 : AtV 34 _ a2 := st2.atV
  have t0 : a2.tmps.getD 0 undef = hd := st2.sz.2 rfl
  have t1 : a2.tmps.getD 1 undef = .int .i64 k := (asI_inv (st2.ent 1) rfl).1
  have t5 : a2.tmps.getD 5 undef = .int .i64 0 := (asI_inv (st2.ent 5) rfl).1
  refine wp_block (wp_loop (fun a' w' => ∃ pre suf k f, I27 w b1 hd g (List.length (show List poly.den from L)) z a' w' pre suf k f) (fun a' _ => mu28 (List.length (show List poly.den from L)) a') ⟨[], L, k, _, at2, t0, t1, t5, wk, n2, rfl, z, hz, rfl⟩ fun a3 w3 hI => ?_)
  obtain ⟨pre, suf, k3, f3, I⟩ := hI
  refine round27 k70 hN I fun a4 w4 f4 at4 s0 s1 wk4 n4 s5 => ?_
  obtain ⟨i, s5, wi⟩ := s5
  show Code.wp _ _ _ _ _
  have st4 := rawSt at4 s0 s1 s5 wk4 wi n4
  refine wp_seq (ev_wp (A := fun b => b ∈ b1) (ks := [0, 1, 4]) mixed tt_ok KOK.nil (fun b hb => (by cases hb)) (oc27 9 (by simp) hd) trivial (e27e z.1 z.2 i) st4 rfl fun a5 w5 g5 st5 A5 => ?_)
  show Code.wp _ _ _ _ _
  have n5 := n4.of_St st5
  have u4 : a5.tmps.getD 4 undef = .int .i64 z.2 := (asI_inv (st5.ent 4) rfl).1
  refine wp_ret ?_
  have hres : (Tryz.f40.results.toList.mapM (resOne a5.tmps)).run Tryz.prog w5 = .ok [.int .i64 z.2] w5 := by rw [rs27, ← u4]; rfl
  refine ⟨st5.df, _, results_run hres, ?_⟩
  obtain ⟨blk5, bs5, y1, y2, y3⟩ := n5.rd
  exact ⟨hd, [.int .i64 z.2], blk5.toList ++ bs5, rfl, rfl, ⟨hd, _, _, [], rfl, ⟨⟨hd, blk5, bs5, by rw [hc], y1, rfl⟩, fun q => (by cases q), fun _ => hc⟩, fun q => (by cases q), ⟨_, [], [], [], rfl, one_int wk4, fun q => (by cases q), ⟨rfl, rfl⟩, rfl⟩, by simp⟩,
    ⟨y2, y3⟩, n5.os, n5.tp, n5.out, n5.size, n5.old, n5.wr⟩
end
abbrev Po : Type := poly.den
def tms (x : Po) : List term.den := x.2.2.1
def cf181 : G220 := fun x => some (x.1, ())
theorem k181 : KOne Tryz.prog 220 ⟨[.v ex], [ex], false, false, 0, cf181⟩ := ok220 .nil cf181 fun x y h => by
  obtain ⟨⟨a, b, c, u⟩, _⟩ := x
  injection h with h; subst h
  exact ⟨5, rfl⟩
def cf168 : G164 := fun x => some (x.1, ())
theorem k168 : KOne Tryz.prog 164 ⟨[.v lterm], [term], false, false, 0, cf168⟩ := ok164 _ (.cons k181 .nil) cf168 fun x y h => by
  obtain ⟨⟨a, b, u⟩, _⟩ := x
  injection h with h; subst h
  exact ⟨0, rfl⟩
theorem copy_setG {α : Type} {l : List α} {i : Nat} {d d' : α} (h : i < l.length) : (l.take i ++ List.replicate (l.length - i) d).set i (l.getD i d') = l.take (i + 1) ++ List.replicate (l.length - (i + 1)) d := by
  apply List.ext_getElem?
  intro j
  rw [List.getElem?_set]
  have hl : (l.take i).length = i := by simp; omega
  have hl2 : (l.take (i + 1)).length = i + 1 := by simp; omega
  by_cases q : i = j
  · subst q
    rw [if_pos rfl, if_pos (by simp; omega), List.getElem?_append_left (by omega), List.getElem?_take_of_lt (by omega), List.getD_eq_getElem?_getD, List.getElem?_eq_getElem h]; rfl
  · rw [if_neg q]
    rcases Nat.lt_or_ge j i with z | z
    · rw [List.getElem?_append_left (by omega), List.getElem?_append_left (by omega), List.getElem?_take_of_lt z, List.getElem?_take_of_lt (by omega)]
    · rw [List.getElem?_append_right (by omega), List.getElem?_append_right (by omega), hl, hl2, List.getElem?_replicate, List.getElem?_replicate]
      by_cases y : j < l.length
      · rw [if_pos (by omega), if_pos (by omega)]
      · rw [if_neg (by omega), if_neg (by omega)]
def cf136 : G90 := fun x => if (show List term.den from x.1).length ≤ 2000000 then some (x.1, ()) else none
theorem k136 : KOne Tryz.prog 90 ⟨[.v (.slice 147 lterm)], [.slice 135 term], true, false, 0, cf136⟩ := ok90 _ (.cons k168 .nil) cf136 fun x y h => by
  obtain ⟨l, _⟩ := x
  change List term.den at l
  simp only [cf136] at h
  split at h
  · rename_i hc
    injection h with h; subst h
    refine ⟨l.length + 1, ?_⟩
    simp only [fn90]
    rw [dln_t (by omega)]
    simp only [cond_true, ofn]
    rw [dle_t (by omega), dle_t (by omega)]
    simp only [decide_true, Bool.and_self, cond_true, tn_cast, ru90_3]
    refine iter_run (step := fun s k => st90_3 cf168 (l.length + 1) s k (fun s' => match s' with | ((t0, _), (t3, _), (t4, _), _) => (some (t3, ())))) (r := some (l, ())) l.length (l.length + 1) (fun i => ((l, ()), ((l.take i ++ List.replicate (l.length - i) (Ty.dflt term), ()), ((i : Int), ()), ()))) (by omega) (fun i hi k => ?_) (fun k => ?_)
    · have h1 : (l.take i ++ List.replicate (l.length - i) (Ty.dflt term)).length = l.length := by simp; omega
      have h2 := fun d' => copy_setG (d := Ty.dflt term) (d' := d') hi
      generalize hL : l.take i ++ List.replicate (l.length - i) (Ty.dflt term) = L at *
      simp (disch := omega) only [st90_3, dln_t, cond_true, ofn, dlt_t, ib_t, tn_cast, w6_id, cf168, h2]
      rfl
    · have h1 : l.take l.length ++ List.replicate (l.length - l.length) (Ty.dflt term) = l := by simp
      rw [h1]
      simp (disch := omega) only [st90_3, dln_t, cond_true, ofn, dlt_f, cond_false]
  · cases h
def cf66 : G27 := fun x => if (show List term.den from x.1.2.2.1).length ≤ 2000000 then some (x.1, ()) else none
theorem k66 : KOne Tryz.prog 27 ⟨[.v lpoly], [poly], true, false, 0, cf66⟩ := ok27 _ (.cons k136 .nil) cf66 fun x y h => by
  obtain ⟨⟨p, v, l, u⟩, _⟩ := x
  simp only [cf66] at h
  split at h
  · rename_i hc
    injection h with h; subst h
    refine ⟨0, ?_⟩
    have g : cf136 (l, ()) = some (l, ()) := if_pos hc
    simp only [fn27, g]
  · cases h
def smallP (L : List Po) : Prop := L.length ≤ 2000000 ∧ ∀ x ∈ L, (tms x).length ≤ 2000000
open Classical in
noncomputable def cf23 : G26 := fun x => if smallP x.1 then some (x.1, ()) else none
theorem k23 : KOne Tryz.prog 26 ⟨[.v (.slice 25 lpoly)], [.slice 34 poly], true, false, 0, cf23⟩ := ok26 _ (.cons k66 .nil) cf23 fun x y h => by
  obtain ⟨l, _⟩ := x
  change List Po at l
  simp only [cf23] at h
  split at h
  · rename_i hc
    injection h with h; subst h
    obtain ⟨hc, hx⟩ := hc
    have hc : l.length ≤ 2000000 := hc
    refine ⟨l.length + 1, ?_⟩
    simp only [fn26]
    rw [dln_t (by omega)]
    simp only [cond_true, ofn]
    rw [dle_t (by omega), dle_t (by omega)]
    simp only [decide_true, Bool.and_self, cond_true, tn_cast, ru26_3]
    refine iter_run (step := fun s k => st26_3 cf66 (l.length + 1) s k (fun s' => match s' with | ((t0, _), (t3, _), (t4, _), _) => (some (t3, ())))) (r := some (l, ())) l.length (l.length + 1) (fun i => ((l, ()), ((l.take i ++ List.replicate (l.length - i) (Ty.dflt poly), ()), ((i : Int), ()), ()))) (by omega) (fun i hi k => ?_) (fun k => ?_)
    · have h1 : (l.take i ++ List.replicate (l.length - i) (Ty.dflt poly)).length = l.length := by simp; omega
      have h2 := fun d' => copy_setG (d := Ty.dflt poly) (d' := d') hi
      have g : ∀ d', cf66 (l.getD i d', ()) = some (l.getD i d', ()) := fun d' => if_pos (hx _ (by rw [List.getD_eq_getElem?_getD, List.getElem?_eq_getElem hi]; exact List.getElem_mem hi))
      generalize hL : l.take i ++ List.replicate (l.length - i) (Ty.dflt poly) = L at *
      simp (disch := omega) only [st26_3, dln_t, cond_true, ofn, dlt_t, ib_t, tn_cast, w6_id]
      show (match cf66 (l.getD i (Ty.dflt lpoly), ()) with | some r10 => _ | none => none) = _
      rw [g]
      show k ((l, ()), ((L.set i (l.getD i (Ty.dflt lpoly)), ()), (((i : Int) + 1), ()), ())) = _
      rw [h2]
      rfl
    · have h1 : l.take l.length ++ List.replicate (l.length - l.length) (Ty.dflt poly) = l := by simp
      rw [h1]
      simp (disch := omega) only [st26_3, dln_t, cond_true, ofn, dlt_f, cond_false]
  · cases h
theorem g23_ok {L : List Po} (h : smallP L) : cf23 (L, ()) = some (L, ()) := if_pos h
def cf134 : G80 := fun x => if (show List term.den from x.1).length ≤ 9223372036854775807 ∧ 0 ≤ x.2.1 ∧ x.2.1 ≤ (1048576 : Int) then some (if x.2.1 - ((show List term.den from x.1).length : Int) < 0 then -1 else x.2.1 - ((show List term.den from x.1).length : Int), ()) else none
theorem k134 : KOne Tryz.prog 80 ⟨[.v (.slice 147 lterm), .v i64], [i64], false, false, 0, cf134⟩ := ok80 .nil cf134 fun x y h => by
  obtain ⟨l, k, _⟩ := x
  change List term.den at l
  change Int at k
  simp only [cf134] at h
  split at h
  · rename_i hc
    injection h with h; subst h
    obtain ⟨h1, h2, h3⟩ := hc
    have h2 : (0 : Int) ≤ k := h2
    have h3 : k ≤ (1048576 : Int) := h3
    refine ⟨0, ?_⟩
    simp only [fn80]
    rw [dln_t h1, cond_true]
    have hw := w6_id (x := k - (l.length : Int)) (by omega) (by omega)
    simp only [ofn, hw]
    by_cases q : k - (l.length : Int) < 0
    · rw [dlt_t q, if_pos q]; rfl
    · rw [dlt_f (by omega), if_neg q]; rfl
  · cases h
def cf63 : G24 := fun x => cf134 (x.1.2.2.1, x.2.1, ())
theorem k63 : KOne Tryz.prog 24 ⟨[.v lpoly, .v i64], [i64], false, false, 0, cf63⟩ := ok24 _ (.cons k134 .nil) cf63 fun x y h => by
  obtain ⟨⟨p, v, l, u⟩, k, _⟩ := x
  change List term.den at l
  change Int at k
  have h' : cf134 (l, k, ()) = some y := h
  refine ⟨0, ?_⟩
  show (match cf134 (l, k, ()) with | some r5 => (bif decide (r5.1 < (0 : Int)) then (some ((-(1 : Int)), ())) else (some (r5.1, ()))) | none => none) = _
  rw [h']
  simp only [cf134] at h'
  split at h'
  · injection h' with h'; subst h'
    by_cases q : k - (l.length : Int) < 0
    · rw [if_pos q]; rfl
    · rw [if_neg q]
      show (bif decide (k - (l.length : Int) < 0) then _ else _) = _
      rw [dlt_f (by omega)]; rfl
  · cases h'
def szR (k : Int) : List Po → Int
  | [] => k
  | x :: r => if k - ((tms x).length : Int) < 0 then -1 else szR (k - ((tms x).length : Int)) r
def totT : List Po → Nat
  | [] => 0
  | x :: r => (tms x).length + totT r
theorem szR_tot : ∀ {L : List Po} {k : Int}, 0 ≤ szR k L → (totT L : Int) ≤ k
  | [], k, h => by simp only [szR] at h; simpa [totT] using h
  | x :: r, k, h => by
    simp only [szR] at h
    split at h
    · omega
    · have := szR_tot h
      simp only [totT]; omega
theorem tot_mem : ∀ {L : List Po} {x : Po}, x ∈ L → (tms x).length ≤ totT L
  | y :: r, x, h => by
    simp only [totT]
    rcases List.mem_cons.1 h with rfl | h
    · omega
    · have := tot_mem h; omega
theorem run21 {F0 : Nat} : ∀ (r pre : List Po) (k : Int) (F : Nat), r.length < F → (pre ++ r).length ≤ 2000000 → (∀ x ∈ r, (tms x).length ≤ 9223372036854775807) → 0 ≤ k → k ≤ 1048576 →
    iter (fun s k => st23_5 cf63 F0 s k (fun s' => match s' with | ((t0, _), (t1, _), (t5, _), _) => (some (t1, ())))) F ((pre ++ r, ()), ((k, ()), (((pre.length : Int), ()), ()))) = some (szR k r, ())
  | [], pre, k, F, hF, hl, hx, h0, h1 => by
    obtain ⟨F, rfl⟩ : ∃ f, F = f + 1 := ⟨F - 1, by simp at hF; omega⟩
    rw [List.append_nil] at hl ⊢
    simp only [iter, st23_5]
    simp (disch := omega) only [dln_t, cond_true, ofn, dlt_f, cond_false]
    rfl
  | x :: r, pre, k, F, hF, hl, hx, h0, h1 => by
    obtain ⟨F, rfl⟩ : ∃ f, F = f + 1 := ⟨F - 1, by simp at hF; omega⟩
    have l1 : pre.length < (pre ++ x :: r).length := by simp
    have g1 : ∀ dd, (pre ++ x :: r).getD pre.length dd = x := fun dd => by rw [List.getD_eq_getElem?_getD, List.getElem?_append_right (Nat.le_refl _)]; simp
    have hx0 := hx x (.head _)
    have g : cf63 (x, k, ()) = some (if k - ((tms x).length : Int) < 0 then -1 else k - ((tms x).length : Int), ()) := if_pos ⟨hx0, h0, h1⟩
    simp only [iter, st23_5]
    simp (disch := omega) only [dln_t, cond_true, ofn, dlt_t, ib_t, tn_cast, w6_id]
    show (match cf63 ((pre ++ x :: r).getD pre.length (Ty.dflt lpoly), k, ()) with | some r12 => _ | none => none) = _
    rw [g1, g]
    simp only [szR]
    by_cases q : k - ((tms x).length : Int) < 0
    · rw [if_pos q, if_pos q]; rfl
    · rw [if_neg q, if_neg q]
      show (bif decide (k - ((tms x).length : Int) < 0) then _ else _) = _
      rw [dlt_f (by omega), cond_false]
      have ih := run21 (F0 := F0) r (pre ++ [x]) (k - ((tms x).length : Int)) F (by simp at hF; omega) (by simpa using hl) (fun z hz => hx z (.tail _ hz)) (by omega) (by omega)
      simp only [List.append_assoc, List.singleton_append, List.length_append, List.length_singleton] at ih
      exact ih
def sz21 (L : List Po) : Int := if (1048576 : Int) - (L.length : Int) < 0 then -1 else szR ((1048576 : Int) - (L.length : Int)) L
open Classical in
noncomputable def cf21 : G23 := fun x => if (show List Po from x.1).length ≤ 9223372036854775807 ∧ (∀ z ∈ (show List Po from x.1), (tms z).length ≤ 9223372036854775807) ∧ x.2.1 = (1048576 : Int) then some (sz21 x.1, ()) else none
theorem k21 : KOne Tryz.prog 23 ⟨[.v (.slice 25 lpoly), .v i64], [i64], false, false, 0, cf21⟩ := ok23 _ (.cons k63 .nil) cf21 fun x y h => by
  obtain ⟨L, k, _⟩ := x
  change List Po at L
  change Int at k
  simp only [cf21] at h
  split at h
  · rename_i hc
    injection h with h; subst h
    obtain ⟨h1, h2, h3⟩ := hc
    have h3 : k = (1048576 : Int) := h3
    have h1 : L.length ≤ 9223372036854775807 := h1
    subst h3
    refine ⟨L.length + 1, ?_⟩
    simp only [fn23]
    rw [dln_t h1, cond_true]
    have hw := w6_id (x := (1048576 : Int) - (L.length : Int)) (by omega) (by omega)
    simp only [ofn, hw]
    unfold sz21
    by_cases q : (1048576 : Int) - (L.length : Int) < 0
    · rw [dlt_t q, if_pos q]; rfl
    · rw [dlt_f (by omega), if_neg q, cond_false]
      simp only [ru23_5]
      exact run21 L [] _ (L.length + 1) (by omega) (by simp; omega) h2 (by omega) (by omega)
  · cases h
theorem g21_ok {L : List Po} (h1 : L.length ≤ 9223372036854775807) (h2 : ∀ z ∈ L, (tms z).length ≤ 9223372036854775807) : cf21 (L, (1048576 : Int), ()) = some (sz21 L, ()) := if_pos ⟨h1, h2, rfl⟩
theorem sz21_small {L : List Po} (h : 0 ≤ sz21 L) : L.length ≤ 1048576 ∧ totT L ≤ 1048576 := by
  unfold sz21 at h
  split at h
  · omega
  · have := szR_tot h; omega
theorem smallP_of {L : List Po} (h : L.length ≤ 1048576 ∧ totT L ≤ 1048576) : smallP L := ⟨by omega, fun x hx => by have := tot_mem hx; omega⟩
theorem run26 {L : List Po} (hs : smallP L) {F0 : Nat} : ∀ (r pre : List Po) (F : Nat), r.length < F → pre ++ r = L →
    iter (fun s k => st29_4 cf39 F0 s k (fun s' => match s' with | ((t0, _), (t1, _), (t5, _), _) => (some (true, ())))) F ((L, ()), ((L, ()), (((pre.length : Int), ()), ()))) = some (true, ())
  | [], pre, F, hF, e => by
    obtain ⟨F, rfl⟩ : ∃ f, F = f + 1 := ⟨F - 1, by simp at hF; omega⟩
    have hL := hs.1
    rw [List.append_nil] at e; subst e
    simp only [iter, st29_4]
    simp (disch := omega) only [dln_t, cond_true, ofn, dlt_f, cond_false]
  | x :: r, pre, F, hF, e => by
    obtain ⟨F, rfl⟩ : ∃ f, F = f + 1 := ⟨F - 1, by simp at hF; omega⟩
    have hL := hs.1
    have l1 : pre.length < L.length := by rw [← e]; simp
    have g1 : ∀ dd, L.getD pre.length dd = x := fun dd => by rw [← e, List.getD_eq_getElem?_getD, List.getElem?_append_right (Nat.le_refl _)]; simp
    have hx : (tms x).length ≤ 2000000 := hs.2 x (by rw [← e]; simp)
    have g : cf39 (x, x, ()) = some (true, ()) := if_pos ⟨rfl, rfl, rfl, hx⟩
    simp only [iter, st29_4]
    simp (disch := omega) only [dln_t, cond_true, ofn, dlt_t, ib_t, tn_cast, w6_id]
    show (match cf39 (L.getD pre.length (Ty.dflt poly), L.getD pre.length (Ty.dflt poly), ()) with | some r11 => _ | none => none) = _
    rw [g1, g]
    have ih := run26 hs (F0 := F0) r (pre ++ [x]) F (by simp at hF; omega) (by simpa using e)
    simp only [List.length_append, List.length_singleton] at ih
    exact ih
open Classical in
noncomputable def cf26 : G29 := fun x => if (show List Po from x.1) = x.2.1 ∧ smallP x.1 then some (true, ()) else none
theorem k26 : KOne Tryz.prog 29 ⟨[.v (.slice 34 poly), .v (.slice 34 poly)], [.bool], false, false, 0, cf26⟩ := ok29 _ (.cons k39 .nil) cf26 fun x y h => by
  obtain ⟨L, M, _⟩ := x
  change List Po at L
  change List Po at M
  simp only [cf26] at h
  split at h
  · rename_i hc
    injection h with h; subst h
    obtain ⟨c0, hs⟩ := hc
    have c0 : L = M := c0
    have hs : smallP L := hs
    subst c0
    have hL := hs.1
    refine ⟨L.length + 1, ?_⟩
    simp (disch := omega) only [fn29, dln_t, cond_true, ofn, ru29_4]
    simp only [decide_true, Bool.not_true, cond_false]
    exact run26 hs L [] (L.length + 1) (by omega) rfl
  · cases h
theorem g26_ok {L : List Po} (h : smallP L) : cf26 (L, L, ()) = some (true, ()) := if_pos ⟨rfl, h⟩
theorem wr1_i {k : Int} (h : 0 ≤ k ∧ k ≤ 1000000000000) : wr1 k = k + 1 := by
  show w6 (k + 1) = _
  exact w6_id (by omega) (by omega)
theorem fold27 : ∀ {L : List Po} {k : Int}, (∀ x ∈ L, (tms x).length ≤ 2000000) → 0 ≤ k → k + 2 * (L.length : Int) + 4 * (totT L : Int) ≤ 10000000000 → ∃ z, foldM27 cf70 L k = some (z, k + 2 * (L.length : Int) + 4 * (totT L : Int))
  | [], k, _, _, _ => ⟨[], by simp [foldM27, totT]⟩
  | x :: r, k, hx, h0, h1 => by
    simp only [totT, List.length_cons] at h1
    have e1 := wr1_i (k := k) (by omega)
    have e2 := wr1_i (k := k + 1) (by omega)
    have g : cf70 (tms x, k + 2, ()) = some (mkT (k + 2) (tms x).length, k + 2 + 4 * ((tms x).length : Int), ()) := if_pos ⟨hx x (.head _), by show (0 : Int) ≤ k + 2; omega, by show k + 2 ≤ (10000000000 : Int); omega⟩
    obtain ⟨z, hz⟩ := fold27 (L := r) (k := k + 2 + 4 * ((tms x).length : Int)) (fun y hy => hx y (.tail _ hy)) (by omega) (by omega)
    refine ⟨(k, k + 1, mkT (k + 2) (tms x).length, ()) :: z, ?_⟩
    simp only [foldM27, e1, e2]
    rw [show k + 1 + 1 = k + 2 by omega, show cf70 (x.2.2.1, k + 2, ()) = cf70 (tms x, k + 2, ()) from rfl, g]
    simp only [hz, totT, List.length_cons, Option.some.injEq, Prod.mk.injEq, true_and]
    omega
open Classical in
noncomputable def cf27 : G40 := fun x => if smallP x.1 ∧ x.2.1 = (1 : Int) ∧ totT x.1 ≤ 2000000 then (match foldM27 cf70 x.1 1 with | some z => some (z.1, z.2, ()) | none => none) else none
theorem k27 : KOne Tryz.prog 40 ⟨[.v (.slice 34 poly), .v i64], [.slice 34 poly, i64], false, false, 1, cf27⟩ := one27 (cf := cf27) k70 fun x y h => by
  obtain ⟨L, k, _⟩ := x
  change List Po at L
  change Int at k
  simp only [cf27] at h
  split at h
  · rename_i hc
    obtain ⟨hs, hk, _⟩ := hc
    have hk : k = 1 := hk
    subst hk
    split at h
    · rename_i z hz
      injection h with h; subst h
      have hs1 : L.length ≤ 2000000 := hs.1
      exact ⟨Nat.le_trans hs1 (by omega), z, hz, rfl⟩
    · cases h
  · cases h
theorem g27_ok {L : List Po} (h : L.length ≤ 1048576 ∧ totT L ≤ 1048576) : ∃ (M : List Po) (n : Int), cf27 (L, (1 : Int), ()) = some (M, n, ()) ∧ 0 ≤ n ∧ n ≤ 1000000000 := by
  have hs := smallP_of h
  obtain ⟨z, hz⟩ := fold27 (L := L) (k := 1) hs.2 (by omega) (by omega)
  refine ⟨z, 1 + 2 * (L.length : Int) + 4 * (totT L : Int), ?_, ?_, ?_⟩
  · have : cf27 (L, (1 : Int), ()) = (match foldM27 cf70 L 1 with | some z => some (z.1, z.2, ()) | none => none) := if_pos ⟨hs, rfl, by show totT L ≤ 2000000; omega⟩
    rw [this, hz]
  · show (0 : Int) ≤ 1 + 2 * (L.length : Int) + 4 * (totT L : Int); omega
  · show 1 + 2 * (L.length : Int) + 4 * (totT L : Int) ≤ (1000000000 : Int); omega
def cf143 : G156 := fn156 cf158 6
theorem k143 : KOne Tryz.prog 156 ⟨[.v i64, .v ex], [.bool], false, false, 0, cf143⟩ := ok156 _ (.cons k158 .nil) cf143 fun x y h => ⟨6, h⟩
open Go Go.RowKit
abbrev R171 : Type := Ress [.bool]
abbrev G171 : Type := Args [.v poly] → Option R171
abbrev kp171 : List (Nat × List Nat) := [(0, [1]), (1, [2])]
abbrev ct171 : CTab := []
def fn171 (F : Nat) (x : Args [.v poly]) : Option R171 :=
  match x with
  | (x0, _) => (bif decide ((List.length x0.2.2.1) ≤ 9223372036854775807) then (some (decide ((Int.ofNat (List.length x0.2.2.1)) = (0 : Int)), ())) else none)
theorem ev171 (F : Nat) (x : Args [.v poly]) : fnK TT (ct171 ) kp171 [.bool] [] (bodyOf Tryz.f171) [.tmp 2] [.v poly] false false x = fn171 F x := by
  obtain ⟨x0, _⟩ := x
  kernel_rfl
theorem ok171 (hK : KOK Tryz.prog (ct171 )) (cf : G171) (h : ∀ x y, cf x = some y → ∃ F, fn171 F x = some y) : KOne Tryz.prog 171 ⟨[.v poly], [.bool], false, false, 0, cf⟩ :=
  fn_one rfl (c := bodyOf Tryz.f171) mixed tt_ok hK Tryz.func171 (by kernel_rfl) (by kernel_rfl) (Nat.le_of_ble_eq_true (by kernel_rfl)) (by decide) fun x y hxy => by
    obtain ⟨F, hF⟩ := h x y hxy
    exact ⟨[], LTOK_by (l := []) (by kernel_rfl) trivial, (ev171 F x).trans hF⟩
abbrev R93 : Type := Ress [.bool]
abbrev G93 : Type := Args [.v poly] → Option R93
abbrev kp93 : List (Nat × List Nat) := [(0, [1]), (1, [2])]
abbrev ct93 (g171 : G171) (g167 : G167) (g95 : G95) : CTab := [(171, ⟨[.v poly], [.bool], false, false, 0, g171⟩), (167, ⟨[.v ex], [i64], false, false, 0, g167⟩), (95, ⟨[.v poly], [i64], false, false, 0, g95⟩)]
def fn93 (g171 : G171) (g167 : G167) (g95 : G95) (F : Nat) (x : Args [.v poly]) : Option R93 :=
  match x with
  | (x0, _) => (match (g171 ((x0.1, (x0.2.1, (x0.2.2.1, ()))), ())) with | some r6 => (bif r6.1 then (some (true, ())) else (bif ib (0 : Int) (Int.ofNat (List.length x0.2.2.1)) then (match (g167 ((List.getD x0.2.2.1 (tn (0 : Int)) (Ty.dflt (.pair (.arr 3 (.int .u8)) (.pair (.int .i64) .unit)))).1, ())) with | some r7 => (match (g95 ((x0.1, (x0.2.1, (x0.2.2.1, ()))), ())) with | some r8 => (some ((bif false then true else decide (r7.1 = r8.1)), ())) | none => none) | none => none) else none)) | none => none)
theorem ev93 (g171 : G171) (g167 : G167) (g95 : G95) (F : Nat) (x : Args [.v poly]) : fnK TT (ct93 g171 g167 g95 ) kp93 [.bool] [] (bodyOf Tryz.f93) [.tmp 2] [.v poly] false false x = fn93 g171 g167 g95 F x := by
  obtain ⟨x0, _⟩ := x
  kernel_rfl
theorem ok93 (g171 : G171) (g167 : G167) (g95 : G95) (hK : KOK Tryz.prog (ct93 g171 g167 g95 )) (cf : G93) (h : ∀ x y, cf x = some y → ∃ F, fn93 g171 g167 g95 F x = some y) : KOne Tryz.prog 93 ⟨[.v poly], [.bool], false, false, 0, cf⟩ :=
  fn_one rfl (c := bodyOf Tryz.f93) mixed tt_ok hK Tryz.func93 (by kernel_rfl) (by kernel_rfl) (Nat.le_of_ble_eq_true (by kernel_rfl)) (by decide) fun x y hxy => by
    obtain ⟨F, hF⟩ := h x y hxy
    exact ⟨[], LTOK_by (l := []) (by kernel_rfl) trivial, (ev93 g171 g167 g95 F x).trans hF⟩
abbrev R94 : Type := Ress [.bool]
abbrev G94 : Type := Args [.v poly, .v poly] → Option R94
abbrev kp94 : List (Nat × List Nat) := [(0, [2, 3]), (1, [4])]
abbrev ct94 : CTab := []
def fn94 (F : Nat) (x : Args [.v poly, .v poly]) : Option R94 :=
  match x with
  | (x0, x1, _) => (bif decide (x0.1 = x1.1) then (some ((bif true then decide (x0.2.1 = x1.2.1) else false), ())) else (some (false, ())))
theorem ev94 (F : Nat) (x : Args [.v poly, .v poly]) : fnK TT (ct94 ) kp94 [.bool] [] (bodyOf Tryz.f94) [.tmp 4] [.v poly, .v poly] false false x = fn94 F x := by
  obtain ⟨x0, x1, _⟩ := x
  kernel_rfl
theorem ok94 (hK : KOK Tryz.prog (ct94 )) (cf : G94) (h : ∀ x y, cf x = some y → ∃ F, fn94 F x = some y) : KOne Tryz.prog 94 ⟨[.v poly, .v poly], [.bool], false, false, 0, cf⟩ :=
  fn_one rfl (c := bodyOf Tryz.f94) mixed tt_ok hK Tryz.func94 (by kernel_rfl) (by kernel_rfl) (Nat.le_of_ble_eq_true (by kernel_rfl)) (by decide) fun x y hxy => by
    obtain ⟨F, hF⟩ := h x y hxy
    exact ⟨[], LTOK_by (l := []) (by kernel_rfl) trivial, (ev94 F x).trans hF⟩
abbrev R91 : Type := Ress [.bool]
abbrev G91 : Type := Args [.v poly] → Option R91
abbrev kp91 : List (Nat × List Nat) := [(0, [1]), (1, [15, 1]), (2, [2]), (3, [1, 19, 17, 18]), (4, [20, 18, 17, 1, 19]), (5, [3, 18, 17, 1, 19, 4]), (6, [56, 18, 17, 1, 19, 4]), (7, [2]), (8, [5, 4, 19, 1, 17, 18]), (9, [60, 18, 17, 1, 19, 4, 5]), (11, [67, 18, 17, 1, 19, 4, 5]), (12, [2]), (10, [5, 4, 19, 1, 17, 18]), (13, [1, 19, 17, 18]), (14, [2])]
abbrev ct91 (g165 : G165) (g166 : G166) (g168 : G168) (g167 : G167) : CTab := [(165, ⟨[.v i64], [.bool], false, false, 0, g165⟩), (166, ⟨[.v i64], [.bool], false, false, 0, g166⟩), (168, ⟨[.v ex, .v ex], [i64], false, false, 0, g168⟩), (167, ⟨[.v ex], [i64], false, false, 0, g167⟩)]
abbrev kr91 : Env → Option R91 := endK TT [.tmp 2] [.bool] false false
abbrev sh91_9 : Shape := [(1, .box false [.fz i64 0 false, .fz i64 0 false, .fz (.slice 135 term) 0 true]), (4, .box false [.fz ex 0 false, .fz i64 0 false]), (5, vv i64), (17, .val false [.fz (.slice 135 term) 0 true]), (18, vv i64), (19, vv i64)]
def st91_9 (g165 : G165) (g166 : G166) (g168 : G168) (g167 : G167) (F : Nat) (s : ShVal sh91_9) (k kx : ShVal sh91_9 → Option R91) : Option R91 :=
  match s with
  | ((t1_0, t1_1, t1_2, _), (t4_0, t4_1, _), (t5, _), (t17, _), (t18, _), (t19, _), _) => (bif decide (t5 < (3 : Int)) then (bif ib t5 (Int.ofNat 3) then (bif (!decide ((tget (0 : Int) 3 t4_0 (tn t5)) = (0 : Int))) then (some (false, ())) else k ((t1_0, (t1_1, (t1_2, ()))), ((t4_0, (t4_1, ())), (((w6 (t5 + (1 : Int))), ()), ((t17, ()), ((t18, ()), ((t19, ()), ()))))))) else none) else kx ((t1_0, (t1_1, (t1_2, ()))), ((t4_0, (t4_1, ())), ((t5, ()), ((t17, ()), ((t18, ()), ((t19, ()), ())))))))
def ru91_9 (g165 : G165) (g166 : G166) (g168 : G168) (g167 : G167) (F : Nat) (s : ShVal sh91_9) (kx : ShVal sh91_9 → Option R91) : Option R91 := iter (fun s k => st91_9 g165 g166 g168 g167 F s k kx) F s
abbrev ls91_9 (g165 : G165) (g166 : G166) (g168 : G168) (g167 : G167) (F : Nat) : LS R91 := ⟨sh91_9, 2, ru91_9 g165 g166 g168 g167 F⟩
abbrev sh91_4 : Shape := [(1, .box false [.fz i64 0 false, .fz i64 0 false, .fz (.slice 135 term) 0 true]), (17, .val false [.fz (.slice 135 term) 0 true]), (18, vv i64), (19, vv i64)]
def st91_4 (g165 : G165) (g166 : G166) (g168 : G168) (g167 : G167) (F : Nat) (s : ShVal sh91_4) (k kx : ShVal sh91_4 → Option R91) : Option R91 :=
  match s with
  | ((t1_0, t1_1, t1_2, _), (t17, _), (t18, _), (t19, _), _) => (bif decide (t19 < t18) then (bif ib t19 (Int.ofNat (List.length t17)) then (match (g167 ((List.getD t17 (tn t19) (Ty.dflt (.pair (.arr 3 (.int .u8)) (.pair (.int .i64) .unit)))).1, ())) with | some r19 => (bif decide ((12 : Int) < r19.1) then (some (false, ())) else (bif (bif false then true else decide ((List.getD t17 (tn t19) (Ty.dflt (.pair (.arr 3 (.int .u8)) (.pair (.int .i64) .unit)))).2.1 < (1 : Int))) then (some (false, ())) else (bif (bif false then true else decide (t1_0 ≤ (List.getD t17 (tn t19) (Ty.dflt (.pair (.arr 3 (.int .u8)) (.pair (.int .i64) .unit)))).2.1)) then (some (false, ())) else (bif decide ((0 : Int) < t19) then (bif ib (w6 (t19 - (1 : Int))) (Int.ofNat (List.length t1_2)) then (match (g168 ((List.getD t1_2 (tn (w6 (t19 - (1 : Int)))) (Ty.dflt (.pair (.arr 3 (.int .u8)) (.pair (.int .i64) .unit)))).1, ((List.getD t17 (tn t19) (Ty.dflt (.pair (.arr 3 (.int .u8)) (.pair (.int .i64) .unit)))).1, ()))) with | some r20 => (bif (bif false then true else (bif true then decide ((0 : Int) ≤ r20.1) else false)) then (some (false, ())) else (ru91_9 g165 g166 g168 g167 F ((t1_0, (t1_1, (t1_2, ()))), (((List.getD t17 (tn t19) (Ty.dflt (.pair (.arr 3 (.int .u8)) (.pair (.int .i64) .unit)))).1, ((List.getD t17 (tn t19) (Ty.dflt (.pair (.arr 3 (.int .u8)) (.pair (.int .i64) .unit)))).2.1, ())), ((t1_1, ()), ((t17, ()), ((t18, ()), ((t19, ()), ())))))) (fun s' => match s' with | ((t1_0, t1_1, t1_2, _), (t4_0, t4_1, _), (t5, _), (t17, _), (t18, _), (t19, _), _) => k ((t1_0, (t1_1, (t1_2, ()))), ((t17, ()), ((t18, ()), (((w6 (t19 + (1 : Int))), ()), ()))))))) | none => none) else none) else (bif (bif false then true else false) then (some (false, ())) else (ru91_9 g165 g166 g168 g167 F ((t1_0, (t1_1, (t1_2, ()))), (((List.getD t17 (tn t19) (Ty.dflt (.pair (.arr 3 (.int .u8)) (.pair (.int .i64) .unit)))).1, ((List.getD t17 (tn t19) (Ty.dflt (.pair (.arr 3 (.int .u8)) (.pair (.int .i64) .unit)))).2.1, ())), ((t1_1, ()), ((t17, ()), ((t18, ()), ((t19, ()), ())))))) (fun s' => match s' with | ((t1_0, t1_1, t1_2, _), (t4_0, t4_1, _), (t5, _), (t17, _), (t18, _), (t19, _), _) => k ((t1_0, (t1_1, (t1_2, ()))), ((t17, ()), ((t18, ()), (((w6 (t19 + (1 : Int))), ()), ()))))))))))) | none => none) else none) else kx ((t1_0, (t1_1, (t1_2, ()))), ((t17, ()), ((t18, ()), ((t19, ()), ())))))
def ru91_4 (g165 : G165) (g166 : G166) (g168 : G168) (g167 : G167) (F : Nat) (s : ShVal sh91_4) (kx : ShVal sh91_4 → Option R91) : Option R91 := iter (fun s k => st91_4 g165 g166 g168 g167 F s k kx) F s
abbrev ls91_4 (g165 : G165) (g166 : G166) (g168 : G168) (g167 : G167) (F : Nat) : LS R91 := ⟨sh91_4, 0, ru91_4 g165 g166 g168 g167 F⟩
def fn91 (g165 : G165) (g166 : G166) (g168 : G168) (g167 : G167) (F : Nat) (x : Args [.v poly]) : Option R91 :=
  match x with
  | (x0, _) => (match (g165 (x0.1, ())) with | some r7 => (bif (!r7.1) then (some (false, ())) else (match (g166 (x0.2.1, ())) with | some r8 => (bif (bif false then true else (!r8.1)) then (some (false, ())) else (bif decide ((List.length x0.2.2.1) ≤ 9223372036854775807) then (ru91_4 g165 g166 g168 g167 F ((x0.1, (x0.2.1, (x0.2.2.1, ()))), ((x0.2.2.1, ()), (((Int.ofNat (List.length x0.2.2.1)), ()), (((0 : Int), ()), ())))) (fun s' => match s' with | ((t1_0, t1_1, t1_2, _), (t17, _), (t18, _), (t19, _), _) => (some (true, ())))) else none)) | none => none)) | none => none)
theorem ev91_9 (g165 : G165) (g166 : G166) (g168 : G168) (g167 : G167) (F : Nat) (s : ShVal sh91_9) (k kx : ShVal sh91_9 → Option R91) : evL TT (ct91 g165 g166 g168 g167 ) kp91 [] (loopOf Tryz.f91 9) (envOf sh91_9 s) (fitK sh91_9 k) (fun j e => bif Nat.beq j 2 then fitK sh91_9 kx e else none) kr91 = st91_9 g165 g166 g168 g167 F s k kx := by
  obtain ⟨⟨t1_0, t1_1, t1_2, _⟩, ⟨t4_0, t4_1, _⟩, ⟨t5, _⟩, ⟨t17, _⟩, ⟨t18, _⟩, ⟨t19, _⟩, _⟩ := s
  kernel_rfl
theorem ok91_9 (g165 : G165) (g166 : G166) (g168 : G168) (g167 : G167) (F : Nat) (hK : KOK Tryz.prog (ct91 g165 g166 g168 g167 )) : LSOK Tryz.prog ⟨69, false, undef⟩ (ls91_9 g165 g166 g168 g167 F) (loopOf Tryz.f91 9) kr91 :=
  loop_ok (st91_9 g165 g166 g168 g167 F) mixed tt_ok hK (by kernel_rfl) (LTOK_by (l := []) (by kernel_rfl) trivial) (ev91_9 g165 g166 g168 g167 F)
theorem ev91_4 (g165 : G165) (g166 : G166) (g168 : G168) (g167 : G167) (F : Nat) (s : ShVal sh91_4) (k kx : ShVal sh91_4 → Option R91) : evL TT (ct91 g165 g166 g168 g167 ) kp91 [(9, ls91_9 g165 g166 g168 g167 F)] (loopOf Tryz.f91 4) (envOf sh91_4 s) (fitK sh91_4 k) (fun j e => bif Nat.beq j 0 then fitK sh91_4 kx e else none) kr91 = st91_4 g165 g166 g168 g167 F s k kx := by
  obtain ⟨⟨t1_0, t1_1, t1_2, _⟩, ⟨t17, _⟩, ⟨t18, _⟩, ⟨t19, _⟩, _⟩ := s
  kernel_rfl
theorem ok91_4 (g165 : G165) (g166 : G166) (g168 : G168) (g167 : G167) (F : Nat) (hK : KOK Tryz.prog (ct91 g165 g166 g168 g167 )) : LSOK Tryz.prog ⟨69, false, undef⟩ (ls91_4 g165 g166 g168 g167 F) (loopOf Tryz.f91 4) kr91 :=
  loop_ok (st91_4 g165 g166 g168 g167 F) mixed tt_ok hK (by kernel_rfl) (LTOK_by (l := [loopOf Tryz.f91 9]) (by kernel_rfl) ⟨ls_at (by kernel_rfl) (ok91_9 g165 g166 g168 g167 F hK), trivial⟩) (ev91_4 g165 g166 g168 g167 F)
theorem ev91 (g165 : G165) (g166 : G166) (g168 : G168) (g167 : G167) (F : Nat) (x : Args [.v poly]) : fnK TT (ct91 g165 g166 g168 g167 ) kp91 [.bool] [(4, ls91_4 g165 g166 g168 g167 F)] (bodyOf Tryz.f91) [.tmp 2] [.v poly] false false x = fn91 g165 g166 g168 g167 F x := by
  obtain ⟨x0, _⟩ := x
  kernel_rfl
theorem ok91 (g165 : G165) (g166 : G166) (g168 : G168) (g167 : G167) (hK : KOK Tryz.prog (ct91 g165 g166 g168 g167 )) (cf : G91) (h : ∀ x y, cf x = some y → ∃ F, fn91 g165 g166 g168 g167 F x = some y) : KOne Tryz.prog 91 ⟨[.v poly], [.bool], false, false, 0, cf⟩ :=
  fn_one rfl (c := bodyOf Tryz.f91) mixed tt_ok hK Tryz.func91 (by kernel_rfl) (by kernel_rfl) (Nat.le_of_ble_eq_true (by kernel_rfl)) (by decide) fun x y hxy => by
    obtain ⟨F, hF⟩ := h x y hxy
    exact ⟨[(4, ls91_4 g165 g166 g168 g167 F)], LTOK_by (l := [loopOf Tryz.f91 4]) (by kernel_rfl) ⟨ls_at (by kernel_rfl) (ok91_4 g165 g166 g168 g167 F hK), trivial⟩, (ev91 g165 g166 g168 g167 F x).trans hF⟩
abbrev R169 : Type := Ress [.bool]
abbrev G169 : Type := Args [.v (.slice 34 poly)] → Option R169
abbrev kp169 : List (Nat × List Nat) := [(0, [0]), (1, [7, 5, 6]), (2, [8, 6, 5, 7]), (3, [4, 6, 5, 7]), (4, [13, 6, 5, 7]), (5, [2]), (6, [7, 5, 6]), (7, [2])]
abbrev ct169 (g91 : G91) : CTab := [(91, ⟨[.v poly], [.bool], false, false, 0, g91⟩)]
abbrev kr169 : Env → Option R169 := endK TT [.tmp 2] [.bool] false false
abbrev sh169_2 : Shape := [(5, .val false [.fz (.slice 34 poly) 0 true]), (6, vv i64), (7, vv i64)]
def st169_2 (g91 : G91) (F : Nat) (s : ShVal sh169_2) (k kx : ShVal sh169_2 → Option R169) : Option R169 :=
  match s with
  | ((t5, _), (t6, _), (t7, _), _) => (bif decide (t7 < t6) then (bif ib t7 (Int.ofNat (List.length t5)) then (match (g91 (((List.getD t5 (tn t7) (Ty.dflt (.pair (.int .i64) (.pair (.int .i64) (.pair (.slice 135 (.pair (.arr 3 (.int .u8)) (.pair (.int .i64) .unit))) .unit))))).1, ((List.getD t5 (tn t7) (Ty.dflt (.pair (.int .i64) (.pair (.int .i64) (.pair (.slice 135 (.pair (.arr 3 (.int .u8)) (.pair (.int .i64) .unit))) .unit))))).2.1, ((List.getD t5 (tn t7) (Ty.dflt (.pair (.int .i64) (.pair (.int .i64) (.pair (.slice 135 (.pair (.arr 3 (.int .u8)) (.pair (.int .i64) .unit))) .unit))))).2.2.1, ()))), ())) with | some r10 => (bif (!r10.1) then (some (false, ())) else k ((t5, ()), ((t6, ()), (((w6 (t7 + (1 : Int))), ()), ())))) | none => none) else none) else kx ((t5, ()), ((t6, ()), ((t7, ()), ()))))
def ru169_2 (g91 : G91) (F : Nat) (s : ShVal sh169_2) (kx : ShVal sh169_2 → Option R169) : Option R169 := iter (fun s k => st169_2 g91 F s k kx) F s
abbrev ls169_2 (g91 : G91) (F : Nat) : LS R169 := ⟨sh169_2, 0, ru169_2 g91 F⟩
def fn169 (g91 : G91) (F : Nat) (x : Args [.v (.slice 34 poly)]) : Option R169 :=
  match x with
  | (x0, _) => (bif decide ((List.length x0) ≤ 9223372036854775807) then (ru169_2 g91 F ((x0, ()), (((Int.ofNat (List.length x0)), ()), (((0 : Int), ()), ()))) (fun s' => match s' with | ((t5, _), (t6, _), (t7, _), _) => (some (true, ())))) else none)
theorem ev169_2 (g91 : G91) (F : Nat) (s : ShVal sh169_2) (k kx : ShVal sh169_2 → Option R169) : evL TT (ct169 g91 ) kp169 [] (loopOf Tryz.f169 2) (envOf sh169_2 s) (fitK sh169_2 k) (fun j e => bif Nat.beq j 0 then fitK sh169_2 kx e else none) kr169 = st169_2 g91 F s k kx := by
  obtain ⟨⟨t5, _⟩, ⟨t6, _⟩, ⟨t7, _⟩, _⟩ := s
  kernel_rfl
theorem ok169_2 (g91 : G91) (F : Nat) (hK : KOK Tryz.prog (ct169 g91 )) : LSOK Tryz.prog ⟨15, false, undef⟩ (ls169_2 g91 F) (loopOf Tryz.f169 2) kr169 :=
  loop_ok (st169_2 g91 F) mixed tt_ok hK (by kernel_rfl) (LTOK_by (l := []) (by kernel_rfl) trivial) (ev169_2 g91 F)
theorem ev169 (g91 : G91) (F : Nat) (x : Args [.v (.slice 34 poly)]) : fnK TT (ct169 g91 ) kp169 [.bool] [(2, ls169_2 g91 F)] (bodyOf Tryz.f169) [.tmp 2] [.v (.slice 34 poly)] false false x = fn169 g91 F x := by
  obtain ⟨x0, _⟩ := x
  kernel_rfl
theorem ok169 (g91 : G91) (hK : KOK Tryz.prog (ct169 g91 )) (cf : G169) (h : ∀ x y, cf x = some y → ∃ F, fn169 g91 F x = some y) : KOne Tryz.prog 169 ⟨[.v (.slice 34 poly)], [.bool], false, false, 0, cf⟩ :=
  fn_one rfl (c := bodyOf Tryz.f169) mixed tt_ok hK Tryz.func169 (by kernel_rfl) (by kernel_rfl) (Nat.le_of_ble_eq_true (by kernel_rfl)) (by decide) fun x y hxy => by
    obtain ⟨F, hF⟩ := h x y hxy
    exact ⟨[(2, ls169_2 g91 F)], LTOK_by (l := [loopOf Tryz.f169 2]) (by kernel_rfl) ⟨ls_at (by kernel_rfl) (ok169_2 g91 F hK), trivial⟩, (ev169 g91 F x).trans hF⟩
abbrev R170 : Type := Ress [.bool]
abbrev G170 : Type := Args [.v (.slice 34 poly)] → Option R170
abbrev kp170 : List (Nat × List Nat) := [(0, [0]), (1, [7, 0, 5, 6]), (2, [8, 6, 5, 0, 7]), (3, [4, 6, 5, 0, 7]), (4, [26, 6, 5, 0, 7]), (5, [2]), (6, [7, 0, 5, 6]), (7, [2])]
abbrev ct170 (g94 : G94) (g93 : G93) (g95 : G95) : CTab := [(94, ⟨[.v poly, .v poly], [.bool], false, false, 0, g94⟩), (93, ⟨[.v poly], [.bool], false, false, 0, g93⟩), (95, ⟨[.v poly], [i64], false, false, 0, g95⟩)]
abbrev kr170 : Env → Option R170 := endK TT [.tmp 2] [.bool] false false
abbrev sh170_2 : Shape := [(0, .val false [.fz (.slice 34 poly) 0 true]), (5, .val false [.fz (.slice 34 poly) 0 true]), (6, vv i64), (7, vv i64)]
def st170_2 (g94 : G94) (g93 : G93) (g95 : G95) (F : Nat) (s : ShVal sh170_2) (k kx : ShVal sh170_2 → Option R170) : Option R170 :=
  match s with
  | ((t0, _), (t5, _), (t6, _), (t7, _), _) => (bif decide (t7 < t6) then (bif ib t7 (Int.ofNat (List.length t5)) then (bif ib (0 : Int) (Int.ofNat (List.length t0)) then (match (g94 (((List.getD t5 (tn t7) (Ty.dflt (.pair (.int .i64) (.pair (.int .i64) (.pair (.slice 135 (.pair (.arr 3 (.int .u8)) (.pair (.int .i64) .unit))) .unit))))).1, ((List.getD t5 (tn t7) (Ty.dflt (.pair (.int .i64) (.pair (.int .i64) (.pair (.slice 135 (.pair (.arr 3 (.int .u8)) (.pair (.int .i64) .unit))) .unit))))).2.1, ((List.getD t5 (tn t7) (Ty.dflt (.pair (.int .i64) (.pair (.int .i64) (.pair (.slice 135 (.pair (.arr 3 (.int .u8)) (.pair (.int .i64) .unit))) .unit))))).2.2.1, ()))), ((List.getD t0 (tn (0 : Int)) (Ty.dflt (.pair (.int .i64) (.pair (.int .i64) (.pair (.slice 135 (.pair (.arr 3 (.int .u8)) (.pair (.int .i64) .unit))) .unit))))), ()))) with | some r13 => (bif (!r13.1) then (some (false, ())) else (match (g93 (((List.getD t5 (tn t7) (Ty.dflt (.pair (.int .i64) (.pair (.int .i64) (.pair (.slice 135 (.pair (.arr 3 (.int .u8)) (.pair (.int .i64) .unit))) .unit))))).1, ((List.getD t5 (tn t7) (Ty.dflt (.pair (.int .i64) (.pair (.int .i64) (.pair (.slice 135 (.pair (.arr 3 (.int .u8)) (.pair (.int .i64) .unit))) .unit))))).2.1, ((List.getD t5 (tn t7) (Ty.dflt (.pair (.int .i64) (.pair (.int .i64) (.pair (.slice 135 (.pair (.arr 3 (.int .u8)) (.pair (.int .i64) .unit))) .unit))))).2.2.1, ()))), ())) with | some r14 => (bif (bif false then true else (!r14.1)) then (some (false, ())) else (match (g95 (((List.getD t5 (tn t7) (Ty.dflt (.pair (.int .i64) (.pair (.int .i64) (.pair (.slice 135 (.pair (.arr 3 (.int .u8)) (.pair (.int .i64) .unit))) .unit))))).1, ((List.getD t5 (tn t7) (Ty.dflt (.pair (.int .i64) (.pair (.int .i64) (.pair (.slice 135 (.pair (.arr 3 (.int .u8)) (.pair (.int .i64) .unit))) .unit))))).2.1, ((List.getD t5 (tn t7) (Ty.dflt (.pair (.int .i64) (.pair (.int .i64) (.pair (.slice 135 (.pair (.arr 3 (.int .u8)) (.pair (.int .i64) .unit))) .unit))))).2.2.1, ()))), ())) with | some r15 => (bif (bif false then true else decide (r15.1 < (1 : Int))) then (some (false, ())) else k ((t0, ()), ((t5, ()), ((t6, ()), (((w6 (t7 + (1 : Int))), ()), ()))))) | none => none)) | none => none)) | none => none) else none) else none) else kx ((t0, ()), ((t5, ()), ((t6, ()), ((t7, ()), ())))))
def ru170_2 (g94 : G94) (g93 : G93) (g95 : G95) (F : Nat) (s : ShVal sh170_2) (kx : ShVal sh170_2 → Option R170) : Option R170 := iter (fun s k => st170_2 g94 g93 g95 F s k kx) F s
abbrev ls170_2 (g94 : G94) (g93 : G93) (g95 : G95) (F : Nat) : LS R170 := ⟨sh170_2, 0, ru170_2 g94 g93 g95 F⟩
def fn170 (g94 : G94) (g93 : G93) (g95 : G95) (F : Nat) (x : Args [.v (.slice 34 poly)]) : Option R170 :=
  match x with
  | (x0, _) => (bif decide ((List.length x0) ≤ 9223372036854775807) then (ru170_2 g94 g93 g95 F ((x0, ()), ((x0, ()), (((Int.ofNat (List.length x0)), ()), (((0 : Int), ()), ())))) (fun s' => match s' with | ((t0, _), (t5, _), (t6, _), (t7, _), _) => (bif decide ((List.length t0) ≤ 9223372036854775807) then (some (decide ((Int.ofNat (List.length t0)) ≤ (8 : Int)), ())) else none))) else none)
theorem ev170_2 (g94 : G94) (g93 : G93) (g95 : G95) (F : Nat) (s : ShVal sh170_2) (k kx : ShVal sh170_2 → Option R170) : evL TT (ct170 g94 g93 g95 ) kp170 [] (loopOf Tryz.f170 2) (envOf sh170_2 s) (fitK sh170_2 k) (fun j e => bif Nat.beq j 0 then fitK sh170_2 kx e else none) kr170 = st170_2 g94 g93 g95 F s k kx := by
  obtain ⟨⟨t0, _⟩, ⟨t5, _⟩, ⟨t6, _⟩, ⟨t7, _⟩, _⟩ := s
  kernel_rfl
theorem ok170_2 (g94 : G94) (g93 : G93) (g95 : G95) (F : Nat) (hK : KOK Tryz.prog (ct170 g94 g93 g95 )) : LSOK Tryz.prog ⟨31, false, undef⟩ (ls170_2 g94 g93 g95 F) (loopOf Tryz.f170 2) kr170 :=
  loop_ok (st170_2 g94 g93 g95 F) mixed tt_ok hK (by kernel_rfl) (LTOK_by (l := []) (by kernel_rfl) trivial) (ev170_2 g94 g93 g95 F)
theorem ev170 (g94 : G94) (g93 : G93) (g95 : G95) (F : Nat) (x : Args [.v (.slice 34 poly)]) : fnK TT (ct170 g94 g93 g95 ) kp170 [.bool] [(2, ls170_2 g94 g93 g95 F)] (bodyOf Tryz.f170) [.tmp 2] [.v (.slice 34 poly)] false false x = fn170 g94 g93 g95 F x := by
  obtain ⟨x0, _⟩ := x
  kernel_rfl
theorem ok170 (g94 : G94) (g93 : G93) (g95 : G95) (hK : KOK Tryz.prog (ct170 g94 g93 g95 )) (cf : G170) (h : ∀ x y, cf x = some y → ∃ F, fn170 g94 g93 g95 F x = some y) : KOne Tryz.prog 170 ⟨[.v (.slice 34 poly)], [.bool], false, false, 0, cf⟩ :=
  fn_one rfl (c := bodyOf Tryz.f170) mixed tt_ok hK Tryz.func170 (by kernel_rfl) (by kernel_rfl) (Nat.le_of_ble_eq_true (by kernel_rfl)) (by decide) fun x y hxy => by
    obtain ⟨F, hF⟩ := h x y hxy
    exact ⟨[(2, ls170_2 g94 g93 g95 F)], LTOK_by (l := [loopOf Tryz.f170 2]) (by kernel_rfl) ⟨ls_at (by kernel_rfl) (ok170_2 g94 g93 g95 F hK), trivial⟩, (ev170 g94 g93 g95 F x).trans hF⟩
abbrev R92 : Type := Ress [i64]
abbrev G92 : Type := Args [.v (.slice 34 poly)] → Option R92
abbrev kp92 : List (Nat × List Nat) := [(0, [0]), (1, [3, 0]), (3, [7]), (4, [2]), (2, [2]), (5, [2])]
abbrev ct92 (g169 : G169) (g170 : G170) : CTab := [(169, ⟨[.v (.slice 34 poly)], [.bool], false, false, 0, g169⟩), (170, ⟨[.v (.slice 34 poly)], [.bool], false, false, 0, g170⟩)]
def fn92 (g169 : G169) (g170 : G170) (F : Nat) (x : Args [.v (.slice 34 poly)]) : Option R92 :=
  match x with
  | (x0, _) => (match (g169 (x0, ())) with | some r5 => (bif (!r5.1) then (some ((1 : Int), ())) else (bif decide ((List.length x0) ≤ 9223372036854775807) then (bif decide ((Int.ofNat (List.length x0)) = (0 : Int)) then (some ((2 : Int), ())) else (match (g170 (x0, ())) with | some r7 => (bif (bif false then true else (!r7.1)) then (some ((2 : Int), ())) else (some ((0 : Int), ()))) | none => none)) else none)) | none => none)
theorem ev92 (g169 : G169) (g170 : G170) (F : Nat) (x : Args [.v (.slice 34 poly)]) : fnK TT (ct92 g169 g170 ) kp92 [i64] [] (bodyOf Tryz.f92) [.tmp 2] [.v (.slice 34 poly)] false false x = fn92 g169 g170 F x := by
  obtain ⟨x0, _⟩ := x
  kernel_rfl
theorem ok92 (g169 : G169) (g170 : G170) (hK : KOK Tryz.prog (ct92 g169 g170 )) (cf : G92) (h : ∀ x y, cf x = some y → ∃ F, fn92 g169 g170 F x = some y) : KOne Tryz.prog 92 ⟨[.v (.slice 34 poly)], [i64], false, false, 0, cf⟩ :=
  fn_one rfl (c := bodyOf Tryz.f92) mixed tt_ok hK Tryz.func92 (by kernel_rfl) (by kernel_rfl) (Nat.le_of_ble_eq_true (by kernel_rfl)) (by decide) fun x y hxy => by
    obtain ⟨F, hF⟩ := h x y hxy
    exact ⟨[], LTOK_by (l := []) (by kernel_rfl) trivial, (ev92 g169 g170 F x).trans hF⟩
abbrev R144 : Type := Ress [i64]
abbrev G144 : Type := Args [.v (.slice 34 poly)] → Option R144
abbrev kp144 : List (Nat × List Nat) := [(0, [0]), (1, [3, 0]), (2, [8, 0, 3]), (4, [16, 0, 3]), (5, [2]), (3, [3, 0]), (6, [19, 0]), (7, [2]), (8, [4, 0]), (9, [23, 0, 4]), (11, [63, 0, 4]), (12, [2]), (10, [4, 0]), (13, [2])]
abbrev ct144 (g81 : G81) (g84 : G84) (g83 : G83) : CTab := [(81, ⟨[.v poly], [.bool], false, false, 0, g81⟩), (84, ⟨[.v poly], [i64], false, false, 0, g84⟩), (83, ⟨[.v poly], [.bool], false, false, 0, g83⟩)]
abbrev kr144 : Env → Option R144 := endK TT [.tmp 2] [i64] false false
abbrev sh144_2 : Shape := [(0, .val false [.fz (.slice 34 poly) 0 true]), (3, vv i64)]
def st144_2 (g81 : G81) (g84 : G84) (g83 : G83) (F : Nat) (s : ShVal sh144_2) (k kx : ShVal sh144_2 → Option R144) : Option R144 :=
  match s with
  | ((t0, _), (t3, _), _) => (bif decide ((List.length t0) ≤ 9223372036854775807) then (bif decide (t3 < (Int.ofNat (List.length t0))) then (bif ib t3 (Int.ofNat (List.length t0)) then (match (g81 ((List.getD t0 (tn t3) (Ty.dflt (.pair (.int .i64) (.pair (.int .i64) (.pair (.slice 135 (.pair (.arr 3 (.int .u8)) (.pair (.int .i64) .unit))) .unit))))), ())) with | some r10 => (bif (!r10.1) then (some ((1 : Int), ())) else k ((t0, ()), (((w6 (t3 + (1 : Int))), ()), ()))) | none => none) else none) else kx ((t0, ()), ((t3, ()), ()))) else none)
def ru144_2 (g81 : G81) (g84 : G84) (g83 : G83) (F : Nat) (s : ShVal sh144_2) (kx : ShVal sh144_2 → Option R144) : Option R144 := iter (fun s k => st144_2 g81 g84 g83 F s k kx) F s
abbrev ls144_2 (g81 : G81) (g84 : G84) (g83 : G83) (F : Nat) : LS R144 := ⟨sh144_2, 0, ru144_2 g81 g84 g83 F⟩
abbrev sh144_9 : Shape := [(0, .val false [.fz (.slice 34 poly) 0 true]), (4, vv i64)]
def st144_9 (g81 : G81) (g84 : G84) (g83 : G83) (F : Nat) (s : ShVal sh144_9) (k kx : ShVal sh144_9 → Option R144) : Option R144 :=
  match s with
  | ((t0, _), (t4, _), _) => (bif decide ((List.length t0) ≤ 9223372036854775807) then (bif decide (t4 < (Int.ofNat (List.length t0))) then (bif ib t4 (Int.ofNat (List.length t0)) then (bif ib (0 : Int) (Int.ofNat (List.length t0)) then (bif (!decide ((List.getD t0 (tn t4) (Ty.dflt (.pair (.int .i64) (.pair (.int .i64) (.pair (.slice 135 (.pair (.arr 3 (.int .u8)) (.pair (.int .i64) .unit))) .unit))))).1 = (List.getD t0 (tn (0 : Int)) (Ty.dflt (.pair (.int .i64) (.pair (.int .i64) (.pair (.slice 135 (.pair (.arr 3 (.int .u8)) (.pair (.int .i64) .unit))) .unit))))).1)) then (some ((2 : Int), ())) else (bif ib t4 (Int.ofNat (List.length t0)) then (bif ib (0 : Int) (Int.ofNat (List.length t0)) then (bif (bif false then true else (!decide ((List.getD t0 (tn t4) (Ty.dflt (.pair (.int .i64) (.pair (.int .i64) (.pair (.slice 135 (.pair (.arr 3 (.int .u8)) (.pair (.int .i64) .unit))) .unit))))).2.1 = (List.getD t0 (tn (0 : Int)) (Ty.dflt (.pair (.int .i64) (.pair (.int .i64) (.pair (.slice 135 (.pair (.arr 3 (.int .u8)) (.pair (.int .i64) .unit))) .unit))))).2.1))) then (some ((2 : Int), ())) else (bif ib t4 (Int.ofNat (List.length t0)) then (match (g84 ((List.getD t0 (tn t4) (Ty.dflt (.pair (.int .i64) (.pair (.int .i64) (.pair (.slice 135 (.pair (.arr 3 (.int .u8)) (.pair (.int .i64) .unit))) .unit))))), ())) with | some r14 => (bif (bif false then true else decide (r14.1 < (1 : Int))) then (some ((2 : Int), ())) else (bif ib t4 (Int.ofNat (List.length t0)) then (match (g83 ((List.getD t0 (tn t4) (Ty.dflt (.pair (.int .i64) (.pair (.int .i64) (.pair (.slice 135 (.pair (.arr 3 (.int .u8)) (.pair (.int .i64) .unit))) .unit))))), ())) with | some r15 => (bif (bif false then true else (!r15.1)) then (some ((2 : Int), ())) else k ((t0, ()), (((w6 (t4 + (1 : Int))), ()), ()))) | none => none) else none)) | none => none) else none)) else none) else none)) else none) else none) else kx ((t0, ()), ((t4, ()), ()))) else none)
def ru144_9 (g81 : G81) (g84 : G84) (g83 : G83) (F : Nat) (s : ShVal sh144_9) (kx : ShVal sh144_9 → Option R144) : Option R144 := iter (fun s k => st144_9 g81 g84 g83 F s k kx) F s
abbrev ls144_9 (g81 : G81) (g84 : G84) (g83 : G83) (F : Nat) : LS R144 := ⟨sh144_9, 2, ru144_9 g81 g84 g83 F⟩
def fn144 (g81 : G81) (g84 : G84) (g83 : G83) (F : Nat) (x : Args [.v (.slice 34 poly)]) : Option R144 :=
  match x with
  | (x0, _) => (ru144_2 g81 g84 g83 F ((x0, ()), (((0 : Int), ()), ())) (fun s' => match s' with | ((t0, _), (t3, _), _) => (bif decide ((List.length t0) ≤ 9223372036854775807) then (bif decide ((8 : Int) < (Int.ofNat (List.length t0))) then (some ((2 : Int), ())) else (ru144_9 g81 g84 g83 F ((t0, ()), (((0 : Int), ()), ())) (fun s' => match s' with | ((t0, _), (t4, _), _) => (some ((0 : Int), ()))))) else none)))
theorem ev144_2 (g81 : G81) (g84 : G84) (g83 : G83) (F : Nat) (s : ShVal sh144_2) (k kx : ShVal sh144_2 → Option R144) : evL TT (ct144 g81 g84 g83 ) kp144 [] (loopOf Tryz.f144 2) (envOf sh144_2 s) (fitK sh144_2 k) (fun j e => bif Nat.beq j 0 then fitK sh144_2 kx e else none) kr144 = st144_2 g81 g84 g83 F s k kx := by
  obtain ⟨⟨t0, _⟩, ⟨t3, _⟩, _⟩ := s
  kernel_rfl
theorem ok144_2 (g81 : G81) (g84 : G84) (g83 : G83) (F : Nat) (hK : KOK Tryz.prog (ct144 g81 g84 g83 )) : LSOK Tryz.prog ⟨64, false, undef⟩ (ls144_2 g81 g84 g83 F) (loopOf Tryz.f144 2) kr144 :=
  loop_ok (st144_2 g81 g84 g83 F) mixed tt_ok hK (by kernel_rfl) (LTOK_by (l := []) (by kernel_rfl) trivial) (ev144_2 g81 g84 g83 F)
theorem ev144_9 (g81 : G81) (g84 : G84) (g83 : G83) (F : Nat) (s : ShVal sh144_9) (k kx : ShVal sh144_9 → Option R144) : evL TT (ct144 g81 g84 g83 ) kp144 [] (loopOf Tryz.f144 9) (envOf sh144_9 s) (fitK sh144_9 k) (fun j e => bif Nat.beq j 2 then fitK sh144_9 kx e else none) kr144 = st144_9 g81 g84 g83 F s k kx := by
  obtain ⟨⟨t0, _⟩, ⟨t4, _⟩, _⟩ := s
  kernel_rfl
theorem ok144_9 (g81 : G81) (g84 : G84) (g83 : G83) (F : Nat) (hK : KOK Tryz.prog (ct144 g81 g84 g83 )) : LSOK Tryz.prog ⟨64, false, undef⟩ (ls144_9 g81 g84 g83 F) (loopOf Tryz.f144 9) kr144 :=
  loop_ok (st144_9 g81 g84 g83 F) mixed tt_ok hK (by kernel_rfl) (LTOK_by (l := []) (by kernel_rfl) trivial) (ev144_9 g81 g84 g83 F)
theorem ev144 (g81 : G81) (g84 : G84) (g83 : G83) (F : Nat) (x : Args [.v (.slice 34 poly)]) : fnK TT (ct144 g81 g84 g83 ) kp144 [i64] [(2, ls144_2 g81 g84 g83 F), (9, ls144_9 g81 g84 g83 F)] (bodyOf Tryz.f144) [.tmp 2] [.v (.slice 34 poly)] false false x = fn144 g81 g84 g83 F x := by
  obtain ⟨x0, _⟩ := x
  kernel_rfl
theorem ok144 (g81 : G81) (g84 : G84) (g83 : G83) (hK : KOK Tryz.prog (ct144 g81 g84 g83 )) (cf : G144) (h : ∀ x y, cf x = some y → ∃ F, fn144 g81 g84 g83 F x = some y) : KOne Tryz.prog 144 ⟨[.v (.slice 34 poly)], [i64], false, false, 0, cf⟩ :=
  fn_one rfl (c := bodyOf Tryz.f144) mixed tt_ok hK Tryz.func144 (by kernel_rfl) (by kernel_rfl) (Nat.le_of_ble_eq_true (by kernel_rfl)) (by decide) fun x y hxy => by
    obtain ⟨F, hF⟩ := h x y hxy
    exact ⟨[(2, ls144_2 g81 g84 g83 F), (9, ls144_9 g81 g84 g83 F)], LTOK_by (l := [loopOf Tryz.f144 2, loopOf Tryz.f144 9]) (by kernel_rfl) ⟨ls_at (by kernel_rfl) (ok144_2 g81 g84 g83 F hK), ⟨ls_at (by kernel_rfl) (ok144_9 g81 g84 g83 F hK), trivial⟩⟩, (ev144 g81 g84 g83 F x).trans hF⟩
abbrev R82 : Type := Ress [i64]
abbrev G82 : Type := Args [.v (.slice 34 poly), .v i64] → Option R82
abbrev kp82 : List (Nat × List Nat) := [(0, [0, 1]), (1, [0, 1, 5]), (2, [19, 5]), (3, [5]), (4, [4])]
abbrev ct82 (g144 : G144) (g131 : G131) : CTab := [(144, ⟨[.v (.slice 34 poly)], [i64], false, false, 0, g144⟩), (131, ⟨[.v i64, .v i64, .v i64], [.bool], false, false, 0, g131⟩)]
def fn82 (g144 : G144) (g131 : G131) (F : Nat) (x : Args [.v (.slice 34 poly), .v i64]) : Option R82 :=
  match x with
  | (x0, x1, _) => (match (g144 (x0, ())) with | some r6 => (bif decide (r6.1 = (0 : Int)) then (bif decide ((List.length x0) ≤ 9223372036854775807) then (bif decide ((Int.ofNat (List.length x0)) = (0 : Int)) then (bif (bif true then true else false) then (some ((2 : Int), ())) else (some (r6.1, ()))) else (match (g131 (x1, ((0 : Int), ((12 : Int), ())))) with | some r8 => (bif (bif true then (bif false then true else (!r8.1)) else false) then (some ((2 : Int), ())) else (some (r6.1, ()))) | none => none)) else none) else (some (r6.1, ()))) | none => none)
theorem ev82 (g144 : G144) (g131 : G131) (F : Nat) (x : Args [.v (.slice 34 poly), .v i64]) : fnK TT (ct82 g144 g131 ) kp82 [i64] [] (bodyOf Tryz.f82) [.tmp 4] [.v (.slice 34 poly), .v i64] false false x = fn82 g144 g131 F x := by
  obtain ⟨x0, x1, _⟩ := x
  kernel_rfl
theorem ok82 (g144 : G144) (g131 : G131) (hK : KOK Tryz.prog (ct82 g144 g131 )) (cf : G82) (h : ∀ x y, cf x = some y → ∃ F, fn82 g144 g131 F x = some y) : KOne Tryz.prog 82 ⟨[.v (.slice 34 poly), .v i64], [i64], false, false, 0, cf⟩ :=
  fn_one rfl (c := bodyOf Tryz.f82) mixed tt_ok hK Tryz.func82 (by kernel_rfl) (by kernel_rfl) (Nat.le_of_ble_eq_true (by kernel_rfl)) (by decide) fun x y hxy => by
    obtain ⟨F, hF⟩ := h x y hxy
    exact ⟨[], LTOK_by (l := []) (by kernel_rfl) trivial, (ev82 g144 g131 F x).trans hF⟩
def expsB (d : Int) (e : ex.den) : Bool := ((decide (2 ≤ d) || decide (x1 e = 0)) && (decide (3 ≤ d) || decide (x2 e = 0))) && decide (degX e ≤ 12)
theorem e143_1 (a b c : Int) (g : G158) : fn156 g 6 ((1 : Int), (a, b, c, ()), ()) = bif !decide (b = 0) then some (false, ()) else (bif !decide (c = 0) then some (false, ()) else (match g ((a, b, c, ()), ()) with | some r8 => (some (decide (r8.1 ≤ (12 : Int)), ())) | none => none)) := by kernel_rfl
theorem e143_2 (a b c : Int) (g : G158) : fn156 g 6 ((2 : Int), (a, b, c, ()), ()) = (bif !decide (c = 0) then some (false, ()) else (match g ((a, b, c, ()), ()) with | some r8 => (some (decide (r8.1 ≤ (12 : Int)), ())) | none => none)) := by kernel_rfl
theorem e143_3 (a b c : Int) (g : G158) : fn156 g 6 ((3 : Int), (a, b, c, ()), ()) = (match g ((a, b, c, ()), ()) with | some r8 => (some (decide (r8.1 ≤ (12 : Int)), ())) | none => none) := by kernel_rfl
theorem g143 {d : Int} {e : ex.den} (hd : 1 ≤ d ∧ d ≤ 3) (he : okX e) : cf143 (d, e, ()) = some (expsB d e, ()) := by
  obtain ⟨a, b, c, u⟩ := e
  have g : cf158 ((a, b, c, ()), ()) = some (degX (a, b, c, ()), ()) := if_pos he
  rcases (show d = 1 ∨ d = 2 ∨ d = 3 by omega) with rfl | rfl | rfl
  · refine (e143_1 a b c cf158).trans ?_
    rw [g]
    by_cases q1 : b = 0
    · by_cases q2 : c = 0
      · simp [expsB, q1, q2]
      · simp [expsB, q1, q2]
    · simp [expsB, q1]
  · refine (e143_2 a b c cf158).trans ?_
    rw [g]
    by_cases q2 : c = 0
    · simp [expsB, q2]
    · simp [expsB, q2]
  · refine (e143_3 a b c cf158).trans ?_
    rw [g]
    simp [expsB]
def inV (p : Int) (t : term.den) : Bool := decide (1 ≤ nT t) && decide (nT t ≤ p - 1)
def ordB (q : Option ex.den) (e : ex.den) : Bool := match q with | none => true | some e' => decide (keyX e' < keyX e)
def vT (p d : Int) : Option ex.den → List term.den → Bool
  | _, [] => true
  | q, t :: r => ((expsB d t.1 && inV p t) && ordB q t.1) && vT p d (some t.1) r
def vP (x : Po) : Bool := (isP x.1 && (decide ((1 : Int) ≤ x.2.1) && decide (x.2.1 ≤ (3 : Int)))) && vT x.1 x.2.1 none (tms x)
def Ahead (pre : List term.den) (q : Option ex.den) : Prop := (pre = [] ∧ q = none) ∨ ∃ pre' s, pre = pre' ++ [s] ∧ q = some s.1
theorem run119 {p d : Int} (hp : 2 ≤ p ∧ p ≤ 13) (hd : 1 ≤ d ∧ d ≤ 3) {F0 : Nat} : ∀ (r pre : List term.den) (q : Option ex.den) (F : Nat), Ahead pre q → r.length < F → (pre ++ r).length ≤ 2000000 → (∀ t ∈ pre ++ r, okX t.1) →
    iter (fun s k => st81_4 cf82 cf73 cf143 cf147 F0 s k (fun s' => match s' with | ((t1_0, t1_1, t1_2, _), (t3, _), _) => (some (true, ())))) F ((p, d, pre ++ r, ()), (((pre.length : Int), ()), ())) = some (vT p d q r, ())
  | [], pre, q, F, hq, hF, hl, ho => by
    obtain ⟨F, rfl⟩ : ∃ f, F = f + 1 := ⟨F - 1, by simp at hF; omega⟩
    rw [List.append_nil] at hl ⊢
    simp only [iter, st81_4]
    simp (disch := omega) only [dln_t, cond_true, ofn, dlt_f, cond_false]
    rfl
  | t :: r, pre, q, F, hq, hF, hl, ho => by
    obtain ⟨F, rfl⟩ : ∃ f, F = f + 1 := ⟨F - 1, by simp at hF; omega⟩
    have l1 : pre.length < (pre ++ t :: r).length := by simp
    have g1 : ∀ dd, (pre ++ t :: r).getD pre.length dd = t := fun dd => by rw [List.getD_eq_getElem?_getD, List.getElem?_append_right (Nat.le_refl _)]; simp
    have ot := ho t (by simp)
    have g := g143 (d := d) hd ot
    have g2 : cf73 (nT t, (1 : Int), p - 1, ()) = some (inV p t, ()) := rfl
    have hw : w6 (p - 1) = p - 1 := w6_id (by omega) (by omega)
    have ih := run119 hp hd (F0 := F0) r (pre ++ [t]) (some t.1) F (.inr ⟨pre, t, rfl, rfl⟩) (by simp at hF; omega) (by simpa using hl) (by simpa using ho)
    simp only [List.append_assoc, List.singleton_append, List.length_append, List.length_singleton] at ih
    simp only [iter, st81_4]
    simp (disch := omega) only [dln_t, cond_true, ofn, dlt_t, ib_t, tn_cast, w6_id (x := (pre.length : Int) + 1), hw]
    show (match cf143 (d, ((pre ++ t :: r).getD pre.length (Ty.dflt term)).1, ()) with | some r17 => _ | none => none) = _
    rw [g1, g]
    simp only [vT]
    cases h1 : expsB d t.1 with
    | false => rfl
    | true =>
      simp only [Bool.not_true, cond_false, Bool.true_and]
      show (bif !(inV p t) then _ else _) = _
      cases h2 : inV p t with
      | false => rfl
      | true =>
        simp only [Bool.not_true, cond_false, Bool.true_and]
        rcases hq with ⟨rfl, rfl⟩ | ⟨pre', s, rfl, rfl⟩
        · show (bif decide ((0 : Int) < ((([] : List term.den).length : Nat) : Int)) then _ else _) = _
          rw [dlt_f (by simp)]
          simp only [cond_false, ordB, Bool.true_and]
          exact ih
        · have hlen : (pre' ++ [s]).length = pre'.length + 1 := by simp
          have g0 : ∀ dd, (pre' ++ [s] ++ t :: r).getD pre'.length dd = s := fun dd => by rw [List.append_assoc, List.getD_eq_getElem?_getD, List.getElem?_append_right (Nat.le_refl _)]; simp
          have os := ho s (by simp)
          have g3 : cf147 (s.1, t.1, ()) = some (decide (keyX s.1 < keyX t.1), ()) := if_pos ⟨os, ot⟩
          have hwm : w6 (((pre' ++ [s]).length : Int) - 1) = (pre'.length : Int) := by rw [hlen]; exact (w6_id (by omega) (by simp at hl; omega)).trans (by omega)
          rw [dlt_t (by rw [hlen]; omega), cond_true, hwm, ib_t (by omega) (by simp at hl ⊢; omega), cond_true]
          show (match cf147 (((pre' ++ [s] ++ t :: r).getD pre'.length (Ty.dflt term)).1, t.1, ()) with | some r19 => _ | none => none) = _
          rw [g0, g3]
          simp only [ordB]
          cases h3 : decide (keyX s.1 < keyX t.1) with
          | false => rfl
          | true =>
            simp only [Bool.not_true, cond_false, cond_true, Bool.true_and]
            exact ih
open Classical in
noncomputable def cf119 : G81 := fun x => if okTs2 (tms x.1) then some (vP x.1, ()) else none
where okTs2 (l : List term.den) : Prop := l.length ≤ 2000000 ∧ ∀ t ∈ l, okX t.1
theorem k119 : KOne Tryz.prog 81 ⟨[.v poly], [.bool], false, false, 0, cf119⟩ := ok81 _ _ _ _ (.cons k82 (.cons k73 (.cons k143 (.cons k147 .nil)))) cf119 fun x y h => by
  obtain ⟨⟨p, d, l, u⟩, _⟩ := x
  change List term.den at l
  change Int at p
  change Int at d
  simp only [cf119] at h
  split at h
  · rename_i hc
    injection h with h; subst h
    obtain ⟨h1, h2⟩ := hc
    have h1 : l.length ≤ 2000000 := h1
    refine ⟨l.length + 1, ?_⟩
    simp only [fn81]
    rw [show cf82 (p, ()) = some (isP p, ()) from rfl, show cf73 (d, (1 : Int), (3 : Int), ()) = some (decide (1 ≤ d) && decide (d ≤ 3), ()) from rfl]
    show _ = some ((isP p && (decide (1 ≤ d) && decide (d ≤ 3))) && vT p d none l, ())
    cases hP : isP p with
    | false => rfl
    | true =>
      have hp : 2 ≤ p ∧ p ≤ 13 := by simp only [isP, Bool.or_eq_true, decide_eq_true_eq] at hP; omega
      cases hd : (decide (1 ≤ d) && decide (d ≤ 3)) with
      | false => rfl
      | true =>
        have hd' := hd
        simp only [Bool.and_eq_true, decide_eq_true_eq] at hd'
        simp only [Bool.not_true, cond_false, Bool.true_and, ru81_4]
        exact run119 hp hd' l [] none (l.length + 1) (.inl ⟨rfl, rfl⟩) (by omega) h1 h2
  · cases h
theorem in160 {F0 F : Nat} {p d : Int} {tt : List term.den} {a b c v : Int} {l : List term.den} {n i : Int} {kx : ShVal sh91_9 → Option R91} (hd : 1 ≤ d ∧ d ≤ 3) :
    iter (fun s k => st91_9 cf82 cf87 cf151 cf159 F0 s k kx) (F + 4) ((p, d, tt, ()), (((a, b, c, ()), v, ()), ((d, ()), ((l, ()), ((n, ()), ((i, ()), ())))))) =
    bif (decide (2 ≤ d) || decide (b = 0)) && (decide (3 ≤ d) || decide (c = 0)) then kx ((p, d, tt, ()), (((a, b, c, ()), v, ()), (((3 : Int), ()), ((l, ()), ((n, ()), ((i, ()), ())))))) else some (false, ()) := by
  have e1 : ∀ d0 : Int, iter (fun s k => st91_9 cf82 cf87 cf151 cf159 F0 s k kx) (F + 4) ((p, d0, tt, ()), (((a, b, c, ()), v, ()), (((1 : Int), ()), ((l, ()), ((n, ()), ((i, ()), ())))))) = bif !decide (b = 0) then some (false, ()) else (bif !decide (c = 0) then some (false, ()) else kx ((p, d0, tt, ()), (((a, b, c, ()), v, ()), (((3 : Int), ()), ((l, ()), ((n, ()), ((i, ()), ()))))))) := fun d0 => by kernel_rfl
  have e2 : ∀ d0 : Int, iter (fun s k => st91_9 cf82 cf87 cf151 cf159 F0 s k kx) (F + 4) ((p, d0, tt, ()), (((a, b, c, ()), v, ()), (((2 : Int), ()), ((l, ()), ((n, ()), ((i, ()), ())))))) = (bif !decide (c = 0) then some (false, ()) else kx ((p, d0, tt, ()), (((a, b, c, ()), v, ()), (((3 : Int), ()), ((l, ()), ((n, ()), ((i, ()), ()))))))) := fun d0 => by kernel_rfl
  have e3 : ∀ d0 : Int, iter (fun s k => st91_9 cf82 cf87 cf151 cf159 F0 s k kx) (F + 4) ((p, d0, tt, ()), (((a, b, c, ()), v, ()), (((3 : Int), ()), ((l, ()), ((n, ()), ((i, ()), ())))))) = kx ((p, d0, tt, ()), (((a, b, c, ()), v, ()), (((3 : Int), ()), ((l, ()), ((n, ()), ((i, ()), ())))))) := fun d0 => by kernel_rfl
  rcases (show d = 1 ∨ d = 2 ∨ d = 3 by omega) with rfl | rfl | rfl
  · rw [e1]
    by_cases q1 : b = 0 <;> by_cases q2 : c = 0 <;> simp [q1, q2]
  · rw [e2]
    by_cases q2 : c = 0 <;> simp [q2]
  · rw [e3]; simp
theorem run160 {p d : Int} (hp : 2 ≤ p ∧ p ≤ 13) (hd : 1 ≤ d ∧ d ≤ 3) {f0 N : Nat} : ∀ (r pre : List term.den) (q : Option ex.den) (F : Nat), Ahead pre q → r.length < F → (pre ++ r).length = N → N ≤ 2000000 → (∀ t ∈ pre ++ r, okX t.1) →
    iter (fun s k => st91_4 cf82 cf87 cf151 cf159 (f0 + 4) s k (fun s' => match s' with | ((t1_0, t1_1, t1_2, _), (t17, _), (t18, _), (t19, _), _) => (some (true, ())))) F ((p, d, pre ++ r, ()), ((pre ++ r, ()), (((N : Int), ()), (((pre.length : Int), ()), ())))) = some (vT p d q r, ())
  | [], pre, q, F, hq, hF, hl, hN, ho => by
    obtain ⟨F, rfl⟩ : ∃ f, F = f + 1 := ⟨F - 1, by simp at hF; omega⟩
    rw [List.append_nil] at hl ⊢
    simp only [iter, st91_4]
    simp (disch := omega) only [dlt_f, cond_false]
    rfl
  | t :: r, pre, q, F, hq, hF, hl, hN, ho => by
    obtain ⟨F, rfl⟩ : ∃ f, F = f + 1 := ⟨F - 1, by simp at hF; omega⟩
    have l1 : pre.length < N := by rw [← hl]; simp
    have g1 : ∀ dd, (pre ++ t :: r).getD pre.length dd = t := fun dd => by rw [List.getD_eq_getElem?_getD, List.getElem?_append_right (Nat.le_refl _)]; simp
    have ot := ho t (by simp)
    have g : cf159 (t.1, ()) = some (degX t.1, ()) := if_pos ot
    have ih := run160 hp hd (f0 := f0) (N := N) r (pre ++ [t]) (some t.1) F (.inr ⟨pre, t, rfl, rfl⟩) (by simp at hF; omega) (by simpa using hl) hN (by simpa using ho)
    simp only [List.append_assoc, List.singleton_append, List.length_append, List.length_singleton] at ih
    have inner : ∀ kx : ShVal sh91_9 → Option R91, iter (fun s k => st91_9 cf82 cf87 cf151 cf159 (f0 + 4) s k kx) (f0 + 4) ((p, d, pre ++ t :: r, ()), ((t.1, t.2.1, ()), ((d, ()), ((pre ++ t :: r, ()), (((N : Int), ()), (((pre.length : Int), ()), ())))))) =
        bif (decide (2 ≤ d) || decide (x1 t.1 = 0)) && (decide (3 ≤ d) || decide (x2 t.1 = 0)) then kx ((p, d, pre ++ t :: r, ()), ((t.1, t.2.1, ()), (((3 : Int), ()), ((pre ++ t :: r, ()), (((N : Int), ()), (((pre.length : Int), ()), ())))))) else some (false, ()) := fun kx => in160 hd
    have hw : w6 ((pre.length : Int) + 1) = (pre.length : Int) + 1 := w6_id (by omega) (by omega)
    simp only [iter, st91_4]
    simp (disch := omega) only [ofn, tn_cast, g1, dlt_t, ib_t, hl, cond_true]
    show (match cf159 (t.1, ()) with | some r19 => _ | none => none) = _
    rw [g]
    show (bif decide ((12 : Int) < degX t.1) then _ else _) = _
    simp only [vT]
    by_cases c1 : (12 : Int) < degX t.1
    · rw [dlt_t c1]
      have : expsB d t.1 = false := by unfold expsB; rw [decide_eq_false (by omega : ¬ degX t.1 ≤ 12), Bool.and_false]
      rw [this]; rfl
    · rw [dlt_f (by omega), cond_false]
      show (bif (bif false then true else decide (nT t < 1)) then _ else _) = _
      by_cases c2 : nT t < 1
      · rw [dlt_t c2]
        have : inV p t = false := by unfold inV; rw [decide_eq_false (by omega : ¬ 1 ≤ nT t), Bool.false_and]
        rw [this, Bool.and_false]; rfl
      · rw [dlt_f (by omega)]
        show (bif (bif false then true else decide (p ≤ nT t)) then _ else _) = _
        by_cases c3 : p ≤ nT t
        · rw [dle_t c3]
          have : inV p t = false := by unfold inV; rw [decide_eq_false (by omega : ¬ nT t ≤ p - 1), Bool.and_false]
          rw [this, Bool.and_false]; rfl
        · rw [dle_f (by omega)]
          have hv : inV p t = true := by unfold inV; rw [decide_eq_true (by omega : 1 ≤ nT t), decide_eq_true (by omega : nT t ≤ p - 1)]; rfl
          have he : expsB d t.1 = ((decide (2 ≤ d) || decide (x1 t.1 = 0)) && (decide (3 ≤ d) || decide (x2 t.1 = 0))) := by unfold expsB; rw [decide_eq_true (by omega : degX t.1 ≤ 12), Bool.and_true]
          rw [hv, Bool.and_true, he]
          simp only [cond_false]
          rcases hq with ⟨rfl, rfl⟩ | ⟨pre', s, rfl, rfl⟩
          · show (bif decide ((0 : Int) < ((([] : List term.den).length : Nat) : Int)) then _ else _) = _
            rw [dlt_f (by simp)]
            simp only [cond_false, ordB, Bool.and_true]
            refine (inner _).trans ?_
            cases ((decide (2 ≤ d) || decide (x1 t.1 = 0)) && (decide (3 ≤ d) || decide (x2 t.1 = 0))) with
            | false => rfl
            | true =>
              simp only [cond_true, Bool.true_and]
              exact ih
          · have hlen : (pre' ++ [s]).length = pre'.length + 1 := by simp
            have g0 : ∀ dd, (pre' ++ [s] ++ t :: r).getD pre'.length dd = s := fun dd => by rw [List.append_assoc, List.getD_eq_getElem?_getD, List.getElem?_append_right (Nat.le_refl _)]; simp
            have os := ho s (by simp)
            have g3 : cf151 (s.1, t.1, ()) = some (cmpX s.1 t.1, ()) := if_pos ⟨os, ot⟩
            have hk := cmpX_key os ot
            have hwm : w6 (((pre' ++ [s]).length : Int) - 1) = (pre'.length : Int) := by rw [hlen]; exact (w6_id (by omega) (by simp at hl; omega)).trans (by omega)
            rw [dlt_t (by rw [hlen]; omega), cond_true, hwm]
            rw [ib_t (by omega) (by rw [hlen] at l1; omega), cond_true]
            show (match cf151 (((pre' ++ [s] ++ t :: r).getD pre'.length (Ty.dflt term)).1, t.1, ()) with | some r20 => _ | none => none) = _
            rw [g0, g3]
            simp only [ordB]
            by_cases c4 : keyX s.1 < keyX t.1
            · rw [decide_eq_true c4, Bool.and_true]
              show (bif (bif false then true else (bif true then decide ((0 : Int) ≤ cmpX s.1 t.1) else false)) then _ else _) = _
              rw [dle_f (hk.2 c4)]
              simp only [cond_false, cond_true]
              refine (inner _).trans ?_
              cases ((decide (2 ≤ d) || decide (x1 t.1 = 0)) && (decide (3 ≤ d) || decide (x2 t.1 = 0))) with
              | false => rfl
              | true =>
                simp only [cond_true, Bool.true_and, hw]
                exact ih
            · rw [decide_eq_false c4, Bool.and_false, Bool.false_and]
              show (bif (bif false then true else (bif true then decide ((0 : Int) ≤ cmpX s.1 t.1) else false)) then _ else _) = _
              have : ¬ cmpX s.1 t.1 < 0 := fun q => c4 (hk.1 q)
              rw [dle_t (by omega)]; rfl
abbrev okT2 (l : List term.den) : Prop := cf119.okTs2 l
open Classical in
noncomputable def cf160 : G91 := fun x => if okT2 (tms x.1) then some (vP x.1, ()) else none
theorem k160 : KOne Tryz.prog 91 ⟨[.v poly], [.bool], false, false, 0, cf160⟩ := ok91 _ _ _ _ (.cons k86 (.cons k87 (.cons k151 (.cons k159 .nil)))) cf160 fun x y h => by
  obtain ⟨⟨p, d, l, u⟩, _⟩ := x
  change List term.den at l
  change Int at p
  change Int at d
  simp only [cf160] at h
  split at h
  · rename_i hc
    injection h with h; subst h
    obtain ⟨h1, h2⟩ := hc
    have h1 : l.length ≤ 2000000 := h1
    refine ⟨l.length + 4, ?_⟩
    simp only [fn91]
    rw [show cf82 (p, ()) = some (isP p, ()) from rfl, show cf87 (d, ()) = some (decide (1 ≤ d) && decide (d ≤ 3), ()) from rfl]
    show _ = some ((isP p && (decide (1 ≤ d) && decide (d ≤ 3))) && vT p d none l, ())
    cases hP : isP p with
    | false => rfl
    | true =>
      have hp : 2 ≤ p ∧ p ≤ 13 := by simp only [isP, Bool.or_eq_true, decide_eq_true_eq] at hP; omega
      cases hd : (decide (1 ≤ d) && decide (d ≤ 3)) with
      | false => rfl
      | true =>
        have hd' := hd
        simp only [Bool.and_eq_true, decide_eq_true_eq] at hd'
        simp only [Bool.not_true, cond_false, Bool.true_and, ru91_4]
        rw [dln_t (by omega), cond_true]
        exact run160 hp hd' (f0 := l.length) (N := l.length) l [] none (l.length + 4) (.inl ⟨rfl, rfl⟩) (by omega) rfl h1 h2
  · cases h
theorem vT_can {p d : Int} : ∀ {ts : List term.den} {q : Option ex.den}, (∀ t ∈ ts, okX t.1) → vT p d q ts = true → CanT p ts ∧ DegLe 12 ts ∧ ∀ e, q = some e → ∀ t ∈ ts, keyX e < keyT3 t
  | [], q, _, _ => ⟨can_nil, fun t h => (by cases h), fun e _ t h => (by cases h)⟩
  | t :: r, q, ho, h => by
    simp only [vT, Bool.and_eq_true] at h
    obtain ⟨⟨⟨h1, h2⟩, h3⟩, h4⟩ := h
    obtain ⟨c1, c2, c3⟩ := vT_can (fun s hs => ho s (.tail _ hs)) h4
    simp only [inV, Bool.and_eq_true, decide_eq_true_eq] at h2
    have hdeg : degX t.1 ≤ 12 := by unfold expsB at h1; simp only [Bool.and_eq_true, decide_eq_true_eq] at h1; exact h1.2
    have c3 := c3 t.1 rfl
    refine ⟨⟨List.pairwise_cons.2 ⟨fun s hs => c3 s hs, c1.srt⟩, fun s hs => ?_⟩, fun s hs => ?_, fun e he s hs => ?_⟩
    · rcases List.mem_cons.1 hs with rfl | hs
      · exact ⟨ho s (.head _), by show (0 : Int) < nT s; omega, by show nT s < p; omega⟩
      · exact c1.ok s hs
    · rcases List.mem_cons.1 hs with rfl | hs
      · exact hdeg
      · exact c2 s hs
    · subst he
      simp only [ordB, decide_eq_true_eq] at h3
      rcases List.mem_cons.1 hs with rfl | hs
      · exact h3
      · have := c3 s hs; show keyX e < keyT3 s; omega
theorem vP_can {x : Po} (ho : okT2 (tms x)) (h : vP x = true) : isP x.1 = true ∧ ((1 : Int) ≤ x.2.1 ∧ x.2.1 ≤ (3 : Int)) ∧ CanT x.1 (tms x) ∧ DegLe 12 (tms x) := by
  simp only [vP, Bool.and_eq_true, decide_eq_true_eq] at h
  obtain ⟨c1, c2, _⟩ := vT_can ho.2 h.2
  exact ⟨h.1.1, h.1.2, c1, c2⟩
theorem all_orG {α : Type} (f : α → Bool) (d : α) : ∀ l : List α, l.all f = true ∨ (l.all f = false ∧ ∃ n, n < l.length ∧ f (l.getD n d) = false ∧ ∀ i, i < n → f (l.getD i d) = true)
  | [] => .inl rfl
  | x :: r => by
    cases hx : f x with
    | false => exact .inr ⟨by simp [hx], 0, by simp, by simpa using hx, fun i hi => by omega⟩
    | true =>
      rcases all_orG f d r with h | ⟨h, n, h1, h2, h3⟩
      · exact .inl (by simp [hx]; simpa using h)
      · refine .inr ⟨by rw [List.all_cons, hx, h]; rfl, n + 1, by simpa using h1, by simpa using h2, fun i hi => ?_⟩
        cases i with
        | zero => simpa using hx
        | succ i => have := h3 i (by omega); simpa using this
theorem all_atG {α : Type} {f : α → Bool} {d : α} {l : List α} (h : l.all f = true) {i : Nat} (hi : i < l.length) : f (l.getD i d) = true := by
  rw [List.getD_eq_getElem?_getD, List.getElem?_eq_getElem hi]
  exact List.all_eq_true.1 h _ (List.getElem_mem hi)
theorem memG {α : Type} {d : α} {l : List α} {i : Nat} (hi : i < l.length) : l.getD i d ∈ l := by
  rw [List.getD_eq_getElem?_getD, List.getElem?_eq_getElem hi]; exact List.getElem_mem hi
abbrev DPo : Po := Ty.dflt poly
def smallV (L : List Po) : Prop := L.length ≤ 2000000 ∧ ∀ x ∈ L, okT2 (tms x)
open Classical in
noncomputable def cf122 : G169 := fun x => if smallV x.1 then some ((show List Po from x.1).all vP, ()) else none
theorem k122 : KOne Tryz.prog 169 ⟨[.v (.slice 34 poly)], [.bool], false, false, 0, cf122⟩ := ok169 _ (.cons k160 .nil) cf122 fun x y h => by
  obtain ⟨L, _⟩ := x
  change List Po at L
  simp only [cf122] at h
  split at h
  · rename_i hc
    injection h with h; subst h
    obtain ⟨h1, h2⟩ := hc
    have h1 : L.length ≤ 2000000 := h1
    have h2 : ∀ x ∈ L, okT2 (tms x) := h2
    refine ⟨L.length + 1, ?_⟩
    simp only [fn169]
    rw [dln_t (by omega)]
    simp only [cond_true, ofn, ru169_2]
    have g : ∀ i, i < L.length → cf160 (L.getD i DPo, ()) = some (vP (L.getD i DPo), ()) := fun i hi => if_pos (h2 _ (memG hi))
    rcases all_orG vP DPo L with hq | ⟨hq, n, q1, q2, q3⟩
    · rw [hq]
      refine iter_run L.length _ (fun i => ((L, ()), (((L.length : Int), ()), (((i : Int), ()), ())))) (by omega) (fun i hi k => ?_) (fun k => ?_)
      · simp (disch := omega) only [st169_2, ofn, cond_true, dlt_t, ib_t, tn_cast, w6_id]
        show (match cf160 (L.getD i DPo, ()) with | some r10 => _ | none => none) = _
        rw [g i hi, all_atG hq hi]; rfl
      · simp (disch := omega) only [st169_2, ofn, dlt_f, cond_false]
    · rw [hq]
      refine iter_run n _ (fun i => ((L, ()), (((L.length : Int), ()), (((i : Int), ()), ())))) (by omega) (fun i hi k => ?_) (fun k => ?_)
      · simp (disch := omega) only [st169_2, ofn, cond_true, dlt_t, ib_t, tn_cast, w6_id]
        show (match cf160 (L.getD i DPo, ()) with | some r10 => _ | none => none) = _
        rw [g i (by omega), q3 i hi]; rfl
      · simp (disch := omega) only [st169_2, ofn, cond_true, dlt_t, ib_t, tn_cast]
        show (match cf160 (L.getD n DPo, ()) with | some r10 => _ | none => none) = _
        rw [g n q1, q2]; rfl
  · cases h
def evB (ts : List term.den) : Bool := match ts with | [] => true | t :: _ => decide (degX t.1 = degI ts)
theorem ok_of {x : Po} (ho : okT2 (tms x)) (h : vP x = true) : okTs (tms x) := by
  obtain ⟨_, _, c1, c2⟩ := vP_can ho h
  exact okTs_of c1 c2 (by omega)
open Classical in
noncomputable def cf167 : G83 := fun x => if okTs (tms x.1) then some (evB (tms x.1), ()) else none
theorem k167 : KOne Tryz.prog 83 ⟨[.v poly], [.bool], false, false, 0, cf167⟩ := ok83 _ _ (.cons k158 (.cons k115 .nil)) cf167 fun x y h => by
  obtain ⟨⟨p, d, l, u⟩, _⟩ := x
  change List term.den at l
  simp only [cf167] at h
  split at h
  · rename_i hc
    injection h with h; subst h
    have hc : okTs l := hc
    have hl := hc.1
    refine ⟨0, ?_⟩
    simp only [fn83]
    rw [dln_t (by omega), cond_true]
    cases l with
    | nil => rfl
    | cons t r =>
      have g : cf158 (t.1, ()) = some (degX t.1, ()) := if_pos (hc.2 t (.head _))
      have g2 := g115_ok (p := p) (v := d) hc
      simp only [ofn]
      rw [deq_f (by simp only [List.length_cons]; omega), cond_false, ib_t (by omega) (by simp only [List.length_cons]; omega), cond_true]
      show (match cf158 (t.1, ()) with | some r5 => _ | none => none) = _
      rw [g]
      show (match cf115 ((p, d, t :: r, ()), ()) with | some r6 => _ | none => none) = _
      rw [g2]; rfl
  · cases h
def cf182 : G171 := fun x => if (show List term.den from x.1.2.2.1).length ≤ 9223372036854775807 then some (decide (((show List term.den from x.1.2.2.1).length : Int) = 0), ()) else none
theorem k182 : KOne Tryz.prog 171 ⟨[.v poly], [.bool], false, false, 0, cf182⟩ := ok171 .nil cf182 fun x y h => by
  obtain ⟨⟨p, d, l, u⟩, _⟩ := x
  change List term.den at l
  simp only [cf182] at h
  split at h
  · rename_i hc
    injection h with h; subst h
    refine ⟨0, ?_⟩
    have hc : l.length ≤ 9223372036854775807 := hc
    simp only [fn171]
    rw [dln_t hc, cond_true]; rfl
  · cases h
open Classical in
noncomputable def cf169 : G93 := fun x => if okTs (tms x.1) then some (evB (tms x.1), ()) else none
theorem k169 : KOne Tryz.prog 93 ⟨[.v poly], [.bool], false, false, 0, cf169⟩ := ok93 _ _ _ (.cons k182 (.cons k159 (.cons k117 .nil))) cf169 fun x y h => by
  obtain ⟨⟨p, d, l, u⟩, _⟩ := x
  change List term.den at l
  simp only [cf169] at h
  split at h
  · rename_i hc
    injection h with h; subst h
    have hc : okTs l := hc
    have hl := hc.1
    have g0 : cf182 ((p, d, l, ()), ()) = some (decide ((l.length : Int) = 0), ()) := if_pos (by show l.length ≤ _; omega)
    refine ⟨0, ?_⟩
    simp only [fn93]
    show (match cf182 ((p, d, l, ()), ()) with | some r6 => _ | none => none) = _
    rw [g0]
    cases l with
    | nil => rfl
    | cons t r =>
      have g : cf159 (t.1, ()) = some (degX t.1, ()) := if_pos (hc.2 t (.head _))
      have g2 := g117_ok (p := p) (v := d) hc
      show (bif decide ((((t :: r).length : Nat) : Int) = 0) then _ else _) = _
      rw [deq_f (by simp only [List.length_cons]; omega), cond_false]
      show (bif ib (0 : Int) (((t :: r).length : Nat) : Int) then _ else _) = _
      rw [ib_t (by omega) (by simp only [List.length_cons]; omega), cond_true]
      show (match cf159 (t.1, ()) with | some r7 => _ | none => none) = _
      rw [g]
      show (match cf117 ((p, d, t :: r, ()), ()) with | some r8 => _ | none => none) = _
      rw [g2]; rfl
  · cases h
def cf123 : G94 := fn94 0
theorem k123 : KOne Tryz.prog 94 ⟨[.v poly, .v poly], [.bool], false, false, 0, cf123⟩ := ok94 .nil cf123 fun x y h => ⟨0, h⟩
def alB (x0 x : Po) : Bool := decide ((show Int from x.1) = x0.1) && decide ((show Int from x.2.1) = x0.2.1)
def gd (x0 x : Po) : Bool := (alB x0 x && !(decide (degI (tms x) < 1))) && evB (tms x)
def lcA (L : List Po) : Int := bif L.all vP then (bif decide ((8 : Int) < L.length) then 2 else (bif L.all (gd (L.getD 0 DPo)) then 0 else 2)) else 1
theorem step135 {L : List Po} (hs : smallV L) (hv : L.all vP = true) {F0 i : Nat} (hi : i < L.length) (k kx : ShVal sh144_9 → Option R144) :
    st144_9 cf119 cf115 cf167 F0 ((L, ()), (((i : Int), ()), ())) k kx = bif gd (L.getD 0 DPo) (L.getD i DPo) then k ((L, ()), ((((i + 1 : Nat) : Int), ()), ())) else some ((2 : Int), ()) := by
  have hL := hs.1
  have hx := hs.2 _ (memG (d := DPo) hi)
  have hk := ok_of hx (all_atG hv hi)
  have g1 : cf115 (L.getD i DPo, ()) = some (degI (tms (L.getD i DPo)), ()) := g115_ok (p := (L.getD i DPo).1) (v := (L.getD i DPo).2.1) hk
  have g2 : cf167 (L.getD i DPo, ()) = some (evB (tms (L.getD i DPo)), ()) := if_pos hk
  have e0 : (0 : Nat) < L.length := by omega
  simp (disch := omega) only [st144_9, dln_t, cond_true, ofn, dlt_t, ib_t, tn_cast, w6_id]
  show (bif !(decide ((show Int from (L.getD i DPo).1) = (L.getD 0 DPo).1)) then some ((2 : Int), ()) else (bif !(decide ((show Int from (L.getD i DPo).2.1) = (L.getD 0 DPo).2.1)) then some ((2 : Int), ()) else (match cf115 (L.getD i DPo, ()) with | some r14 => (bif decide (r14.1 < (1 : Int)) then some ((2 : Int), ()) else (match cf167 (L.getD i DPo, ()) with | some r15 => (bif !r15.1 then some ((2 : Int), ()) else k ((L, ()), ((((i + 1 : Nat) : Int), ()), ()))) | none => none)) | none => none))) = _
  rw [g1, g2]
  unfold gd alB
  cases decide ((show Int from (L.getD i DPo).1) = (L.getD 0 DPo).1) <;> cases decide ((show Int from (L.getD i DPo).2.1) = (L.getD 0 DPo).2.1) <;> cases evB (tms (L.getD i DPo)) <;> by_cases q : degI (tms (L.getD i DPo)) < 1 <;> simp [q]
open Classical in
noncomputable def cf135 : G144 := fun x => if smallV x.1 then some (lcA x.1, ()) else none
theorem k135 : KOne Tryz.prog 144 ⟨[.v (.slice 34 poly)], [i64], false, false, 0, cf135⟩ := ok144 _ _ _ (.cons k119 (.cons k115 (.cons k167 .nil))) cf135 fun x y h => by
  obtain ⟨L, _⟩ := x
  change List Po at L
  simp only [cf135] at h
  split at h
  · rename_i hs
    injection h with h; subst h
    have hs : smallV L := hs
    obtain ⟨h1, h2⟩ := hs
    refine ⟨L.length + 1, ?_⟩
    simp only [fn144, ru144_2]
    have g : ∀ i, i < L.length → cf119 (L.getD i DPo, ()) = some (vP (L.getD i DPo), ()) := fun i hi => if_pos (h2 _ (memG hi))
    unfold lcA
    rcases all_orG vP DPo L with hq | ⟨hq, n, q1, q2, q3⟩
    · rw [hq, cond_true]
      refine iter_run L.length _ (fun i => ((L, ()), (((i : Int), ()), ()))) (by omega) (fun i hi k => ?_) (fun k => ?_)
      · simp (disch := omega) only [st144_2, dln_t, ofn, cond_true, dlt_t, ib_t, tn_cast, w6_id]
        show (match cf119 (L.getD i DPo, ()) with | some r10 => _ | none => none) = _
        rw [g i hi, all_atG hq hi]; rfl
      · simp (disch := omega) only [st144_2, dln_t, ofn, cond_true, dlt_f, cond_false]
        by_cases c8 : (8 : Int) < L.length
        · rw [dlt_t c8]; rfl
        · rw [dlt_f (by omega)]
          simp only [cond_false, ru144_9]
          rcases all_orG (gd (L.getD 0 DPo)) DPo L with hg | ⟨hg, n, q1, q2, q3⟩
          · rw [hg]
            refine iter_run L.length _ (fun i => ((L, ()), (((i : Int), ()), ()))) (by omega) (fun i hi k => ?_) (fun k => ?_)
            · rw [step135 ⟨h1, h2⟩ hq hi, all_atG hg hi]; rfl
            · simp (disch := omega) only [st144_9, dln_t, ofn, cond_true, dlt_f, cond_false]
          · rw [hg]
            refine iter_run n _ (fun i => ((L, ()), (((i : Int), ()), ()))) (by omega) (fun i hi k => ?_) (fun k => ?_)
            · rw [step135 ⟨h1, h2⟩ hq (by omega), q3 i hi]; rfl
            · rw [step135 ⟨h1, h2⟩ hq q1, q2]; rfl
    · rw [hq, cond_false]
      refine iter_run n _ (fun i => ((L, ()), (((i : Int), ()), ()))) (by omega) (fun i hi k => ?_) (fun k => ?_)
      · simp (disch := omega) only [st144_2, dln_t, ofn, cond_true, dlt_t, ib_t, tn_cast, w6_id]
        show (match cf119 (L.getD i DPo, ()) with | some r10 => _ | none => none) = _
        rw [g i (by omega), q3 i hi]; rfl
      · simp (disch := omega) only [st144_2, dln_t, ofn, cond_true, dlt_t, ib_t, tn_cast]
        show (match cf119 (L.getD n DPo, ()) with | some r10 => _ | none => none) = _
        rw [g n q1, q2]; rfl
  · cases h
def lc (L : List Po) : Int := bif L.all vP then (bif decide ((L.length : Int) = 0) then 2 else (bif L.all (gd (L.getD 0 DPo)) && decide ((L.length : Int) ≤ 8) then 0 else 2)) else 1
noncomputable def cf64 : G82 := fn82 cf135 cf73 0
theorem k64 : KOne Tryz.prog 82 ⟨[.v (.slice 34 poly), .v i64], [i64], false, false, 0, cf64⟩ := ok82 _ _ (.cons k135 (.cons k73 .nil)) cf64 fun x y h => ⟨0, h⟩
theorem g64_ok {L : List Po} {n : Int} (hs : smallV L) (hn : 0 ≤ n ∧ n ≤ 12) : cf64 (L, n, ()) = some (lc L, ()) := by
  have g : cf135 (L, ()) = some (lcA L, ()) := if_pos hs
  have hL := hs.1
  simp only [cf64, fn82]
  rw [g, show cf73 (n, (0 : Int), (12 : Int), ()) = some (decide (0 ≤ n) && decide (n ≤ 12), ()) from rfl, decide_eq_true hn.1, decide_eq_true hn.2]
  simp only [ofn]
  rw [dln_t (show L.length ≤ 9223372036854775807 by omega)]
  unfold lcA lc
  cases hq : L.all vP with
  | false => rfl
  | true =>
    simp only [cond_true]
    by_cases c8 : (8 : Int) < L.length
    · rw [dlt_t c8, deq_f (show (L.length : Int) ≠ 0 by omega), dle_f (show (8 : Int) < (L.length : Int) by omega)]
      simp
    · rw [dlt_f (show (L.length : Int) ≤ 8 by omega), dle_t (show (L.length : Int) ≤ 8 by omega), Bool.and_true]
      simp only [cond_false]
      by_cases c0 : (L.length : Int) = 0
      · have : L = [] := List.eq_nil_of_length_eq_zero (by omega)
        subst this; rfl
      · rw [deq_f c0]
        cases hg : L.all (gd (L.getD 0 DPo)) with
        | false => rfl
        | true => rfl
theorem step137 {L : List Po} (hs : smallV L) (hv : L.all vP = true) {F0 i : Nat} (hi : i < L.length) (k kx : ShVal sh170_2 → Option R170) :
    st170_2 cf123 cf169 cf117 F0 ((L, ()), ((L, ()), (((L.length : Int), ()), (((i : Int), ()), ())))) k kx = bif gd (L.getD 0 DPo) (L.getD i DPo) then k ((L, ()), ((L, ()), (((L.length : Int), ()), ((((i + 1 : Nat) : Int), ()), ())))) else some (false, ()) := by
  have hL := hs.1
  have hx := hs.2 _ (memG (d := DPo) hi)
  have hk := ok_of hx (all_atG hv hi)
  have g1 : cf117 (L.getD i DPo, ()) = some (degI (tms (L.getD i DPo)), ()) := g117_ok (p := (L.getD i DPo).1) (v := (L.getD i DPo).2.1) hk
  have g2 : cf169 (L.getD i DPo, ()) = some (evB (tms (L.getD i DPo)), ()) := if_pos hk
  have g3 : cf123 (L.getD i DPo, L.getD 0 DPo, ()) = some (alB (L.getD 0 DPo) (L.getD i DPo), ()) := by
    unfold alB
    show (bif decide ((show Int from (L.getD i DPo).1) = (L.getD 0 DPo).1) then (some ((bif true then decide ((show Int from (L.getD i DPo).2.1) = (L.getD 0 DPo).2.1) else false), ())) else (some (false, ()))) = _
    cases decide ((show Int from (L.getD i DPo).1) = (L.getD 0 DPo).1) <;> rfl
  have e0 : (0 : Nat) < L.length := by omega
  simp (disch := omega) only [st170_2, cond_true, ofn, dlt_t, ib_t, tn_cast, w6_id]
  show (match cf123 (L.getD i DPo, L.getD 0 DPo, ()) with | some r13 => (bif !r13.1 then some (false, ()) else (match cf169 (L.getD i DPo, ()) with | some r14 => (bif !r14.1 then some (false, ()) else (match cf117 (L.getD i DPo, ()) with | some r15 => (bif decide (r15.1 < (1 : Int)) then some (false, ()) else k ((L, ()), ((L, ()), (((L.length : Int), ()), ((((i + 1 : Nat) : Int), ()), ()))))) | none => none)) | none => none)) | none => none) = _
  rw [g1, g2, g3]
  unfold gd
  cases alB (L.getD 0 DPo) (L.getD i DPo) <;> cases evB (tms (L.getD i DPo)) <;> by_cases q : degI (tms (L.getD i DPo)) < 1 <;> simp [q]
open Classical in
noncomputable def cf137 : G170 := fun x => if smallV x.1 ∧ (show List Po from x.1).all vP = true then some ((show List Po from x.1).all (gd ((show List Po from x.1).getD 0 DPo)) && decide (((show List Po from x.1).length : Int) ≤ 8), ()) else none
theorem k137 : KOne Tryz.prog 170 ⟨[.v (.slice 34 poly)], [.bool], false, false, 0, cf137⟩ := ok170 _ _ _ (.cons k123 (.cons k169 (.cons k117 .nil))) cf137 fun x y h => by
  obtain ⟨L, _⟩ := x
  change List Po at L
  simp only [cf137] at h
  split at h
  · rename_i hs
    injection h with h; subst h
    obtain ⟨hs, hq⟩ := hs
    have hs : smallV L := hs
    have hq : L.all vP = true := hq
    have h1 := hs.1
    refine ⟨L.length + 1, ?_⟩
    simp only [fn170]
    rw [dln_t (by omega)]
    simp only [cond_true, ofn, ru170_2]
    rcases all_orG (gd (L.getD 0 DPo)) DPo L with hg | ⟨hg, n, q1, q2, q3⟩
    · rw [hg, Bool.true_and]
      refine iter_run L.length _ (fun i => ((L, ()), ((L, ()), (((L.length : Int), ()), (((i : Int), ()), ()))))) (by omega) (fun i hi k => ?_) (fun k => ?_)
      · rw [step137 hs hq hi, all_atG hg hi]; rfl
      · simp (disch := omega) only [st170_2, dln_t, ofn, cond_true, dlt_f, cond_false]
    · rw [hg, Bool.false_and]
      refine iter_run n _ (fun i => ((L, ()), ((L, ()), (((L.length : Int), ()), (((i : Int), ()), ()))))) (by omega) (fun i hi k => ?_) (fun k => ?_)
      · rw [step137 hs hq (by omega), q3 i hi]; rfl
      · rw [step137 hs hq q1, q2]; rfl
  · cases h
noncomputable def cf67 : G92 := fn92 cf122 cf137 0
theorem k67 : KOne Tryz.prog 92 ⟨[.v (.slice 34 poly)], [i64], false, false, 0, cf67⟩ := ok92 _ _ (.cons k122 (.cons k137 .nil)) cf67 fun x y h => ⟨0, h⟩
theorem g67_ok {L : List Po} (hs : smallV L) : cf67 (L, ()) = some (lc L, ()) := by
  have g : cf122 (L, ()) = some (L.all vP, ()) := if_pos hs
  have hL := hs.1
  simp only [cf67, fn92]
  rw [g]
  unfold lc
  cases hq : L.all vP with
  | false => rfl
  | true =>
    have g2 : cf137 (L, ()) = some (L.all (gd (L.getD 0 DPo)) && decide ((L.length : Int) ≤ 8), ()) := if_pos ⟨hs, hq⟩
    simp only [ofn]
    rw [dln_t (show L.length ≤ 9223372036854775807 by omega), g2]
    simp only [Bool.not_true, cond_false, cond_true]
    by_cases c0 : (L.length : Int) = 0
    · rw [deq_t c0]; rfl
    · rw [deq_f c0]
      cases (L.all (gd (L.getD 0 DPo)) && decide ((L.length : Int) ≤ 8)) <;> rfl
abbrev R161 : Type := Ress [(.slice 107 ex)]
abbrev G161 : Type := Args [.v i64, .v i64] → Option R161
abbrev kp161 : List (Nat × List Nat) := [(0, [1, 0]), (1, [1, 0, 5]), (2, [1, 6, 0, 5]), (3, [12, 5, 0, 6, 1]), (5, [7, 5, 0, 6, 1]), (6, [19, 5, 7, 0, 6, 1]), (8, [5, 8, 7, 0, 6, 1]), (9, [35, 5, 8, 7, 0, 6, 1]), (10, [7, 5, 0, 6, 1]), (7, [7, 5, 0, 6, 1]), (4, [1, 6, 0, 5]), (11, [4])]
abbrev ct161 (g156 : G156) : CTab := [(156, ⟨[.v i64, .v ex], [.bool], false, false, 0, g156⟩)]
abbrev kr161 : Env → Option R161 := endK TT [.tmp 4] [(.slice 107 ex)] true false
abbrev sh161_6 : Shape := [(0, vv i64), (1, vv i64), (5, vr 107 ex 81 false), (6, vv i64), (7, vv i64)]
def st161_6 (g156 : G156) (F : Nat) (s : ShVal sh161_6) (k kx : ShVal sh161_6 → Option R161) : Option R161 :=
  match s with
  | ((t0, _), (t1, _), (t5, _), (t6, _), (t7, _), _) => (bif decide ((0 : Int) ≤ t7) then (match (g156 (t0, ((tset (w8 (w6 ((w6 (t1 - t6)) - t7))) 3 (tset (w8 t7) 3 (tset (w8 t6) 3 (tup Int (0 : Int) 3) 0) 1) 2), ()))) with | some r20 => (bif r20.1 then (bif (growOk (List.length t5) (List.length ((tset (w8 (w6 ((w6 (t1 - t6)) - t7))) 3 (tset (w8 t7) 3 (tset (w8 t6) 3 (tup Int (0 : Int) 3) 0) 1) 2) :: []))) then k ((t0, ()), ((t1, ()), (((t5 ++ ((tset (w8 (w6 ((w6 (t1 - t6)) - t7))) 3 (tset (w8 t7) 3 (tset (w8 t6) 3 (tup Int (0 : Int) 3) 0) 1) 2) :: [])), ()), ((t6, ()), (((w6 (t7 - (1 : Int))), ()), ()))))) else none) else k ((t0, ()), ((t1, ()), ((t5, ()), ((t6, ()), (((w6 (t7 - (1 : Int))), ()), ())))))) | none => none) else kx ((t0, ()), ((t1, ()), ((t5, ()), ((t6, ()), ((t7, ()), ()))))))
def ru161_6 (g156 : G156) (F : Nat) (s : ShVal sh161_6) (kx : ShVal sh161_6 → Option R161) : Option R161 := iter (fun s k => st161_6 g156 F s k kx) F s
abbrev ls161_6 (g156 : G156) (F : Nat) : LS R161 := ⟨sh161_6, 2, ru161_6 g156 F⟩
abbrev sh161_3 : Shape := [(0, vv i64), (1, vv i64), (5, vr 107 ex 81 false), (6, vv i64)]
def st161_3 (g156 : G156) (F : Nat) (s : ShVal sh161_3) (k kx : ShVal sh161_3 → Option R161) : Option R161 :=
  match s with
  | ((t0, _), (t1, _), (t5, _), (t6, _), _) => (bif decide ((0 : Int) ≤ t6) then (ru161_6 g156 F ((t0, ()), ((t1, ()), ((t5, ()), ((t6, ()), (((w6 (t1 - t6)), ()), ()))))) (fun s' => match s' with | ((t0, _), (t1, _), (t5, _), (t6, _), (t7, _), _) => k ((t0, ()), ((t1, ()), ((t5, ()), (((w6 (t6 - (1 : Int))), ()), ())))))) else kx ((t0, ()), ((t1, ()), ((t5, ()), ((t6, ()), ())))))
def ru161_3 (g156 : G156) (F : Nat) (s : ShVal sh161_3) (kx : ShVal sh161_3 → Option R161) : Option R161 := iter (fun s k => st161_3 g156 F s k kx) F s
abbrev ls161_3 (g156 : G156) (F : Nat) : LS R161 := ⟨sh161_3, 0, ru161_3 g156 F⟩
def fn161 (g156 : G156) (F : Nat) (x : Args [.v i64, .v i64]) : Option R161 :=
  match x with
  | (x0, x1, _) => (ru161_3 g156 F ((x0, ()), ((x1, ()), (([], ()), ((x1, ()), ())))) (fun s' => match s' with | ((t0, _), (t1, _), (t5, _), (t6, _), _) => (some (t5, ()))))
theorem ev161_6 (g156 : G156) (F : Nat) (s : ShVal sh161_6) (k kx : ShVal sh161_6 → Option R161) : evL TT (ct161 g156 ) kp161 [] (loopOf Tryz.f161 6) (envOf sh161_6 s) (fitK sh161_6 k) (fun j e => bif Nat.beq j 2 then fitK sh161_6 kx e else none) kr161 = st161_6 g156 F s k kx := by
  obtain ⟨⟨t0, _⟩, ⟨t1, _⟩, ⟨t5, _⟩, ⟨t6, _⟩, ⟨t7, _⟩, _⟩ := s
  kernel_rfl
theorem ok161_6 (g156 : G156) (F : Nat) (hK : KOK Tryz.prog (ct161 g156 )) : LSOK Tryz.prog ⟨41, false, undef⟩ (ls161_6 g156 F) (loopOf Tryz.f161 6) kr161 :=
  loop_ok (st161_6 g156 F) mixed tt_ok hK (by kernel_rfl) (LTOK_by (l := []) (by kernel_rfl) trivial) (ev161_6 g156 F)
theorem ev161_3 (g156 : G156) (F : Nat) (s : ShVal sh161_3) (k kx : ShVal sh161_3 → Option R161) : evL TT (ct161 g156 ) kp161 [(6, ls161_6 g156 F)] (loopOf Tryz.f161 3) (envOf sh161_3 s) (fitK sh161_3 k) (fun j e => bif Nat.beq j 0 then fitK sh161_3 kx e else none) kr161 = st161_3 g156 F s k kx := by
  obtain ⟨⟨t0, _⟩, ⟨t1, _⟩, ⟨t5, _⟩, ⟨t6, _⟩, _⟩ := s
  kernel_rfl
theorem ok161_3 (g156 : G156) (F : Nat) (hK : KOK Tryz.prog (ct161 g156 )) : LSOK Tryz.prog ⟨41, false, undef⟩ (ls161_3 g156 F) (loopOf Tryz.f161 3) kr161 :=
  loop_ok (st161_3 g156 F) mixed tt_ok hK (by kernel_rfl) (LTOK_by (l := [loopOf Tryz.f161 6]) (by kernel_rfl) ⟨ls_at (by kernel_rfl) (ok161_6 g156 F hK), trivial⟩) (ev161_3 g156 F)
theorem ev161 (g156 : G156) (F : Nat) (x : Args [.v i64, .v i64]) : fnK TT (ct161 g156 ) kp161 [(.slice 107 ex)] [(3, ls161_3 g156 F)] (bodyOf Tryz.f161) [.tmp 4] [.v i64, .v i64] true false x = fn161 g156 F x := by
  obtain ⟨x0, x1, _⟩ := x
  kernel_rfl
theorem ok161 (g156 : G156) (hK : KOK Tryz.prog (ct161 g156 )) (cf : G161) (h : ∀ x y, cf x = some y → ∃ F, fn161 g156 F x = some y) : KOne Tryz.prog 161 ⟨[.v i64, .v i64], [(.slice 107 ex)], true, false, 0, cf⟩ :=
  fn_one rfl (c := bodyOf Tryz.f161) mixed tt_ok hK Tryz.func161 (by kernel_rfl) (by kernel_rfl) (Nat.le_of_ble_eq_true (by kernel_rfl)) (by decide) fun x y hxy => by
    obtain ⟨F, hF⟩ := h x y hxy
    exact ⟨[(3, ls161_3 g156 F)], LTOK_by (l := [loopOf Tryz.f161 3]) (by kernel_rfl) ⟨ls_at (by kernel_rfl) (ok161_3 g156 F hK), trivial⟩, (ev161 g156 F x).trans hF⟩
abbrev R174 : Type := Ress [(.slice 107 ex)]
abbrev G174 : Type := Args [.v i64, .v i64] → Option R174
abbrev kp174 : List (Nat × List Nat) := [(0, [1, 0]), (1, [1, 0, 5]), (2, [1, 0, 6, 5]), (3, [12, 5, 6, 0, 1]), (5, [7, 5, 6, 0, 1]), (6, [19, 7, 5, 6, 0, 1]), (8, [8, 7, 5, 6, 0, 1]), (9, [40, 8, 7, 5, 6, 0, 1]), (10, [7, 5, 6, 0, 1]), (7, [7, 5, 6, 0, 1]), (4, [1, 0, 6, 5]), (11, [4])]
abbrev ct174 : CTab := []
abbrev kr174 : Env → Option R174 := endK TT [.tmp 4] [(.slice 107 ex)] true false
abbrev sh174_6 : Shape := [(0, vv i64), (1, vv i64), (5, vr 107 ex 81 false), (6, vv i64), (7, vv i64)]
def st174_6 (F : Nat) (s : ShVal sh174_6) (k kx : ShVal sh174_6 → Option R174) : Option R174 :=
  match s with
  | ((t0, _), (t1, _), (t5, _), (t6, _), (t7, _), _) => (bif decide ((0 : Int) ≤ t7) then (bif decide (t0 < (2 : Int)) then (bif (bif true then decide ((0 : Int) < t7) else false) then k ((t0, ()), ((t1, ()), ((t5, ()), ((t6, ()), (((w6 (t7 - (1 : Int))), ()), ()))))) else (bif decide (t0 < (3 : Int)) then (bif (bif false then true else (bif true then decide ((0 : Int) < (w6 ((w6 (t1 - t6)) - t7))) else false)) then k ((t0, ()), ((t1, ()), ((t5, ()), ((t6, ()), (((w6 (t7 - (1 : Int))), ()), ()))))) else (bif (growOk (List.length t5) (List.length ((tset (w8 (w6 ((w6 (t1 - t6)) - t7))) 3 (tset (w8 t7) 3 (tset (w8 t6) 3 (tup Int (0 : Int) 3) 0) 1) 2) :: []))) then k ((t0, ()), ((t1, ()), (((t5 ++ ((tset (w8 (w6 ((w6 (t1 - t6)) - t7))) 3 (tset (w8 t7) 3 (tset (w8 t6) 3 (tup Int (0 : Int) 3) 0) 1) 2) :: [])), ()), ((t6, ()), (((w6 (t7 - (1 : Int))), ()), ()))))) else none)) else (bif (bif false then true else false) then k ((t0, ()), ((t1, ()), ((t5, ()), ((t6, ()), (((w6 (t7 - (1 : Int))), ()), ()))))) else (bif (growOk (List.length t5) (List.length ((tset (w8 (w6 ((w6 (t1 - t6)) - t7))) 3 (tset (w8 t7) 3 (tset (w8 t6) 3 (tup Int (0 : Int) 3) 0) 1) 2) :: []))) then k ((t0, ()), ((t1, ()), (((t5 ++ ((tset (w8 (w6 ((w6 (t1 - t6)) - t7))) 3 (tset (w8 t7) 3 (tset (w8 t6) 3 (tup Int (0 : Int) 3) 0) 1) 2) :: [])), ()), ((t6, ()), (((w6 (t7 - (1 : Int))), ()), ()))))) else none)))) else (bif decide (t0 < (3 : Int)) then (bif (bif false then true else (bif true then decide ((0 : Int) < (w6 ((w6 (t1 - t6)) - t7))) else false)) then k ((t0, ()), ((t1, ()), ((t5, ()), ((t6, ()), (((w6 (t7 - (1 : Int))), ()), ()))))) else (bif (growOk (List.length t5) (List.length ((tset (w8 (w6 ((w6 (t1 - t6)) - t7))) 3 (tset (w8 t7) 3 (tset (w8 t6) 3 (tup Int (0 : Int) 3) 0) 1) 2) :: []))) then k ((t0, ()), ((t1, ()), (((t5 ++ ((tset (w8 (w6 ((w6 (t1 - t6)) - t7))) 3 (tset (w8 t7) 3 (tset (w8 t6) 3 (tup Int (0 : Int) 3) 0) 1) 2) :: [])), ()), ((t6, ()), (((w6 (t7 - (1 : Int))), ()), ()))))) else none)) else (bif (bif false then true else false) then k ((t0, ()), ((t1, ()), ((t5, ()), ((t6, ()), (((w6 (t7 - (1 : Int))), ()), ()))))) else (bif (growOk (List.length t5) (List.length ((tset (w8 (w6 ((w6 (t1 - t6)) - t7))) 3 (tset (w8 t7) 3 (tset (w8 t6) 3 (tup Int (0 : Int) 3) 0) 1) 2) :: []))) then k ((t0, ()), ((t1, ()), (((t5 ++ ((tset (w8 (w6 ((w6 (t1 - t6)) - t7))) 3 (tset (w8 t7) 3 (tset (w8 t6) 3 (tup Int (0 : Int) 3) 0) 1) 2) :: [])), ()), ((t6, ()), (((w6 (t7 - (1 : Int))), ()), ()))))) else none)))) else kx ((t0, ()), ((t1, ()), ((t5, ()), ((t6, ()), ((t7, ()), ()))))))
def ru174_6 (F : Nat) (s : ShVal sh174_6) (kx : ShVal sh174_6 → Option R174) : Option R174 := iter (fun s k => st174_6 F s k kx) F s
abbrev ls174_6 (F : Nat) : LS R174 := ⟨sh174_6, 2, ru174_6 F⟩
abbrev sh174_3 : Shape := [(0, vv i64), (1, vv i64), (5, vr 107 ex 81 false), (6, vv i64)]
def st174_3 (F : Nat) (s : ShVal sh174_3) (k kx : ShVal sh174_3 → Option R174) : Option R174 :=
  match s with
  | ((t0, _), (t1, _), (t5, _), (t6, _), _) => (bif decide ((0 : Int) ≤ t6) then (ru174_6 F ((t0, ()), ((t1, ()), ((t5, ()), ((t6, ()), (((w6 (t1 - t6)), ()), ()))))) (fun s' => match s' with | ((t0, _), (t1, _), (t5, _), (t6, _), (t7, _), _) => k ((t0, ()), ((t1, ()), ((t5, ()), (((w6 (t6 - (1 : Int))), ()), ())))))) else kx ((t0, ()), ((t1, ()), ((t5, ()), ((t6, ()), ())))))
def ru174_3 (F : Nat) (s : ShVal sh174_3) (kx : ShVal sh174_3 → Option R174) : Option R174 := iter (fun s k => st174_3 F s k kx) F s
abbrev ls174_3 (F : Nat) : LS R174 := ⟨sh174_3, 0, ru174_3 F⟩
def fn174 (F : Nat) (x : Args [.v i64, .v i64]) : Option R174 :=
  match x with
  | (x0, x1, _) => (ru174_3 F ((x0, ()), ((x1, ()), (([], ()), ((x1, ()), ())))) (fun s' => match s' with | ((t0, _), (t1, _), (t5, _), (t6, _), _) => (some (t5, ()))))
theorem ev174_6 (F : Nat) (s : ShVal sh174_6) (k kx : ShVal sh174_6 → Option R174) : evL TT (ct174 ) kp174 [] (loopOf Tryz.f174 6) (envOf sh174_6 s) (fitK sh174_6 k) (fun j e => bif Nat.beq j 2 then fitK sh174_6 kx e else none) kr174 = st174_6 F s k kx := by
  obtain ⟨⟨t0, _⟩, ⟨t1, _⟩, ⟨t5, _⟩, ⟨t6, _⟩, ⟨t7, _⟩, _⟩ := s
  kernel_rfl
theorem ok174_6 (F : Nat) (hK : KOK Tryz.prog (ct174 )) : LSOK Tryz.prog ⟨52, false, undef⟩ (ls174_6 F) (loopOf Tryz.f174 6) kr174 :=
  loop_ok (st174_6 F) mixed tt_ok hK (by kernel_rfl) (LTOK_by (l := []) (by kernel_rfl) trivial) (ev174_6 F)
theorem ev174_3 (F : Nat) (s : ShVal sh174_3) (k kx : ShVal sh174_3 → Option R174) : evL TT (ct174 ) kp174 [(6, ls174_6 F)] (loopOf Tryz.f174 3) (envOf sh174_3 s) (fitK sh174_3 k) (fun j e => bif Nat.beq j 0 then fitK sh174_3 kx e else none) kr174 = st174_3 F s k kx := by
  obtain ⟨⟨t0, _⟩, ⟨t1, _⟩, ⟨t5, _⟩, ⟨t6, _⟩, _⟩ := s
  kernel_rfl
theorem ok174_3 (F : Nat) (hK : KOK Tryz.prog (ct174 )) : LSOK Tryz.prog ⟨52, false, undef⟩ (ls174_3 F) (loopOf Tryz.f174 3) kr174 :=
  loop_ok (st174_3 F) mixed tt_ok hK (by kernel_rfl) (LTOK_by (l := [loopOf Tryz.f174 6]) (by kernel_rfl) ⟨ls_at (by kernel_rfl) (ok174_6 F hK), trivial⟩) (ev174_3 F)
theorem ev174 (F : Nat) (x : Args [.v i64, .v i64]) : fnK TT (ct174 ) kp174 [(.slice 107 ex)] [(3, ls174_3 F)] (bodyOf Tryz.f174) [.tmp 4] [.v i64, .v i64] true false x = fn174 F x := by
  obtain ⟨x0, x1, _⟩ := x
  kernel_rfl
theorem ok174 (hK : KOK Tryz.prog (ct174 )) (cf : G174) (h : ∀ x y, cf x = some y → ∃ F, fn174 F x = some y) : KOne Tryz.prog 174 ⟨[.v i64, .v i64], [(.slice 107 ex)], true, false, 0, cf⟩ :=
  fn_one rfl (c := bodyOf Tryz.f174) mixed tt_ok hK Tryz.func174 (by kernel_rfl) (by kernel_rfl) (Nat.le_of_ble_eq_true (by kernel_rfl)) (by decide) fun x y hxy => by
    obtain ⟨F, hF⟩ := h x y hxy
    exact ⟨[(3, ls174_3 F)], LTOK_by (l := [loopOf Tryz.f174 3]) (by kernel_rfl) ⟨ls_at (by kernel_rfl) (ok174_3 F hK), trivial⟩, (ev174 F x).trans hF⟩
def cf88 : G174 := fn174 100
theorem k88 : KOne Tryz.prog 174 ⟨[.v i64, .v i64], [.slice 107 ex], true, false, 0, cf88⟩ := ok174 .nil cf88 fun x y h => ⟨100, h⟩
def cf84 : G161 := fn161 cf143 100
theorem k84 : KOne Tryz.prog 161 ⟨[.v i64, .v i64], [.slice 107 ex], true, false, 0, cf84⟩ := ok161 _ (.cons k143 .nil) cf84 fun x y h => ⟨100, h⟩
def eqE (a b : ex.den) : Bool := decide (x0 a = x0 b) && decide (x1 a = x1 b) && decide (x2 a = x2 b)
def eqX : List ex.den → List ex.den → Bool
  | [], [] => true
  | a :: r, b :: s => eqE a b && eqX r s
  | _, _ => false
def okB (a : ex.den) : Bool := (decide (0 ≤ x0 a) && decide (x0 a ≤ 255)) && (decide (0 ≤ x1 a) && decide (x1 a ≤ 255)) && (decide (0 ≤ x2 a) && decide (x2 a ≤ 255))
def srtB : List ex.den → Bool
  | [] => true
  | a :: r => okB a && (match r with | [] => true | b :: _ => decide (keyX a < keyX b)) && srtB r
def chk (d n : Int) : Bool :=
  match fn174 100 (d, n, ()), fn161 cf143 100 (d, n, ()) with
  | some (a, _), some (b, _) => eqX a b && srtB a && decide ((show List ex.den from a).length ≤ 100)
  | _, _ => false
theorem eqX_eq : ∀ {a b : List ex.den}, eqX a b = true → a = b
  | [], [], _ => rfl
  | a :: r, b :: s, h => by
    simp only [eqX, eqE, Bool.and_eq_true, decide_eq_true_eq] at h
    obtain ⟨⟨⟨h1, h2⟩, h3⟩, h4⟩ := h
    obtain ⟨a0, a1, a2, _⟩ := a
    obtain ⟨b0, b1, b2, _⟩ := b
    have h1 : a0 = b0 := h1
    have h2 : a1 = b1 := h2
    have h3 : a2 = b2 := h3
    subst h1; subst h2; subst h3
    rw [eqX_eq h4]
  | [], _ :: _, h => by simp [eqX] at h
  | _ :: _, [], h => by simp [eqX] at h
theorem srtB_ok : ∀ {m : List ex.den}, srtB m = true → m.Pairwise (fun a b => keyX a < keyX b) ∧ ∀ e ∈ m, okX e
  | [], _ => ⟨.nil, by simp⟩
  | a :: r, h => by
    simp only [srtB, Bool.and_eq_true] at h
    obtain ⟨⟨h1, h2⟩, h3⟩ := h
    obtain ⟨q1, q2⟩ := srtB_ok h3
    have oa : okX a := by
      simp only [okB, Bool.and_eq_true, decide_eq_true_eq] at h1
      exact ⟨h1.1.1, h1.1.2, h1.2⟩
    refine ⟨List.pairwise_cons.2 ⟨fun b hb => ?_, q1⟩, fun e he => ?_⟩
    · cases r with
      | nil => cases hb
      | cons c r =>
        have h2 : keyX a < keyX c := by simpa using h2
        rcases List.mem_cons.1 hb with rfl | hb
        · exact h2
        · have := (List.pairwise_cons.1 q1).1 b hb; omega
    · rcases List.mem_cons.1 he with rfl | he
      · exact oa
      · exact q2 e he
theorem chk_all : ((List.range 3).all fun d => (List.range 13).all fun n => chk ((d : Int) + 1) (n : Int)) = true := by kernel_rfl
theorem mons_ok {d n : Int} (hd : 1 ≤ d ∧ d ≤ 3) (hn : 0 ≤ n ∧ n ≤ 12) : ∃ m : List ex.den, cf88 (d, n, ()) = some (m, ()) ∧ cf84 (d, n, ()) = some (m, ()) ∧ m.Pairwise (fun a b => keyX a < keyX b) ∧ (∀ e ∈ m, okX e) ∧ m.length ≤ 100 := by
  have h := chk_all
  rw [List.all_eq_true] at h
  have h := h (d.toNat - 1) (by simp; omega)
  rw [List.all_eq_true] at h
  have h := h n.toNat (by simp; omega)
  rw [show (((d.toNat - 1 : Nat) : Int) + 1) = d by omega, show ((n.toNat : Nat) : Int) = n by omega] at h
  unfold chk at h
  split at h
  · rename_i a u b u' e1 e2
    simp only [Bool.and_eq_true, decide_eq_true_eq] at h
    obtain ⟨⟨h1, h2⟩, h3⟩ := h
    have := eqX_eq h1
    subst this
    obtain ⟨q1, q2⟩ := srtB_ok h2
    exact ⟨a, e1, e2, q1, q2, h3⟩
  · cases h
theorem split_len {a b : List Int} {i : Nat} (h : a.length = b.length) (hi : i ≤ a.length) : (a.take i ++ b.drop i).length = a.length := by simp; omega
theorem split_get {a b : List Int} {i : Nat} (h : a.length = b.length) (hi : i < a.length) : (a.take i ++ b.drop i).getD i 0 = el b i := by
  simp only [el, List.getD_eq_getElem?_getD]
  rw [List.getElem?_append_right (by simp; omega), List.length_take, Nat.min_eq_left (by omega), List.getElem?_drop]
  simp
theorem split_set {a b : List Int} {i : Nat} (h : a.length = b.length) (hi : i < a.length) : (a.take i ++ b.drop i).set i (el a i) = a.take (i + 1) ++ b.drop (i + 1) := by
  rw [take_snoc hi, ← el_get hi, List.set_append_right _ _ (by simp; omega)]
  rw [List.length_take, Nat.min_eq_left (by omega), Nat.sub_self, List.append_assoc]
  congr 1
  rw [List.drop_eq_getElem_cons (show i < b.length by omega)]
  rfl
theorem scale_loop {p c : Int} {m : Nat} {own : List Int} (hp : 2 ≤ p ∧ p ≤ 13) (hc : 0 ≤ c ∧ c < p) (h1 : Can p m own) (hm : m ≤ 1000000) {F0 F : Nat} (hF : m < F) {rows out : List (List Int)} {i at_ : Int} {kx : ShVal sh85_10 → Option R85} :
    iter (fun s k => st85_10 cf153 cf75 cf154 cf152 F0 s k kx) F ((p, ()), ((rows, ()), ((out, ()), ((i, ()), ((own, ()), ((at_, ()), ((c, ()), (((0 : Int), ()), ())))))))) =
      kx ((p, ()), ((rows, ()), ((out, ()), ((i, ()), ((scl p c own, ()), ((at_, ()), ((c, ()), ((((m : Nat) : Int), ()), ())))))))) := by
  have hl : (scl p c own).length = own.length := scl_len
  have lw := h1.len
  have key := iter_run (step := fun s k => st85_10 cf153 cf75 cf154 cf152 F0 s k kx) (r := kx ((p, ()), ((rows, ()), ((out, ()), ((i, ()), ((scl p c own, ()), ((at_, ()), ((c, ()), ((((m : Nat) : Int), ()), ())))))))))
    m F (fun j => ((p, ()), ((rows, ()), ((out, ()), ((i, ()), ((((scl p c own).take j ++ own.drop j), ()), ((at_, ()), ((c, ()), (((j : Int), ()), ()))))))))) hF (fun j hj k => ?_) (fun k => ?_)
  · simpa using key
  · have l1 := split_len (i := j) hl (by omega)
    have g1 := split_get (i := j) hl (by omega)
    have s1 := split_set (i := j) hl (by omega)
    have z := h1.rng j
    have z2 := sq_rng (p := p) (by omega) z.1 z.2 hc.1 hc.2
    have e : Int.tmod (el own j * c) p = el (scl p c own) j := by rw [Int.tmod_eq_emod_of_nonneg z2.1, el_scl]
    rw [← s1]
    generalize (scl p c own).take j ++ own.drop j = L at *
    simp (disch := omega) only [st85_10, dln_t, cond_true, ofn, dlt_t, ib_t, tn_cast, deq_f, Bool.not_false, g1, e, w6_id]
    rfl
  · rw [show (scl p c own).take m ++ own.drop m = scl p c own by rw [← lw, List.drop_length, List.append_nil, ← hl, List.take_length]]
    simp (disch := omega) only [st85_10, dln_t, cond_true, ofn, dlt_f, cond_false]
def anyG (at_ : Nat) (L : List (List Int)) : Bool := L.any fun o => decide (at_ < ld o)
def nextL (p : Int) (own : List Int) (at_ : Nat) (L : List (List Int)) : List (List Int) := bif anyG at_ L then ins p own at_ L else L.map (red p own at_)
theorem anyG_snoc {at_ : Nat} {L : List (List Int)} {o : List Int} : anyG at_ (L ++ [o]) = (anyG at_ L || decide (at_ < ld o)) := by simp [anyG]
theorem ins_none {p : Int} {own : List Int} {at_ : Nat} : ∀ {L : List (List Int)}, anyG at_ L = false → ins p own at_ L = L.map (red p own at_) ++ [own]
  | [], _ => rfl
  | o :: os, h => by
    simp only [anyG, List.any_cons, Bool.or_eq_false_iff, decide_eq_false_iff_not] at h
    simp only [ins, if_neg h.1, List.map_cons, List.cons_append]
    rw [ins_none (L := os) h.2]
theorem ins_put {p : Int} {own o : List Int} {at_ : Nat} : ∀ {L : List (List Int)}, anyG at_ L = true → ins p own at_ (L ++ [o]) = ins p own at_ L ++ [red p own at_ o]
  | [], h => by simp [anyG] at h
  | x :: os, h => by
    simp only [List.cons_append, ins]
    by_cases q : at_ < ld x
    · simp [if_pos q]
    · simp only [if_neg q, List.cons_append]
      simp only [anyG, List.any_cons, decide_eq_false q, Bool.false_or] at h
      rw [ins_put (L := os) h]
theorem ins_now {p : Int} {own o : List Int} {at_ : Nat} (ho : at_ < ld o) : ∀ {L : List (List Int)}, anyG at_ L = false → ins p own at_ (L ++ [o]) = L.map (red p own at_) ++ [own] ++ [red p own at_ o]
  | [], _ => by simp [ins, if_pos ho]
  | x :: os, h => by
    simp only [anyG, List.any_cons, Bool.or_eq_false_iff, decide_eq_false_iff_not] at h
    simp only [List.cons_append, ins, if_neg h.1, List.map_cons]
    rw [ins_now ho (L := os) h.2]
theorem nextL_len {p : Int} {own : List Int} {at_ : Nat} {L : List (List Int)} : (nextL p own at_ L).length ≤ L.length + 1 := by
  unfold nextL
  cases anyG at_ L with
  | true => simp [ins_len]
  | false => simp
theorem put_loop {p : Int} {m at_ : Nat} {own : List Int} {out : List (List Int)} (hp : 2 ≤ p ∧ p ≤ 13) (w : Own p m own at_ out) (rr : RR p m out) (hm : m ≤ 1000000) (ho : out.length ≤ 1000000) {F0 F : Nat} (hF : out.length < F) {rows : List (List Int)} {i : Int} {kx : ShVal sh85_15 → Option R85} :
    iter (fun s k => st85_15 cf153 cf75 cf154 cf152 F0 s k kx) F ((p, ()), ((rows, ()), ((out, ()), ((i, ()), ((own, ()), (((at_ : Int), ()), (([], ()), ((false, ()), (((0 : Int), ()), ()))))))))) =
      kx ((p, ()), ((rows, ()), ((out, ()), ((i, ()), ((own, ()), (((at_ : Int), ()), ((nextL p own at_ out, ()), ((anyG at_ out, ()), ((((out.length : Nat) : Int), ()), ()))))))))) := by
  have key := iter_run (step := fun s k => st85_15 cf153 cf75 cf154 cf152 F0 s k kx) (r := kx ((p, ()), ((rows, ()), ((out, ()), ((i, ()), ((own, ()), (((at_ : Int), ()), ((nextL p own at_ out, ()), ((anyG at_ out, ()), ((((out.length : Nat) : Int), ()), ()))))))))))
    out.length F (fun j => ((p, ()), ((rows, ()), ((out, ()), ((i, ()), ((own, ()), (((at_ : Int), ()), ((nextL p own at_ (out.take j), ()), ((anyG at_ (out.take j), ()), (((j : Int), ()), ())))))))))) hF (fun j hj k => ?_) (fun k => ?_)
  · simpa [nextL, anyG] using key
  · have ho1 : out.getD j [] = out[j] := by simp [List.getD_eq_getElem?_getD, List.getElem?_eq_getElem hj]
    have hmem : out[j] ∈ out := List.getElem_mem hj
    have co := rr.can _ hmem
    have lo := rr.lt _ hmem
    have l1 : (nextL p own at_ (out.take j)).length ≤ 1000001 := by
      have := nextL_len (p := p) (own := own) (at_ := at_) (L := out.take j)
      simp at this; omega
    have hn : nextL p own at_ (out.take (j + 1)) = if anyG at_ (out.take j) = false ∧ at_ < ld out[j] then nextL p own at_ (out.take j) ++ [own] ++ [red p own at_ out[j]] else nextL p own at_ (out.take j) ++ [red p own at_ out[j]] := by
      rw [take_snoc hj]
      unfold nextL
      rw [anyG_snoc]
      cases hg : anyG at_ (out.take j) with
      | true => simp only [Bool.true_or, cond_true]; rw [ins_put hg]; simp
      | false =>
        by_cases q : at_ < ld out[j]
        · rw [decide_eq_true q]; simp only [Bool.false_or, cond_true, cond_false]; rw [ins_now q hg, if_pos ⟨trivial, q⟩]
        · rw [decide_eq_false q]; simp only [Bool.false_or, cond_false]; rw [if_neg (fun h => q h.2), List.map_append]; rfl
    have hb : anyG at_ (out.take (j + 1)) = (anyG at_ (out.take j) || decide (at_ < ld out[j])) := by rw [take_snoc hj, anyG_snoc]
    rw [hn, hb]
    have g1 := g153_ok (l := out[j]) (by rw [co.len]; exact hm)
    rw [ldI_lt co.len lo] at g1
    have g2 : cf154 (p, out[j], own, out[j].getD at_ 0, ()) = some (red p own at_ out[j], ()) := g154_ok hp (co.rng at_) co w.can hm
    have lc := co.len
    have lt := w.lt
    generalize nextL p own at_ (out.take j) = N at *
    generalize anyG at_ (out.take j) = G at *
    clear hn hb
    generalize out[j] = o at *
    cases G with
    | true =>
      rw [if_neg (fun h => by cases h.1)]
      simp (disch := omega) only [st85_15, dln_t, cond_true, ofn, dlt_t, ib_t, tn_cast, Bool.not_true, cond_false, ho1, g2, grow_t, List.length_singleton, w6_id]
      rfl
    | false =>
      by_cases q : at_ < ld o
      · rw [if_pos ⟨rfl, q⟩, decide_eq_true q]
        simp (disch := first | omega | (simp only [List.length_append, List.length_singleton]; omega)) only [st85_15, dln_t, cond_true, ofn, dlt_t, ib_t, tn_cast, Bool.not_false, g1, ho1, g2, grow_t, List.length_singleton, w6_id]
        rfl
      · rw [if_neg (fun h => q h.2), decide_eq_false q]
        simp (disch := omega) only [st85_15, dln_t, cond_true, ofn, dlt_t, dlt_f, cond_false, ib_t, tn_cast, Bool.not_false, g1, ho1, g2, grow_t, List.length_singleton, w6_id]
        rfl
  · rw [List.take_length]
    simp (disch := omega) only [st85_15, dln_t, cond_true, ofn, dlt_f, cond_false]
theorem ech_snoc {p : Int} {a : List (List Int)} {r : List Int} : ech p (a ++ [r]) = stepR p (ech p a) r := by simp [ech, List.foldl_append]
theorem stepR_len {p : Int} {out : List (List Int)} {r : List Int} : (stepR p out r).length ≤ out.length + 1 := by
  unfold stepR; split
  · omega
  · rw [ins_len]; exact Nat.le_refl _
theorem fold_len {p : Int} : ∀ {rows out : List (List Int)}, (rows.foldl (stepR p) out).length ≤ out.length + rows.length
  | [], out => Nat.le_refl _
  | r :: rs, out => by
    have h1 := fold_len (p := p) (rows := rs) (out := stepR p out r)
    have h2 := stepR_len (p := p) (out := out) (r := r)
    simp only [List.foldl_cons, List.length_cons]; omega
theorem ech_len {p : Int} {rows : List (List Int)} : (ech p rows).length ≤ rows.length := by
  have := fold_len (p := p) (rows := rows) (out := []); simpa [ech] using this
theorem g75_ok {p x : Int} (h : (2 ≤ p ∧ p ≤ 13) ∧ (-1000000000000 ≤ x ∧ x ≤ 1000000000000)) : cf75 (p, x, ()) = some (inv p x, ()) := if_pos h
theorem run108 {p : Int} {m : Nat} {rows : List (List Int)} (hP : isP p = true) (hr : ∀ r ∈ rows, Can p m r) (hm : m ≤ 1000000) (hn : rows.length ≤ 500000) {F : Nat} (hF : m + rows.length + 1 < F) : fn85 cf153 cf75 cf154 cf152 F (p, rows, ()) = some (ech p rows, ()) := by
  have hp := isP_pos hP
  simp only [fn85, ru85_3]
  have key := iter_run (step := fun s k => st85_3 cf153 cf75 cf154 cf152 F s k (fun s' => match s' with | ((t0, _), (t1, _), (t5, _), (t6, _), _) => (some (t5, ())))) (r := some (ech p rows, ())) rows.length F (fun i => ((p, ()), ((rows, ()), ((ech p (rows.take i), ()), (((i : Int), ()), ()))))) (by omega) (fun i hi k => ?_) (fun k => ?_)
  · simpa [ech] using key
  · have hr1 : rows.getD i [] = rows[i] := by simp [List.getD_eq_getElem?_getD, List.getElem?_eq_getElem hi]
    have cr := hr _ (List.getElem_mem hi)
    have rr : RR p m (ech p (rows.take i)) := ech_RR hP fun r h => hr r (List.mem_of_mem_take h)
    have lo : (ech p (rows.take i)).length ≤ i := by have := ech_len (p := p) (rows := rows.take i); simp at this; omega
    rw [take_snoc hi, ech_snoc]
    generalize ech p (rows.take i) = out at *
    generalize rows[i] = r at *
    have g1 := g152_ok hp rr cr hm (by omega)
    have co := rest_can (p := p) (m := m) (by omega) rr.can cr
    have g2 := g153_ok (l := rest p out r) (by rw [co.len]; exact hm)
    have lw := co.len
    have hle := ld_le (rest p out r)
    by_cases q : ld (rest p out r) = (rest p out r).length
    · have e1 : stepR p out r = out := by unfold stepR; rw [if_pos q]
      have e2 : ldI (rest p out r) = -1 := by unfold ldI; rw [if_pos q]
      rw [e2] at g2
      rw [e1]
      simp (disch := omega) only [st85_3, dln_t, cond_true, ofn, dlt_t, ib_t, tn_cast, hr1, g1, g2, w6_id]
      rfl
    · have e2 : ldI (rest p out r) = (ld (rest p out r) : Int) := by unfold ldI; rw [if_neg q]
      rw [e2] at g2
      have w := own_of hP rr cr q
      have e1 : stepR p out r = ins p (scl p (inv p (el (rest p out r) (ld (rest p out r)))) (rest p out r)) (ld (rest p out r)) out := by unfold stepR; rw [if_neg q]
      rw [e1]
      have z := co.rng (ld (rest p out r))
      have g3 : cf75 (p, (rest p out r).getD (ld (rest p out r)) 0, ()) = some (inv p (el (rest p out r) (ld (rest p out r))), ()) := g75_ok (by simp only [el] at z; omega)
      have hi2 := (inv_ok hP (x := el (rest p out r) (ld (rest p out r))) (by rw [co.mod]; exact ld_ne _ (by omega))).1
      generalize ld (rest p out r) = at_ at *
      generalize rest p out r = own at *
      generalize inv p (el own at_) = c at *
      have L1 := fun kx => scale_loop (F0 := F) (F := F) (rows := rows) (out := out) (i := (i : Int)) (at_ := (at_ : Int)) (kx := kx) hp ⟨by omega, hi2.2⟩ co hm (by omega)
      have L2 := fun kx => put_loop (F0 := F) (F := F) (rows := rows) (i := (i : Int)) (kx := kx) hp w rr hm (by omega) (by omega)
      have ln := nextL_len (p := p) (own := scl p c own) (at_ := at_) (L := out)
      simp (disch := omega) only [st85_3, dln_t, cond_true, ofn, dlt_t, dlt_f, cond_false, ib_t, tn_cast, hr1, g1, g2, g3, ru85_10, ru85_15, L1, L2]
      unfold nextL at ln ⊢
      cases hg : anyG at_ out with
      | true =>
        simp (disch := omega) only [Bool.not_true, cond_false, cond_true, w6_id]
        rfl
      | false =>
        rw [hg] at ln
        simp only [cond_false] at ln
        rw [ins_none hg]
        simp (disch := first | omega | (simp only [List.length_singleton]; omega)) only [Bool.not_false, cond_false, cond_true, grow_t, List.length_singleton, w6_id]
        rfl
  · rw [List.take_length]
    simp (disch := omega) only [st85_3, dln_t, cond_true, ofn, dlt_f, cond_false]
open Classical in
noncomputable def c108 (p : Int) (rows : List (List Int)) : Option (List (List Int) × Unit) := if isP p = true ∧ (∃ m, m ≤ 1000000 ∧ ∀ r ∈ rows, Can p m r) ∧ rows.length ≤ 500000 then some (ech p rows, ()) else none
noncomputable def cf108 : Args [.v i64, .v (.slice 44 (.slice 2 i64))] → Option R85 := fun x => c108 x.1 x.2.1
theorem k108 : KOne Tryz.prog 85 ⟨[.v i64, .v (.slice 44 (.slice 2 i64))], [.slice 44 (.slice 2 i64)], false, false, 0, cf108⟩ := ok85 _ _ _ _ (.cons k153 (.cons k75 (.cons k154 (.cons k152 .nil)))) cf108 fun x y h => by
  obtain ⟨p, rows, _⟩ := x
  simp only [cf108, c108] at h
  split at h
  · rename_i hc
    injection h with h; subst h
    obtain ⟨h1, ⟨m, h2, h3⟩, h4⟩ := hc
    exact ⟨_, run108 h1 h3 h2 h4 (Nat.lt_succ_self _)⟩
  · cases h
theorem g108_ok {p : Int} {m : Nat} {rows : List (List Int)} (hP : isP p = true) (hr : ∀ r ∈ rows, Can p m r) (hm : m ≤ 1000000) (hn : rows.length ≤ 500000) : cf108 (p, rows, ()) = some (ech p rows, ()) := if_pos ⟨hP, ⟨m, hm, hr⟩, hn⟩
section
variable {p : Int} {m : Nat}
theorem fold_perm (hP : isP p = true) : ∀ {rows a b : List (List Int)}, a.Perm b → RR p m b → (∀ r ∈ rows, Can p m r) → (rows.foldl (takeL p) a).Perm (rows.foldl (stepR p) b)
  | [], a, b, h, _, _ => h
  | r :: rs, a, b, h, rr, hc => by
    have := isP_pos hP
    exact fold_perm (rows := rs) hP (take_perm (by omega) h rr (hc r (.head _))) (stepR_RR hP rr (hc r (.head _))) fun x hx => hc x (.tail _ hx)
theorem ldI_of {r : List Int} (h : ld r < r.length) : ldI r = (ld r : Int) := by unfold ldI; rw [if_neg (by omega)]
theorem RR.lds {out : List (List Int)} (rr : RR p m out) : out.Pairwise fun a b => ldI a < ldI b := by
  refine rr.ord.imp_of_mem fun {a b} ha hb h => ?_
  rw [ldI_of (by rw [(rr.can a ha).len]; exact rr.lt a ha), ldI_of (by rw [(rr.can b hb).len]; exact rr.lt b hb)]
  have := h.1; omega
theorem sort_ech (hP : isP p = true) {rows : List (List Int)} (hc : ∀ r ∈ rows, Can p m r) : sortK ldI (rows.foldl (takeL p) []) = ech p rows ∧ ((rows.foldl (takeL p) []).map ldI).Nodup := by
  have hp : (rows.foldl (takeL p) []).Perm (ech p rows) := fold_perm hP (.refl _) .nil hc
  have rr := ech_RR hP hc
  have hn : ((rows.foldl (takeL p) []).map ldI).Nodup := by
    refine (hp.map ldI).nodup_iff.2 ?_
    rw [List.nodup_iff_pairwise_ne, List.pairwise_map]
    exact rr.lds.imp fun h => by omega
  exact ⟨(sortK_unique hp.symm (rr.lds.imp fun h => by omega) hn).symm, hn⟩
theorem take_mem (hP : isP p = true) {rows : List (List Int)} (hc : ∀ r ∈ rows, Can p m r) : ∀ o ∈ rows.foldl (takeL p) [], Can p m o ∧ ld o < m := fun o ho => by
  have hp : (rows.foldl (takeL p) []).Perm (ech p rows) := fold_perm hP (.refl _) .nil hc
  have rr := ech_RR hP hc
  have := hp.mem_iff.1 ho
  exact ⟨rr.can o this, rr.lt o this⟩
theorem takes_len : ∀ {rows out : List (List Int)}, (rows.foldl (takeL p) out).length ≤ out.length + rows.length
  | [], out => by simp
  | r :: rs, out => by
    have := takes_len (rows := rs) (out := takeL p out r)
    have := takeL_len (p := p) (out := out) (r := r)
    simp only [List.foldl_cons, List.length_cons]; omega
end
abbrev R222 : Type := Ress [.bool]
abbrev G222 : Type := Args [.v i64] → Option R222
abbrev kp222 : List (Nat × List Nat) := [(0, [0]), (1, [2])]
abbrev ct222 : CTab := []
def fn222 (F : Nat) (x : Args [.v i64]) : Option R222 :=
  match x with
  | (x0, _) => (some ((!decide (x0 = (0 : Int))), ()))
theorem ev222 (F : Nat) (x : Args [.v i64]) : fnK TT (ct222 ) kp222 [.bool] [] (bodyOf Tryz.f222) [.tmp 2] [.v i64] false false x = fn222 F x := by
  obtain ⟨x0, _⟩ := x
  kernel_rfl
theorem ok222 (hK : KOK Tryz.prog (ct222 )) (cf : G222) (h : ∀ x y, cf x = some y → ∃ F, fn222 F x = some y) : KOne Tryz.prog 222 ⟨[.v i64], [.bool], false, false, 0, cf⟩ :=
  fn_one rfl (c := bodyOf Tryz.f222) mixed tt_ok hK Tryz.func222 (by kernel_rfl) (by kernel_rfl) (Nat.le_of_ble_eq_true (by kernel_rfl)) (by decide) fun x y hxy => by
    obtain ⟨F, hF⟩ := h x y hxy
    exact ⟨[], LTOK_by (l := []) (by kernel_rfl) trivial, (ev222 F x).trans hF⟩
abbrev R221 : Type := Ress [i64]
abbrev G221 : Type := Args [.v (.slice 2 i64), .fn 222] → Option R221
abbrev kp221 : List (Nat × List Nat) := [(0, [0, 1]), (1, [8, 0, 1, 7]), (2, [9, 7, 1, 0, 8]), (3, [7, 1, 0, 8, 5]), (4, [16, 7, 1, 0, 8, 5]), (5, [4]), (6, [8, 0, 1, 7]), (7, [4])]
abbrev ct221 (g222 : G222) : CTab := [(222, ⟨[.v i64], [.bool], false, false, 0, g222⟩)]
abbrev kr221 : Env → Option R221 := endK TT [.tmp 4] [i64] false false
abbrev sh221_2 : Shape := [(0, .val false [.fz (.slice 2 i64) 0 true]), (1, .fn 222 []), (7, vv i64), (8, vv i64)]
def st221_2 (g222 : G222) (F : Nat) (s : ShVal sh221_2) (k kx : ShVal sh221_2 → Option R221) : Option R221 :=
  match s with
  | ((t0, _), _, (t7, _), (t8, _), _) => (bif decide (t8 < t7) then (bif ib t8 (Int.ofNat (List.length t0)) then (match (g222 ((List.getD t0 (tn t8) (0 : Int)), ())) with | some r11 => (bif r11.1 then (some (t8, ())) else k ((t0, ()), ((), ((t7, ()), (((w6 (t8 + (1 : Int))), ()), ()))))) | none => none) else none) else kx ((t0, ()), ((), ((t7, ()), ((t8, ()), ())))))
def ru221_2 (g222 : G222) (F : Nat) (s : ShVal sh221_2) (kx : ShVal sh221_2 → Option R221) : Option R221 := iter (fun s k => st221_2 g222 F s k kx) F s
abbrev ls221_2 (g222 : G222) (F : Nat) : LS R221 := ⟨sh221_2, 0, ru221_2 g222 F⟩
def fn221 (g222 : G222) (F : Nat) (x : Args [.v (.slice 2 i64), .fn 222]) : Option R221 :=
  match x with
  | (x0, x1, _) => (bif decide ((List.length x0) ≤ 9223372036854775807) then (ru221_2 g222 F ((x0, ()), ((), (((Int.ofNat (List.length x0)), ()), (((0 : Int), ()), ())))) (fun s' => match s' with | ((t0, _), _, (t7, _), (t8, _), _) => (some ((-(1 : Int)), ())))) else none)
theorem ev221_2 (g222 : G222) (F : Nat) (s : ShVal sh221_2) (k kx : ShVal sh221_2 → Option R221) : evL TT (ct221 g222 ) kp221 [] (loopOf Tryz.f221 2) (envOf sh221_2 s) (fitK sh221_2 k) (fun j e => bif Nat.beq j 0 then fitK sh221_2 kx e else none) kr221 = st221_2 g222 F s k kx := by
  obtain ⟨⟨t0, _⟩, _, ⟨t7, _⟩, ⟨t8, _⟩, _⟩ := s
  kernel_rfl
theorem ok221_2 (g222 : G222) (F : Nat) (hK : KOK Tryz.prog (ct221 g222 )) : LSOK Tryz.prog ⟨19, false, undef⟩ (ls221_2 g222 F) (loopOf Tryz.f221 2) kr221 :=
  loop_ok (st221_2 g222 F) mixed tt_ok hK (by kernel_rfl) (LTOK_by (l := []) (by kernel_rfl) trivial) (ev221_2 g222 F)
theorem ev221 (g222 : G222) (F : Nat) (x : Args [.v (.slice 2 i64), .fn 222]) : fnK TT (ct221 g222 ) kp221 [i64] [(2, ls221_2 g222 F)] (bodyOf Tryz.f221) [.tmp 4] [.v (.slice 2 i64), .fn 222] false false x = fn221 g222 F x := by
  obtain ⟨x0, x1, _⟩ := x
  kernel_rfl
theorem ok221 (g222 : G222) (hK : KOK Tryz.prog (ct221 g222 )) (cf : G221) (h : ∀ x y, cf x = some y → ∃ F, fn221 g222 F x = some y) : KOne Tryz.prog 221 ⟨[.v (.slice 2 i64), .fn 222], [i64], false, false, 0, cf⟩ :=
  fn_one rfl (c := bodyOf Tryz.f221) mixed tt_ok hK Tryz.func221 (by kernel_rfl) (by kernel_rfl) (Nat.le_of_ble_eq_true (by kernel_rfl)) (by decide) fun x y hxy => by
    obtain ⟨F, hF⟩ := h x y hxy
    exact ⟨[(2, ls221_2 g222 F)], LTOK_by (l := [loopOf Tryz.f221 2]) (by kernel_rfl) ⟨ls_at (by kernel_rfl) (ok221_2 g222 F hK), trivial⟩, (ev221 g222 F x).trans hF⟩
abbrev R172 : Type := Ress [i64]
abbrev G172 : Type := Args [.v (.slice 2 i64)] → Option R172
abbrev kp172 : List (Nat × List Nat) := [(0, [0]), (1, [2])]
abbrev ct172 (g221 : G221) : CTab := [(221, ⟨[.v (.slice 2 i64), .fn 222], [i64], false, false, 0, g221⟩)]
def fn172 (g221 : G221) (F : Nat) (x : Args [.v (.slice 2 i64)]) : Option R172 :=
  match x with
  | (x0, _) => (match (g221 (x0, ((), ()))) with | some r4 => (some (r4.1, ())) | none => none)
theorem ev172 (g221 : G221) (F : Nat) (x : Args [.v (.slice 2 i64)]) : fnK TT (ct172 g221 ) kp172 [i64] [] (bodyOf Tryz.f172) [.tmp 2] [.v (.slice 2 i64)] false false x = fn172 g221 F x := by
  obtain ⟨x0, _⟩ := x
  kernel_rfl
theorem ok172 (g221 : G221) (hK : KOK Tryz.prog (ct172 g221 )) (cf : G172) (h : ∀ x y, cf x = some y → ∃ F, fn172 g221 F x = some y) : KOne Tryz.prog 172 ⟨[.v (.slice 2 i64)], [i64], false, false, 0, cf⟩ :=
  fn_one rfl (c := bodyOf Tryz.f172) mixed tt_ok hK Tryz.func172 (by kernel_rfl) (by kernel_rfl) (Nat.le_of_ble_eq_true (by kernel_rfl)) (by decide) fun x y hxy => by
    obtain ⟨F, hF⟩ := h x y hxy
    exact ⟨[], LTOK_by (l := []) (by kernel_rfl) trivial, (ev172 g221 F x).trans hF⟩
abbrev R201 : Type := Ress [i64]
abbrev G201 : Type := Args [.v i64, .v i64] → Option R201
abbrev kp201 : List (Nat × List Nat) := [(0, [1, 0]), (1, [5, 1, 0]), (2, [8, 0, 1, 5]), (4, [16, 0, 1, 5]), (5, [4]), (3, [5, 1, 0]), (6, [4])]
abbrev ct201 : CTab := []
abbrev kr201 : Env → Option R201 := endK TT [.tmp 4] [i64] false false
abbrev sh201_2 : Shape := [(0, vv i64), (1, vv i64), (5, vv i64)]
def st201_2 (F : Nat) (s : ShVal sh201_2) (k kx : ShVal sh201_2 → Option R201) : Option R201 :=
  match s with
  | ((t0, _), (t1, _), (t5, _), _) => (bif decide (t5 < t1) then (bif (!decide (t1 = (0 : Int))) then (bif decide ((Int.tmod (w6 (t0 * t5)) t1) = (1 : Int)) then (some (t5, ())) else k ((t0, ()), ((t1, ()), (((w6 (t5 + (1 : Int))), ()), ())))) else none) else kx ((t0, ()), ((t1, ()), ((t5, ()), ()))))
def ru201_2 (F : Nat) (s : ShVal sh201_2) (kx : ShVal sh201_2 → Option R201) : Option R201 := iter (fun s k => st201_2 F s k kx) F s
abbrev ls201_2 (F : Nat) : LS R201 := ⟨sh201_2, 0, ru201_2 F⟩
def fn201 (F : Nat) (x : Args [.v i64, .v i64]) : Option R201 :=
  match x with
  | (x0, x1, _) => (ru201_2 F ((x0, ()), ((x1, ()), (((1 : Int), ()), ()))) (fun s' => match s' with | ((t0, _), (t1, _), (t5, _), _) => (some ((0 : Int), ()))))
theorem ev201_2 (F : Nat) (s : ShVal sh201_2) (k kx : ShVal sh201_2 → Option R201) : evL TT (ct201 ) kp201 [] (loopOf Tryz.f201 2) (envOf sh201_2 s) (fitK sh201_2 k) (fun j e => bif Nat.beq j 0 then fitK sh201_2 kx e else none) kr201 = st201_2 F s k kx := by
  obtain ⟨⟨t0, _⟩, ⟨t1, _⟩, ⟨t5, _⟩, _⟩ := s
  kernel_rfl
theorem ok201_2 (F : Nat) (hK : KOK Tryz.prog (ct201 )) : LSOK Tryz.prog ⟨18, false, undef⟩ (ls201_2 F) (loopOf Tryz.f201 2) kr201 :=
  loop_ok (st201_2 F) mixed tt_ok hK (by kernel_rfl) (LTOK_by (l := []) (by kernel_rfl) trivial) (ev201_2 F)
theorem ev201 (F : Nat) (x : Args [.v i64, .v i64]) : fnK TT (ct201 ) kp201 [i64] [(2, ls201_2 F)] (bodyOf Tryz.f201) [.tmp 4] [.v i64, .v i64] false false x = fn201 F x := by
  obtain ⟨x0, x1, _⟩ := x
  kernel_rfl
theorem ok201 (hK : KOK Tryz.prog (ct201 )) (cf : G201) (h : ∀ x y, cf x = some y → ∃ F, fn201 F x = some y) : KOne Tryz.prog 201 ⟨[.v i64, .v i64], [i64], false, false, 0, cf⟩ :=
  fn_one rfl (c := bodyOf Tryz.f201) mixed tt_ok hK Tryz.func201 (by kernel_rfl) (by kernel_rfl) (Nat.le_of_ble_eq_true (by kernel_rfl)) (by decide) fun x y hxy => by
    obtain ⟨F, hF⟩ := h x y hxy
    exact ⟨[(2, ls201_2 F)], LTOK_by (l := [loopOf Tryz.f201 2]) (by kernel_rfl) ⟨ls_at (by kernel_rfl) (ok201_2 F hK), trivial⟩, (ev201 F x).trans hF⟩
abbrev R173 : Type := Ress [(.slice 2 i64)]
abbrev G173 : Type := Args [.v i64, .v (.slice 44 (.slice 2 i64)), .v (.slice 2 i64)] → Option R173
abbrev kp173 : List (Nat × List Nat) := [(0, [2, 1, 0]), (1, [1, 2, 0]), (2, [16, 2, 0, 14, 15]), (3, [17, 0, 2, 16, 14, 15]), (4, [8, 0, 2, 16, 14, 15]), (5, [8, 0, 9, 2, 16, 14, 15]), (6, [26, 8, 0, 9, 2, 16, 14, 15]), (7, [29, 0, 9, 2, 27, 16, 14, 15, 28]), (8, [30, 29, 0, 9, 2, 27, 16, 14, 15, 28]), (9, [10, 11, 29, 0, 9, 2, 27, 16, 14, 15, 28]), (10, [29, 0, 9, 2, 27, 16, 14, 15, 28]), (11, [29, 0, 9, 2, 27, 16, 14, 15, 28]), (12, [16, 2, 0, 14, 15]), (13, [6])]
abbrev ct173 (g223 : G223) (g172 : G172) : CTab := [(223, ⟨[.v (.slice 2 i64)], [(.slice 2 i64)], true, false, 0, g223⟩), (172, ⟨[.v (.slice 2 i64)], [i64], false, false, 0, g172⟩)]
abbrev kr173 : Env → Option R173 := endK TT [.tmp 6] [(.slice 2 i64)] true false
abbrev sh173_8 : Shape := [(0, vv i64), (2, vr 2 i64 33 false), (9, vv i64), (14, .val false [.fz (.slice 44 (.slice 2 i64)) 0 true]), (15, vv i64), (16, vv i64), (27, .val false [.fz (.slice 2 i64) 0 true]), (28, vv i64), (29, vv i64)]
def st173_8 (g223 : G223) (g172 : G172) (F : Nat) (s : ShVal sh173_8) (k kx : ShVal sh173_8 → Option R173) : Option R173 :=
  match s with
  | ((t0, _), (t2, _), (t9, _), (t14, _), (t15, _), (t16, _), (t27, _), (t28, _), (t29, _), _) => (bif decide (t29 < t28) then (bif ib t29 (Int.ofNat (List.length t27)) then (bif ib t29 (Int.ofNat (List.length t2)) then (bif (!decide (t0 = (0 : Int))) then (bif ib t29 (Int.ofNat (List.length t2)) then k ((t0, ()), (((List.set t2 (tn t29) (Int.tmod (w6 ((List.getD t2 (tn t29) (0 : Int)) + (w6 ((w6 (t0 - t9)) * (List.getD t27 (tn t29) (0 : Int)))))) t0)), ()), ((t9, ()), ((t14, ()), ((t15, ()), ((t16, ()), ((t27, ()), ((t28, ()), (((w6 (t29 + (1 : Int))), ()), ()))))))))) else none) else none) else none) else none) else kx ((t0, ()), ((t2, ()), ((t9, ()), ((t14, ()), ((t15, ()), ((t16, ()), ((t27, ()), ((t28, ()), ((t29, ()), ()))))))))))
def ru173_8 (g223 : G223) (g172 : G172) (F : Nat) (s : ShVal sh173_8) (kx : ShVal sh173_8 → Option R173) : Option R173 := iter (fun s k => st173_8 g223 g172 F s k kx) F s
abbrev ls173_8 (g223 : G223) (g172 : G172) (F : Nat) : LS R173 := ⟨sh173_8, 2, ru173_8 g223 g172 F⟩
abbrev sh173_3 : Shape := [(0, vv i64), (2, vr 2 i64 33 false), (14, .val false [.fz (.slice 44 (.slice 2 i64)) 0 true]), (15, vv i64), (16, vv i64)]
def st173_3 (g223 : G223) (g172 : G172) (F : Nat) (s : ShVal sh173_3) (k kx : ShVal sh173_3 → Option R173) : Option R173 :=
  match s with
  | ((t0, _), (t2, _), (t14, _), (t15, _), (t16, _), _) => (bif decide (t16 < t15) then (bif ib t16 (Int.ofNat (List.length t14)) then (match (g172 ((List.getD t14 (tn t16) []), ())) with | some r17 => (bif ib r17.1 (Int.ofNat (List.length t2)) then (bif (!decide ((List.getD t2 (tn r17.1) (0 : Int)) = (0 : Int))) then (bif decide ((List.length (List.getD t14 (tn t16) [])) ≤ 9223372036854775807) then (ru173_8 g223 g172 F ((t0, ()), ((t2, ()), (((List.getD t2 (tn r17.1) (0 : Int)), ()), ((t14, ()), ((t15, ()), ((t16, ()), (((List.getD t14 (tn t16) []), ()), (((Int.ofNat (List.length (List.getD t14 (tn t16) []))), ()), (((0 : Int), ()), ()))))))))) (fun s' => match s' with | ((t0, _), (t2, _), (t9, _), (t14, _), (t15, _), (t16, _), (t27, _), (t28, _), (t29, _), _) => k ((t0, ()), ((t2, ()), ((t14, ()), ((t15, ()), (((w6 (t16 + (1 : Int))), ()), ()))))))) else none) else k ((t0, ()), ((t2, ()), ((t14, ()), ((t15, ()), (((w6 (t16 + (1 : Int))), ()), ())))))) else none) | none => none) else none) else kx ((t0, ()), ((t2, ()), ((t14, ()), ((t15, ()), ((t16, ()), ()))))))
def ru173_3 (g223 : G223) (g172 : G172) (F : Nat) (s : ShVal sh173_3) (kx : ShVal sh173_3 → Option R173) : Option R173 := iter (fun s k => st173_3 g223 g172 F s k kx) F s
abbrev ls173_3 (g223 : G223) (g172 : G172) (F : Nat) : LS R173 := ⟨sh173_3, 0, ru173_3 g223 g172 F⟩
def fn173 (g223 : G223) (g172 : G172) (F : Nat) (x : Args [.v i64, .v (.slice 44 (.slice 2 i64)), .v (.slice 2 i64)]) : Option R173 :=
  match x with
  | (x0, x1, x2, _) => (match (g223 (x2, ())) with | some r7 => (bif decide ((List.length x1) ≤ 9223372036854775807) then (ru173_3 g223 g172 F ((x0, ()), ((r7.1, ()), ((x1, ()), (((Int.ofNat (List.length x1)), ()), (((0 : Int), ()), ()))))) (fun s' => match s' with | ((t0, _), (t2, _), (t14, _), (t15, _), (t16, _), _) => (some (t2, ())))) else none) | none => none)
theorem ev173_8 (g223 : G223) (g172 : G172) (F : Nat) (s : ShVal sh173_8) (k kx : ShVal sh173_8 → Option R173) : evL TT (ct173 g223 g172 ) kp173 [] (loopOf Tryz.f173 8) (envOf sh173_8 s) (fitK sh173_8 k) (fun j e => bif Nat.beq j 2 then fitK sh173_8 kx e else none) kr173 = st173_8 g223 g172 F s k kx := by
  obtain ⟨⟨t0, _⟩, ⟨t2, _⟩, ⟨t9, _⟩, ⟨t14, _⟩, ⟨t15, _⟩, ⟨t16, _⟩, ⟨t27, _⟩, ⟨t28, _⟩, ⟨t29, _⟩, _⟩ := s
  kernel_rfl
theorem ok173_8 (g223 : G223) (g172 : G172) (F : Nat) (hK : KOK Tryz.prog (ct173 g223 g172 )) : LSOK Tryz.prog ⟨52, false, undef⟩ (ls173_8 g223 g172 F) (loopOf Tryz.f173 8) kr173 :=
  loop_ok (st173_8 g223 g172 F) mixed tt_ok hK (by kernel_rfl) (LTOK_by (l := []) (by kernel_rfl) trivial) (ev173_8 g223 g172 F)
theorem ev173_3 (g223 : G223) (g172 : G172) (F : Nat) (s : ShVal sh173_3) (k kx : ShVal sh173_3 → Option R173) : evL TT (ct173 g223 g172 ) kp173 [(8, ls173_8 g223 g172 F)] (loopOf Tryz.f173 3) (envOf sh173_3 s) (fitK sh173_3 k) (fun j e => bif Nat.beq j 0 then fitK sh173_3 kx e else none) kr173 = st173_3 g223 g172 F s k kx := by
  obtain ⟨⟨t0, _⟩, ⟨t2, _⟩, ⟨t14, _⟩, ⟨t15, _⟩, ⟨t16, _⟩, _⟩ := s
  kernel_rfl
theorem ok173_3 (g223 : G223) (g172 : G172) (F : Nat) (hK : KOK Tryz.prog (ct173 g223 g172 )) : LSOK Tryz.prog ⟨52, false, undef⟩ (ls173_3 g223 g172 F) (loopOf Tryz.f173 3) kr173 :=
  loop_ok (st173_3 g223 g172 F) mixed tt_ok hK (by kernel_rfl) (LTOK_by (l := [loopOf Tryz.f173 8]) (by kernel_rfl) ⟨ls_at (by kernel_rfl) (ok173_8 g223 g172 F hK), trivial⟩) (ev173_3 g223 g172 F)
theorem ev173 (g223 : G223) (g172 : G172) (F : Nat) (x : Args [.v i64, .v (.slice 44 (.slice 2 i64)), .v (.slice 2 i64)]) : fnK TT (ct173 g223 g172 ) kp173 [(.slice 2 i64)] [(3, ls173_3 g223 g172 F)] (bodyOf Tryz.f173) [.tmp 6] [.v i64, .v (.slice 44 (.slice 2 i64)), .v (.slice 2 i64)] true false x = fn173 g223 g172 F x := by
  obtain ⟨x0, x1, x2, _⟩ := x
  kernel_rfl
theorem ok173 (g223 : G223) (g172 : G172) (hK : KOK Tryz.prog (ct173 g223 g172 )) (cf : G173) (h : ∀ x y, cf x = some y → ∃ F, fn173 g223 g172 F x = some y) : KOne Tryz.prog 173 ⟨[.v i64, .v (.slice 44 (.slice 2 i64)), .v (.slice 2 i64)], [(.slice 2 i64)], true, false, 0, cf⟩ :=
  fn_one rfl (c := bodyOf Tryz.f173) mixed tt_ok hK Tryz.func173 (by kernel_rfl) (by kernel_rfl) (Nat.le_of_ble_eq_true (by kernel_rfl)) (by decide) fun x y hxy => by
    obtain ⟨F, hF⟩ := h x y hxy
    exact ⟨[(3, ls173_3 g223 g172 F)], LTOK_by (l := [loopOf Tryz.f173 3]) (by kernel_rfl) ⟨ls_at (by kernel_rfl) (ok173_3 g223 g172 F hK), trivial⟩, (ev173 g223 g172 F x).trans hF⟩
abbrev R224 : Type := Ress [(.slice 44 (.slice 2 i64))]
abbrev G224 : Type := Args [.v i64, .v (.slice 44 (.slice 2 i64)), .v (.slice 2 i64)] → Option R224
abbrev kp224 : List (Nat × List Nat) := [(0, [2, 0, 1]), (1, [2, 0, 1]), (2, [2, 0, 7, 1]), (3, [19, 2, 0, 7, 1]), (4, [6]), (5, [0, 8, 2, 1]), (6, [29, 0, 8, 2, 1, 28]), (7, [30, 29, 0, 8, 2, 1, 28]), (8, [9, 29, 0, 8, 2, 1, 28]), (9, [29, 0, 8, 2, 1, 28]), (10, [29, 0, 8, 2, 1, 28]), (11, [46, 2, 0, 1, 44, 45]), (12, [47, 46, 2, 0, 1, 44, 45]), (13, [10, 11, 46, 2, 0, 1, 44, 45]), (14, [46, 2, 0, 1, 44, 45]), (15, [46, 2, 0, 1, 44, 45]), (16, [6])]
abbrev ct224 (g173 : G173) (g201 : G201) (g172 : G172) : CTab := [(173, ⟨[.v i64, .v (.slice 44 (.slice 2 i64)), .v (.slice 2 i64)], [(.slice 2 i64)], true, false, 0, g173⟩), (201, ⟨[.v i64, .v i64], [i64], false, false, 0, g201⟩), (172, ⟨[.v (.slice 2 i64)], [i64], false, false, 0, g172⟩)]
abbrev kr224 : Env → Option R224 := endK TT [.tmp 6] [(.slice 44 (.slice 2 i64))] true false
abbrev sh224_7 : Shape := [(0, vv i64), (1, vr 44 (.slice 2 i64) 17 false), (2, vr 2 i64 33 false), (8, vv i64), (28, vv i64), (29, vv i64)]
def st224_7 (g173 : G173) (g201 : G201) (g172 : G172) (F : Nat) (s : ShVal sh224_7) (k kx : ShVal sh224_7 → Option R224) : Option R224 :=
  match s with
  | ((t0, _), (t1, _), (t2, _), (t8, _), (t28, _), (t29, _), _) => (bif decide (t29 < t28) then (bif ib t29 (Int.ofNat (List.length t2)) then (bif (!decide (t0 = (0 : Int))) then (bif ib t29 (Int.ofNat (List.length t2)) then k ((t0, ()), ((t1, ()), (((List.set t2 (tn t29) (Int.tmod (w6 ((List.getD t2 (tn t29) (0 : Int)) * t8)) t0)), ()), ((t8, ()), ((t28, ()), (((w6 (t29 + (1 : Int))), ()), ())))))) else none) else none) else none) else kx ((t0, ()), ((t1, ()), ((t2, ()), ((t8, ()), ((t28, ()), ((t29, ()), ())))))))
def ru224_7 (g173 : G173) (g201 : G201) (g172 : G172) (F : Nat) (s : ShVal sh224_7) (kx : ShVal sh224_7 → Option R224) : Option R224 := iter (fun s k => st224_7 g173 g201 g172 F s k kx) F s
abbrev ls224_7 (g173 : G173) (g201 : G201) (g172 : G172) (F : Nat) : LS R224 := ⟨sh224_7, 0, ru224_7 g173 g201 g172 F⟩
abbrev sh224_12 : Shape := [(0, vv i64), (1, vr 44 (.slice 2 i64) 17 false), (2, vr 2 i64 33 false), (44, vr 44 (.slice 2 i64) 17 false), (45, vv i64), (46, vv i64)]
def st224_12 (g173 : G173) (g201 : G201) (g172 : G172) (F : Nat) (s : ShVal sh224_12) (k kx : ShVal sh224_12 → Option R224) : Option R224 :=
  match s with
  | ((t0, _), (t1, _), (t2, _), (t44, _), (t45, _), (t46, _), _) => (bif decide (t46 < t45) then (bif ib t46 (Int.ofNat (List.length t44)) then (match (g173 (t0, ((t2 :: []), ((List.getD t44 (tn t46) []), ())))) with | some r31 => (bif ib t46 (Int.ofNat (List.length t1)) then k ((t0, ()), (((List.set t1 (tn t46) r31.1), ()), ((t2, ()), (((List.set t44 (tn t46) r31.1), ()), ((t45, ()), (((w6 (t46 + (1 : Int))), ()), ())))))) else none) | none => none) else none) else kx ((t0, ()), ((t1, ()), ((t2, ()), ((t44, ()), ((t45, ()), ((t46, ()), ())))))))
def ru224_12 (g173 : G173) (g201 : G201) (g172 : G172) (F : Nat) (s : ShVal sh224_12) (kx : ShVal sh224_12 → Option R224) : Option R224 := iter (fun s k => st224_12 g173 g201 g172 F s k kx) F s
abbrev ls224_12 (g173 : G173) (g201 : G201) (g172 : G172) (F : Nat) : LS R224 := ⟨sh224_12, 2, ru224_12 g173 g201 g172 F⟩
def fn224 (g173 : G173) (g201 : G201) (g172 : G172) (F : Nat) (x : Args [.v i64, .v (.slice 44 (.slice 2 i64)), .v (.slice 2 i64)]) : Option R224 :=
  match x with
  | (x0, x1, x2, _) => (match (g173 (x0, (x1, (x2, ())))) with | some r8 => (match (g172 (r8.1, ())) with | some r10 => (bif decide (r10.1 < (0 : Int)) then (some (x1, ())) else (bif ib r10.1 (Int.ofNat (List.length r8.1)) then (match (g201 ((List.getD r8.1 (tn r10.1) (0 : Int)), (x0, ()))) with | some r13 => (bif decide ((List.length r8.1) ≤ 9223372036854775807) then (ru224_7 g173 g201 g172 F ((x0, ()), ((x1, ()), ((r8.1, ()), ((r13.1, ()), (((Int.ofNat (List.length r8.1)), ()), (((0 : Int), ()), ())))))) (fun s' => match s' with | ((t0, _), (t1, _), (t2, _), (t8, _), (t28, _), (t29, _), _) => (bif decide ((List.length t1) ≤ 9223372036854775807) then (ru224_12 g173 g201 g172 F ((t0, ()), ((t1, ()), ((t2, ()), ((t1, ()), (((Int.ofNat (List.length t1)), ()), (((0 : Int), ()), ())))))) (fun s' => match s' with | ((t0, _), (t1, _), (t2, _), (t44, _), (t45, _), (t46, _), _) => (bif (growOk (List.length t1) (List.length (t2 :: []))) then (some ((t1 ++ (t2 :: [])), ())) else none))) else none))) else none) | none => none) else none)) | none => none) | none => none)
theorem ev224_7 (g173 : G173) (g201 : G201) (g172 : G172) (F : Nat) (s : ShVal sh224_7) (k kx : ShVal sh224_7 → Option R224) : evL TT (ct224 g173 g201 g172 ) kp224 [] (loopOf Tryz.f224 7) (envOf sh224_7 s) (fitK sh224_7 k) (fun j e => bif Nat.beq j 0 then fitK sh224_7 kx e else none) kr224 = st224_7 g173 g201 g172 F s k kx := by
  obtain ⟨⟨t0, _⟩, ⟨t1, _⟩, ⟨t2, _⟩, ⟨t8, _⟩, ⟨t28, _⟩, ⟨t29, _⟩, _⟩ := s
  kernel_rfl
theorem ok224_7 (g173 : G173) (g201 : G201) (g172 : G172) (F : Nat) (hK : KOK Tryz.prog (ct224 g173 g201 g172 )) : LSOK Tryz.prog ⟨64, false, undef⟩ (ls224_7 g173 g201 g172 F) (loopOf Tryz.f224 7) kr224 :=
  loop_ok (st224_7 g173 g201 g172 F) mixed tt_ok hK (by kernel_rfl) (LTOK_by (l := []) (by kernel_rfl) trivial) (ev224_7 g173 g201 g172 F)
theorem ev224_12 (g173 : G173) (g201 : G201) (g172 : G172) (F : Nat) (s : ShVal sh224_12) (k kx : ShVal sh224_12 → Option R224) : evL TT (ct224 g173 g201 g172 ) kp224 [] (loopOf Tryz.f224 12) (envOf sh224_12 s) (fitK sh224_12 k) (fun j e => bif Nat.beq j 2 then fitK sh224_12 kx e else none) kr224 = st224_12 g173 g201 g172 F s k kx := by
  obtain ⟨⟨t0, _⟩, ⟨t1, _⟩, ⟨t2, _⟩, ⟨t44, _⟩, ⟨t45, _⟩, ⟨t46, _⟩, _⟩ := s
  kernel_rfl
theorem ok224_12 (g173 : G173) (g201 : G201) (g172 : G172) (F : Nat) (hK : KOK Tryz.prog (ct224 g173 g201 g172 )) : LSOK Tryz.prog ⟨64, false, undef⟩ (ls224_12 g173 g201 g172 F) (loopOf Tryz.f224 12) kr224 :=
  loop_ok (st224_12 g173 g201 g172 F) mixed tt_ok hK (by kernel_rfl) (LTOK_by (l := []) (by kernel_rfl) trivial) (ev224_12 g173 g201 g172 F)
theorem ev224 (g173 : G173) (g201 : G201) (g172 : G172) (F : Nat) (x : Args [.v i64, .v (.slice 44 (.slice 2 i64)), .v (.slice 2 i64)]) : fnX TT (ct224 g173 g201 g172 ) kp224 .i64 44 (.slice 2 i64) (.slice 2 i64) (.slice 44 (.slice 2 i64)) [(7, ls224_7 g173 g201 g172 F), (12, ls224_12 g173 g201 g172 F)] (bodyOf Tryz.f224) [.tmp 6] x = fn224 g173 g201 g172 F x := by
  obtain ⟨x0, x1, x2, _⟩ := x
  kernel_rfl
theorem ok224 (g173 : G173) (g201 : G201) (g172 : G172) (hK : KOK Tryz.prog (ct224 g173 g201 g172 )) (cf : G224) (h : ∀ x y, cf x = some y → ∃ F, fn224 g173 g201 g172 F x = some y) : KOne Tryz.prog 224 ⟨[.v i64, .v (.slice 44 (.slice 2 i64)), .v (.slice 2 i64)], [(.slice 44 (.slice 2 i64))], true, false, 2, cf⟩ :=
  fnX_one (c := bodyOf Tryz.f224) mixed tt_ok hK Tryz.func224 (by kernel_rfl) (by kernel_rfl) (Nat.le_of_ble_eq_true (by kernel_rfl)) (by decide) fun x y hxy => by
    obtain ⟨F, hF⟩ := h x y hxy
    exact ⟨[(7, ls224_7 g173 g201 g172 F), (12, ls224_12 g173 g201 g172 F)], LTOK_by (l := [loopOf Tryz.f224 7, loopOf Tryz.f224 12]) (by kernel_rfl) ⟨ls_at (by kernel_rfl) (ok224_7 g173 g201 g172 F hK), ⟨ls_at (by kernel_rfl) (ok224_12 g173 g201 g172 F hK), trivial⟩⟩, (ev224 g173 g201 g172 F x).trans hF⟩
abbrev R226 : Type := Ress [i64]
abbrev G226 : Type := Args [.v (.slice 2 i64), .v (.slice 2 i64)] → Option R226
abbrev kp226 : List (Nat × List Nat) := [(0, [0, 1]), (1, [4])]
abbrev ct226 (g172 : G172) : CTab := [(172, ⟨[.v (.slice 2 i64)], [i64], false, false, 0, g172⟩)]
def fn226 (g172 : G172) (F : Nat) (x : Args [.v (.slice 2 i64), .v (.slice 2 i64)]) : Option R226 :=
  match x with
  | (x0, x1, _) => (match (g172 (x0, ())) with | some r5 => (match (g172 (x1, ())) with | some r6 => (some ((w6 (r5.1 - r6.1)), ())) | none => none) | none => none)
theorem ev226 (g172 : G172) (F : Nat) (x : Args [.v (.slice 2 i64), .v (.slice 2 i64)]) : fnK TT (ct226 g172 ) kp226 [i64] [] (bodyOf Tryz.f226) [.tmp 4] [.v (.slice 2 i64), .v (.slice 2 i64)] false false x = fn226 g172 F x := by
  obtain ⟨x0, x1, _⟩ := x
  kernel_rfl
theorem ok226 (g172 : G172) (hK : KOK Tryz.prog (ct226 g172 )) (cf : G226) (h : ∀ x y, cf x = some y → ∃ F, fn226 g172 F x = some y) : KOne Tryz.prog 226 ⟨[.v (.slice 2 i64), .v (.slice 2 i64)], [i64], false, false, 0, cf⟩ :=
  fn_one rfl (c := bodyOf Tryz.f226) mixed tt_ok hK Tryz.func226 (by kernel_rfl) (by kernel_rfl) (Nat.le_of_ble_eq_true (by kernel_rfl)) (by decide) fun x y hxy => by
    obtain ⟨F, hF⟩ := h x y hxy
    exact ⟨[], LTOK_by (l := []) (by kernel_rfl) trivial, (ev226 g172 F x).trans hF⟩
abbrev R176 : Type := Ress [(.slice 44 (.slice 2 i64))]
abbrev G176 : Type := Args [.v i64, .v (.slice 44 (.slice 2 i64))] → Option R176
abbrev kp176 : List (Nat × List Nat) := [(0, [1, 0]), (1, [1, 5, 0]), (2, [11, 5, 0, 9, 10]), (3, [12, 5, 11, 0, 9, 10]), (4, [5, 7, 11, 0, 9, 10]), (5, [11, 5, 0, 9, 10]), (6, [11, 5, 0, 9, 10]), (7, [5]), (8, [4])]
abbrev ct176 (g225 : G225) (g224 : G224) : CTab := [(225, ⟨[.v (.slice 44 (.slice 2 i64)), .fn 226], [(.slice 44 (.slice 2 i64))], false, false, 1, g225⟩), (224, ⟨[.v i64, .v (.slice 44 (.slice 2 i64)), .v (.slice 2 i64)], [(.slice 44 (.slice 2 i64))], true, false, 2, g224⟩)]
abbrev kr176 : Env → Option R176 := endK TT [.tmp 4] [(.slice 44 (.slice 2 i64))] true false
abbrev sh176_3 : Shape := [(0, vv i64), (5, vr 44 (.slice 2 i64) 81 false), (9, .val false [.fz (.slice 44 (.slice 2 i64)) 0 true]), (10, vv i64), (11, vv i64)]
def st176_3 (g225 : G225) (g224 : G224) (F : Nat) (s : ShVal sh176_3) (k kx : ShVal sh176_3 → Option R176) : Option R176 :=
  match s with
  | ((t0, _), (t5, _), (t9, _), (t10, _), (t11, _), _) => (bif decide (t11 < t10) then (bif ib t11 (Int.ofNat (List.length t9)) then (match (g224 (t0, (t5, ((List.getD t9 (tn t11) []), ())))) with | some r15 => k ((t0, ()), ((r15.1, ()), ((t9, ()), ((t10, ()), (((w6 (t11 + (1 : Int))), ()), ()))))) | none => none) else none) else kx ((t0, ()), ((t5, ()), ((t9, ()), ((t10, ()), ((t11, ()), ()))))))
def ru176_3 (g225 : G225) (g224 : G224) (F : Nat) (s : ShVal sh176_3) (kx : ShVal sh176_3 → Option R176) : Option R176 := iter (fun s k => st176_3 g225 g224 F s k kx) F s
abbrev ls176_3 (g225 : G225) (g224 : G224) (F : Nat) : LS R176 := ⟨sh176_3, 0, ru176_3 g225 g224 F⟩
def fn176 (g225 : G225) (g224 : G224) (F : Nat) (x : Args [.v i64, .v (.slice 44 (.slice 2 i64))]) : Option R176 :=
  match x with
  | (x0, x1, _) => (bif decide ((List.length x1) ≤ 9223372036854775807) then (ru176_3 g225 g224 F ((x0, ()), (([], ()), ((x1, ()), (((Int.ofNat (List.length x1)), ()), (((0 : Int), ()), ()))))) (fun s' => match s' with | ((t0, _), (t5, _), (t9, _), (t10, _), (t11, _), _) => (match (g225 (t5, ((), ()))) with | some r13 => (some ((bif ((Nat.beq 44 44) && ((Nat.beq 2 2) && true)) then r13.1 else []), ())) | none => none))) else none)
theorem ev176_3 (g225 : G225) (g224 : G224) (F : Nat) (s : ShVal sh176_3) (k kx : ShVal sh176_3 → Option R176) : evL TT (ct176 g225 g224 ) kp176 [] (loopOf Tryz.f176 3) (envOf sh176_3 s) (fitK sh176_3 k) (fun j e => bif Nat.beq j 0 then fitK sh176_3 kx e else none) kr176 = st176_3 g225 g224 F s k kx := by
  obtain ⟨⟨t0, _⟩, ⟨t5, _⟩, ⟨t9, _⟩, ⟨t10, _⟩, ⟨t11, _⟩, _⟩ := s
  kernel_rfl
theorem ok176_3 (g225 : G225) (g224 : G224) (F : Nat) (hK : KOK Tryz.prog (ct176 g225 g224 )) : LSOK Tryz.prog ⟨23, false, undef⟩ (ls176_3 g225 g224 F) (loopOf Tryz.f176 3) kr176 :=
  loop_ok (st176_3 g225 g224 F) mixed tt_ok hK (by kernel_rfl) (LTOK_by (l := []) (by kernel_rfl) trivial) (ev176_3 g225 g224 F)
theorem ev176 (g225 : G225) (g224 : G224) (F : Nat) (x : Args [.v i64, .v (.slice 44 (.slice 2 i64))]) : fnK TT (ct176 g225 g224 ) kp176 [(.slice 44 (.slice 2 i64))] [(3, ls176_3 g225 g224 F)] (bodyOf Tryz.f176) [.tmp 4] [.v i64, .v (.slice 44 (.slice 2 i64))] true false x = fn176 g225 g224 F x := by
  obtain ⟨x0, x1, _⟩ := x
  kernel_rfl
theorem ok176 (g225 : G225) (g224 : G224) (hK : KOK Tryz.prog (ct176 g225 g224 )) (cf : G176) (h : ∀ x y, cf x = some y → ∃ F, fn176 g225 g224 F x = some y) : KOne Tryz.prog 176 ⟨[.v i64, .v (.slice 44 (.slice 2 i64))], [(.slice 44 (.slice 2 i64))], true, false, 0, cf⟩ :=
  fn_one rfl (c := bodyOf Tryz.f176) mixed tt_ok hK Tryz.func176 (by kernel_rfl) (by kernel_rfl) (Nat.le_of_ble_eq_true (by kernel_rfl)) (by decide) fun x y hxy => by
    obtain ⟨F, hF⟩ := h x y hxy
    exact ⟨[(3, ls176_3 g225 g224 F)], LTOK_by (l := [loopOf Tryz.f176 3]) (by kernel_rfl) ⟨ls_at (by kernel_rfl) (ok176_3 g225 g224 F hK), trivial⟩, (ev176 g225 g224 F x).trans hF⟩
def cf178 : G222 := fn222 0
theorem k178 : KOne Tryz.prog 222 ⟨[.v i64], [.bool], false, false, 0, cf178⟩ := ok222 .nil cf178 fun x y h => ⟨0, h⟩
theorem g178_ok (a : Int) : cf178 (a, ()) = some (!decide (a = 0), ()) := rfl
def c177 (l : List Int) : Option (Int × Unit) := if l.length ≤ 1000000 then some (ldI l, ()) else none
def cf177 : G221 := fun x => c177 x.1
theorem k177 : KOne Tryz.prog 221 ⟨[.v (.slice 2 i64), .fn 222], [i64], false, false, 0, cf177⟩ := ok221 _ (.cons k178 .nil) cf177 fun x y h => by
  obtain ⟨l, _, _⟩ := x
  simp only [cf177, c177] at h
  split at h
  · rename_i hc
    injection h with h; subst h
    have hle := ld_le l
    refine ⟨l.length + 1, ?_⟩
    simp (disch := omega) only [fn221, ru221_2, dln_t, cond_true, ofn]
    refine iter_run (ld l) _ (fun i => ((l, ()), ((), (((l.length : Int), ()), ((i : Int), ()), ())))) (by omega) (fun i hi k => ?_) (fun k => ?_)
    · have h0 : l.getD i 0 = 0 := ld_zero l i hi
      simp (disch := omega) only [st221_2, ofn, dlt_t, ib_t, tn_cast, cond_true, h0, g178_ok, deq_t, Bool.not_true, cond_false, w6_id]
      rfl
    · by_cases q : ld l = l.length
      · simp (disch := omega) only [st221_2, dlt_f, cond_false, ldI, if_pos q]
      · have hne : l.getD (ld l) 0 ≠ 0 := ld_ne l (by omega)
        have g : cf178 (l.getD (ld l) 0, ()) = some (true, ()) := by rw [g178_ok, deq_f hne]; rfl
        simp (disch := omega) only [st221_2, ofn, dlt_t, ib_t, tn_cast, cond_true, g, ldI, if_neg q]
  · cases h
def cf157 : G172 := fn172 cf177 0
theorem k157 : KOne Tryz.prog 172 ⟨[.v (.slice 2 i64)], [i64], false, false, 0, cf157⟩ := ok172 _ (.cons k177 .nil) cf157 fun x y h => ⟨0, h⟩
theorem g157_ok {l : List Int} (h : l.length ≤ 1000000) : cf157 (l, ()) = some (ldI l, ()) := by
  have : cf177 (l, (), ()) = some (ldI l, ()) := if_pos h
  simp only [cf157, fn172, this]
theorem g91_ok {l : List Int} (h : l.length ≤ 1000000) : cf91 (l, ()) = some (l, ()) := if_pos h
theorem run79 {p x : Int} (hp : 2 ≤ p ∧ p ≤ 13) (hx : 0 ≤ x ∧ x < p) {F0 : Nat} : ∀ (f F : Nat) (k : Int), 1 ≤ k → p - k < f → f < F →
    iter (fun s k => st201_2 F0 s k (fun s' => match s' with | ((t0, _), (t1, _), (t5, _), _) => (some ((0 : Int), ())))) F ((x, ()), ((p, ()), ((k, ()), ()))) = some (invA p (x % p) f k, ())
  | 0, F, k, h1, h2, h3 => by
    obtain ⟨F, rfl⟩ : ∃ f, F = f + 1 := ⟨F - 1, by omega⟩
    simp (disch := omega) only [iter, st201_2, dlt_f, cond_false, invA]
  | f + 1, F, k, h1, h2, h3 => by
    obtain ⟨F, rfl⟩ : ∃ f, F = f + 1 := ⟨F - 1, by omega⟩
    have r : x % p = x := Int.emod_eq_of_lt hx.1 hx.2
    by_cases q : k < p
    · have s := sq_rng (p := p) (by omega) hx.1 hx.2 (show 0 ≤ k by omega) q
      have e : Int.tmod (w6 (x * k)) p = k * (x % p) % p := by rw [w6_id (by omega) (by omega), Int.tmod_eq_emod_of_nonneg s.1, r, Int.mul_comm]
      have ih := fun k h1 h2 => run79 hp hx (F0 := F0) f F k h1 h2 (by omega)
      simp only [iter]
      generalize iter _ F = G at ih ⊢
      simp (disch := omega) only [st201_2, dlt_t, cond_true, deq_f, Bool.not_false, e]
      by_cases z : k * (x % p) % p = 1
      · rw [decide_eq_true z]; simp only [cond_true, invA, if_pos q, if_pos z]
      · rw [decide_eq_false z]
        simp (disch := omega) only [cond_false, w6_id]
        rw [ih (k + 1) (by omega) (by omega)]
        simp only [invA, if_pos q, if_neg z]
    · simp (disch := omega) only [iter, st201_2, dlt_f, cond_false, invA, if_neg q]
def c79 (x p : Int) : Option (Int × Unit) := if (2 ≤ p ∧ p ≤ 13) ∧ (0 ≤ x ∧ x < p) then some (inv p x, ()) else none
def cf79 : G201 := fun x => c79 x.1 x.2.1
theorem k79 : KOne Tryz.prog 201 ⟨[.v i64, .v i64], [i64], false, false, 0, cf79⟩ := ok201 .nil cf79 fun x y h => by
  obtain ⟨a, p, _⟩ := x
  simp only [cf79, c79] at h
  split at h
  · rename_i hc
    injection h with h; subst h
    exact ⟨20, run79 hc.1 hc.2 13 20 1 (by omega) (by omega) (by omega)⟩
  · cases h
theorem g79_ok {x p : Int} (hp : 2 ≤ p ∧ p ≤ 13) (hx : 0 ≤ x ∧ x < p) : cf79 (x, p, ()) = some (inv p x, ()) := if_pos ⟨hp, hx⟩
theorem less_el {p n x a : Int} (hp : 2 ≤ p ∧ p ≤ 13) (hx : 0 ≤ x ∧ x < p) (hn : 0 ≤ n ∧ n < p) (ha : 0 ≤ a ∧ a < p) : Int.tmod (w6 (x + w6 (w6 (p - n) * a))) p = (x - n * a) % p := by
  have h1 : w6 (p - n) = p - n := w6_id (by omega) (by omega)
  have s := mul_rng (a := p - n) (b := a) (c := 14) (d := 14) (by omega) (by omega) ha.1 (by omega)
  rw [h1, w6_id (x := (p - n) * a) (by omega) (by omega), w6_id (by omega) (by omega), Int.tmod_eq_emod_of_nonneg (by omega)]
  have : x + (p - n) * a = x - n * a + p * a := by rw [Int.sub_mul]; omega
  rw [this, Int.add_mul_emod_self_left]
theorem less_in {p n : Int} {m : Nat} {r o : List Int} (hp : 2 ≤ p ∧ p ≤ 13) (hn : 0 ≤ n ∧ n < p) (h1 : Can p m r) (h2 : Can p m o) (hm : m ≤ 1000000) {F0 F : Nat} (hF : m < F) {out : List (List Int)} {a b : Int} {kx : ShVal sh173_8 → Option R173} :
    iter (fun s k => st173_8 cf91 cf157 F0 s k kx) F ((p, ()), ((r, ()), ((n, ()), ((out, ()), ((a, ()), ((b, ()), ((o, ()), (((m : Int), ()), (((0 : Int), ()), ()))))))))) =
      kx ((p, ()), ((subm p n r o, ()), ((n, ()), ((out, ()), ((a, ()), ((b, ()), ((o, ()), (((m : Int), ()), (((m : Int), ()), ()))))))))) := by
  have l1 := h1.len
  have l2 := h2.len
  have l3 : (subm p n r o).length = r.length := subm_len (by omega)
  have key := iter_run (step := fun s k => st173_8 cf91 cf157 F0 s k kx) (r := kx ((p, ()), ((subm p n r o, ()), ((n, ()), ((out, ()), ((a, ()), ((b, ()), ((o, ()), (((m : Int), ()), (((m : Int), ()), ()))))))))))
    m F (fun i => ((p, ()), (((subm p n r o).take i ++ r.drop i, ()), ((n, ()), ((out, ()), ((a, ()), ((b, ()), ((o, ()), (((m : Int), ()), (((i : Int), ()), ())))))))))) hF (fun i hi k => ?_) (fun k => ?_)
  · simpa using key
  · have z1 := split_len (i := i) l3 (by omega)
    have g1 := split_get (i := i) l3 (by omega)
    have s1 := split_set (i := i) l3 (by omega)
    have e := less_el hp (h1.rng i) hn (h2.rng i)
    rw [← el_subm (by omega)] at e
    rw [← s1]
    generalize (subm p n r o).take i ++ r.drop i = L at *
    have go : o.getD i 0 = el o i := rfl
    have wi : w6 ((i : Int) + 1) = ((i + 1 : Nat) : Int) := by rw [w6_id (by omega) (by omega)]; rfl
    simp (disch := omega) only [st173_8, ofn, dlt_t, cond_true, ib_t, tn_cast, deq_f, Bool.not_false, g1, go, e, wi]
  · rw [show (subm p n r o).take m ++ r.drop m = subm p n r o by rw [← l1, List.drop_length, List.append_nil, ← l3, List.take_length]]
    simp (disch := omega) only [st173_8, dlt_f, cond_false]
theorem run156 {p : Int} {m : Nat} {out : List (List Int)} {r : List Int} (hp : 2 ≤ p ∧ p ≤ 13) (hc : ∀ o ∈ out, Can p m o ∧ ld o < m) (hr : Can p m r) (hm : m ≤ 1000000) (ho : out.length ≤ 1000000) : fn173 cf91 cf157 (out.length + m + 1) (p, out, r, ()) = some (rest p out r, ()) := by
  simp only [fn173, ru173_3]
  rw [g91_ok (by rw [hr.len]; exact hm)]
  simp (disch := omega) only [dln_t, cond_true, ofn]
  have key := iter_run (step := fun s k => st173_3 cf91 cf157 (out.length + m + 1) s k (fun s' => match s' with | ((t0, _), (t2, _), (t14, _), (t15, _), (t16, _), _) => (some (t2, ())))) (r := some (rest p out r, ())) out.length (out.length + m + 1) (fun i => ((p, ()), ((rest p (out.take i) r, ()), ((out, ()), (((out.length : Int), ()), (((i : Int), ()), ())))))) (by omega) (fun i hi kk => ?_) (fun kk => ?_)
  · simpa [rest] using key
  · have ho1 : out.getD i [] = out[i] := by simp [List.getD_eq_getElem?_getD, List.getElem?_eq_getElem hi]
    have hmem : out[i] ∈ out := List.getElem_mem hi
    have co := (hc _ hmem).1
    have lo := (hc _ hmem).2
    have cr : Can p m (rest p (out.take i) r) := rest_can (by omega) (fun o h => (hc o (List.mem_of_mem_take h)).1) hr
    rw [show List.take (i + 1) out = List.take i out ++ [out[i]] from take_snoc hi, rest_snoc]
    generalize rest p (List.take i out) r = own at *
    generalize out[i] = o at *
    have g1 := g157_ok (l := o) (by rw [co.len]; exact hm)
    rw [ldI_lt co.len lo] at g1
    have lw := cr.len
    have lo2 := co.len
    have z := cr.rng (ld o)
    by_cases q : el own (ld o) = 0
    · have q' : own.getD (ld o) 0 = 0 := q
      rw [q, subm_zero cr co.len]
      simp (disch := omega) only [st173_3, cond_true, ofn, dlt_t, ib_t, tn_cast, ho1, g1, q', decide_true, Bool.not_true, cond_false, w6_id]
      rfl
    · have q' : own.getD (ld o) 0 ≠ 0 := q
      have li := less_in hp z cr co hm (F0 := out.length + m + 1) (F := out.length + m + 1) (by omega) (out := out) (a := (out.length : Int)) (b := (i : Int)) (kx := fun s' => match s' with | ((t0, _), (t2, _), (t9, _), (t14, _), (t15, _), (t16, _), (t27, _), (t28, _), (t29, _), _) => kk ((t0, ()), ((t2, ()), ((t14, ()), ((t15, ()), (((w6 (t16 + (1 : Int))), ()), ()))))))
      have ge : own.getD (ld o) 0 = el own (ld o) := rfl
      simp (disch := first | omega | exact q') only [st173_3, cond_true, ofn, dlt_t, ib_t, tn_cast, ho1, g1, deq_f, Bool.not_false, dln_t, lo2, ru173_8]
      rw [ge, li]
      simp (disch := omega) only [w6_id]
      rfl
  · rw [List.take_length]
    simp (disch := omega) only [st173_3, dlt_f, cond_false]
open Classical in
noncomputable def c156 (p : Int) (out : List (List Int)) (r : List Int) : Option (List Int × Unit) := if (2 ≤ p ∧ p ≤ 13) ∧ (∀ o ∈ out, Can p r.length o ∧ ld o < r.length) ∧ Can p r.length r ∧ r.length ≤ 1000000 ∧ out.length ≤ 1000000 then some (rest p out r, ()) else none
noncomputable def cf156 : G173 := fun x => c156 x.1 x.2.1 x.2.2.1
theorem k156 : KOne Tryz.prog 173 ⟨[.v i64, .v (.slice 44 (.slice 2 i64)), .v (.slice 2 i64)], [.slice 2 i64], true, false, 0, cf156⟩ := ok173 _ _ (.cons k91 (.cons k157 .nil)) cf156 fun x y h => by
  obtain ⟨p, out, r, _⟩ := x
  simp only [cf156, c156] at h
  split at h
  · rename_i hc
    injection h with h; subst h
    exact ⟨_, run156 hc.1 hc.2.1 hc.2.2.1 hc.2.2.2.1 hc.2.2.2.2⟩
  · cases h
theorem g156_ok {p : Int} {m : Nat} {out : List (List Int)} {r : List Int} (hp : 2 ≤ p ∧ p ≤ 13) (hc : ∀ o ∈ out, Can p m o ∧ ld o < m) (hr : Can p m r) (hm : m ≤ 1000000) (ho : out.length ≤ 1000000) : cf156 (p, out, r, ()) = some (rest p out r, ()) :=
  if_pos ⟨hp, by rw [hr.len]; exact hc, by rw [hr.len]; exact hr, by rw [hr.len]; exact hm, ho⟩
theorem scale_in {p c : Int} {m : Nat} {own : List Int} (hp : 2 ≤ p ∧ p ≤ 13) (hc : 0 ≤ c ∧ c < p) (h1 : Can p m own) (hm : m ≤ 1000000) {g156 : G173} {g79 : G201} {g157 : G172} {F0 F : Nat} (hF : m < F) {out : List (List Int)} {kx : ShVal sh224_7 → Option R224} :
    iter (fun s k => st224_7 g156 g79 g157 F0 s k kx) F ((p, ()), ((out, ()), ((own, ()), ((c, ()), (((m : Int), ()), (((0 : Int), ()), ())))))) =
      kx ((p, ()), ((out, ()), ((scl p c own, ()), ((c, ()), (((m : Int), ()), (((m : Int), ()), ())))))) := by
  have hl : (scl p c own).length = own.length := scl_len
  have lw := h1.len
  have key := iter_run (step := fun s k => st224_7 g156 g79 g157 F0 s k kx) (r := kx ((p, ()), ((out, ()), ((scl p c own, ()), ((c, ()), (((m : Int), ()), (((m : Int), ()), ())))))))
    m F (fun j => ((p, ()), ((out, ()), (((scl p c own).take j ++ own.drop j, ()), ((c, ()), (((m : Int), ()), (((j : Int), ()), ()))))))) hF (fun j hj k => ?_) (fun k => ?_)
  · simpa using key
  · have l1 := split_len (i := j) hl (by omega)
    have g1 := split_get (i := j) hl (by omega)
    have s1 := split_set (i := j) hl (by omega)
    have z := h1.rng j
    have z2 := sq_rng (p := p) (by omega) z.1 z.2 hc.1 hc.2
    have e : Int.tmod (w6 (el own j * c)) p = el (scl p c own) j := by rw [w6_id (by omega) (by omega), Int.tmod_eq_emod_of_nonneg z2.1, el_scl]
    rw [← s1]
    generalize (scl p c own).take j ++ own.drop j = L at *
    have wi : w6 ((j : Int) + 1) = ((j + 1 : Nat) : Int) := by rw [w6_id (by omega) (by omega)]; rfl
    simp (disch := omega) only [st224_7, cond_true, ofn, dlt_t, ib_t, tn_cast, deq_f, Bool.not_false, g1, e, wi]
  · rw [show (scl p c own).take m ++ own.drop m = scl p c own by rw [← lw, List.drop_length, List.append_nil, ← hl, List.take_length]]
    simp (disch := omega) only [st224_7, dlt_f, cond_false]
theorem split_getL {a b : List (List Int)} {i : Nat} (h : a.length = b.length) (hi : i < a.length) : (a.take i ++ b.drop i).getD i [] = b[i]'(by omega) := by
  simp only [List.getD_eq_getElem?_getD]
  rw [List.getElem?_append_right (by simp; omega), List.length_take, Nat.min_eq_left (by omega), List.getElem?_drop]
  simp [List.getElem?_eq_getElem (show i < b.length by omega)]
theorem split_setL {a b : List (List Int)} {i : Nat} (h : a.length = b.length) (hi : i < a.length) : (a.take i ++ b.drop i).set i a[i] = a.take (i + 1) ++ b.drop (i + 1) := by
  rw [take_snoc hi, List.set_append_right _ _ (by simp; omega)]
  rw [List.length_take, Nat.min_eq_left (by omega), Nat.sub_self, List.append_assoc]
  congr 1
  rw [List.drop_eq_getElem_cons (show i < b.length by omega)]
  rfl
theorem red_step {p : Int} {own o x : List Int} {L : List (List Int)} {n j : Nat} (hn : n ≤ 1000000) (hj : j < n) (l1 : L.length = n) (g1 : L.getD j [] = o) (g2 : cf156 (p, [own], o, ()) = some (x, ())) {F0 : Nat} {k kx : ShVal sh224_12 → Option R224} :
    st224_12 cf156 cf79 cf157 F0 ((p, ()), ((L, ()), ((own, ()), ((L, ()), (((n : Int), ()), (((j : Int), ()), ())))))) k kx = k ((p, ()), ((L.set j x, ()), ((own, ()), ((L.set j x, ()), (((n : Int), ()), ((((j + 1 : Nat) : Int), ()), ())))))) := by
  have wi : w6 ((j : Int) + 1) = ((j + 1 : Nat) : Int) := by rw [w6_id (by omega) (by omega)]; rfl
  simp (disch := omega) only [st224_12, cond_true, ofn, dlt_t, ib_t, tn_cast, g1, g2, wi]
theorem red_in {p : Int} {m at_ : Nat} {own : List Int} {out : List (List Int)} (hp : 2 ≤ p ∧ p ≤ 13) (ho : Can p m own) (hl : ld own = at_) (ht : at_ < m) (hc : ∀ o ∈ out, Can p m o) (hm : m ≤ 1000000) (hn : out.length ≤ 1000000) {F0 F : Nat} (hF : out.length < F) {kx : ShVal sh224_12 → Option R224} :
    iter (fun s k => st224_12 cf156 cf79 cf157 F0 s k kx) F ((p, ()), ((out, ()), ((own, ()), ((out, ()), (((out.length : Int), ()), (((0 : Int), ()), ())))))) =
      kx ((p, ()), ((out.map (red p own at_), ()), ((own, ()), ((out.map (red p own at_), ()), (((out.length : Int), ()), (((out.length : Int), ()), ())))))) := by
  have hlm : (out.map (red p own at_)).length = out.length := by simp
  have key := iter_run (step := fun s k => st224_12 cf156 cf79 cf157 F0 s k kx) (r := kx ((p, ()), ((out.map (red p own at_), ()), ((own, ()), ((out.map (red p own at_), ()), (((out.length : Int), ()), (((out.length : Int), ()), ())))))))
    out.length F (fun j => ((p, ()), (((out.map (red p own at_)).take j ++ out.drop j, ()), ((own, ()), (((out.map (red p own at_)).take j ++ out.drop j, ()), (((out.length : Int), ()), (((j : Int), ()), ()))))))) hF (fun j hj k => ?_) (fun k => ?_)
  · simpa using key
  · have l1 : ((out.map (red p own at_)).take j ++ out.drop j).length = out.length := by simp; omega
    have g1 := split_getL (i := j) hlm (by omega)
    have s1 := split_setL (i := j) hlm (by omega)
    have co := hc out[j] (List.getElem_mem hj)
    have g2 : cf156 (p, [own], out[j], ()) = some (red p own at_ out[j], ()) := by
      have := g156_ok (p := p) (out := [own]) (r := out[j]) hp (fun o h => by rw [List.mem_singleton.1 h]; exact ⟨ho, by rw [hl]; exact ht⟩) co hm (by simp)
      rw [this]
      simp only [rest, red, hl]
    have em : (out.map (red p own at_))[j]'(by simpa using hj) = red p own at_ out[j] := by simp
    rw [em] at s1
    rw [← s1]
    exact red_step (by omega) hj l1 g1 g2
  · rw [show (out.map (red p own at_)).take out.length ++ out.drop out.length = out.map (red p own at_) by rw [List.drop_length, List.append_nil, ← hlm, List.take_length]]
    simp (disch := omega) only [st224_12, dlt_f, cond_false]
theorem run172 {p : Int} {m : Nat} {out b : List (List Int)} {r : List Int} (hP : isP p = true) (hb : out.Perm b) (rr : RR p m b) (hr : Can p m r) (hm : m ≤ 1000000) (hn : out.length ≤ 500000) : fn224 cf156 cf79 cf157 (m + out.length + 1) (p, out, r, ()) = some (takeL p out r, ()) := by
  have hp := isP_pos hP
  have hc : ∀ o ∈ out, Can p m o ∧ ld o < m := fun o ho => ⟨rr.can o (hb.mem_iff.1 ho), rr.lt o (hb.mem_iff.1 ho)⟩
  have g1 := g156_ok (p := p) (out := out) (r := r) (by omega) hc hr hm (by omega)
  have cr : Can p m (rest p out r) := rest_can (by omega) (fun o h => (hc o h).1) hr
  have lr := cr.len
  simp only [fn224, g1]
  rw [g157_ok (by omega)]
  simp only
  unfold takeL
  by_cases q : ld (rest p out r) = (rest p out r).length
  · rw [if_pos q]
    simp (disch := omega) only [ldI, if_pos q, dlt_t, cond_true]
  · rw [if_neg q]
    have hle := ld_le (rest p out r)
    have w := own_of hP rr hr (by rw [← rest_perm (by omega) hb rr hr]; exact q)
    rw [← rest_perm (by omega) hb rr hr] at w
    have z := cr.rng (ld (rest p out r))
    have hne := ld_ne (rest p out r) (by omega)
    have hmod : el (rest p out r) (ld (rest p out r)) % p ≠ 0 := by rw [cr.mod]; exact hne
    obtain ⟨i1, i2⟩ := inv_ok hP hmod
    have g2 := g79_ok (p := p) (x := el (rest p out r) (ld (rest p out r))) (by omega) z
    have ge : (rest p out r).getD (ld (rest p out r)) 0 = el (rest p out r) (ld (rest p out r)) := rfl
    have e0 : ldI (rest p out r) = (ld (rest p out r) : Int) := ldI_of (by omega)
    simp (disch := omega) only [e0, dlt_f, cond_false, ib_t, ofn, tn_cast, cond_true, ge, g2, dln_t, lr, ru224_7]
    rw [scale_in (by omega) (by omega) cr hm (by omega)]
    simp (disch := omega) only [dln_t, cond_true, ofn, ru224_12]
    rw [red_in (by omega) w.can w.led w.lt (fun o ho => (hc o ho).1) hm (by omega) (by omega)]
    have ll : ((out.map (red p (scl p (inv p (el (rest p out r) (ld (rest p out r)))) (rest p out r)) (ld (rest p out r)))).length) = out.length := by simp
    simp (disch := omega) only [grow_t, ll, List.length_singleton, cond_true]
noncomputable def c172 (p : Int) (out : List (List Int)) (r : List Int) : Option (List (List Int) × Unit) := by
  classical exact if isP p = true ∧ (∃ b, out.Perm b ∧ RR p r.length b) ∧ Can p r.length r ∧ r.length ≤ 1000000 ∧ out.length ≤ 500000 then some (takeL p out r, ()) else none
noncomputable def cf172 : G224 := fun x => c172 x.1 x.2.1 x.2.2.1
theorem k172 : KOne Tryz.prog 224 ⟨[.v i64, .v (.slice 44 (.slice 2 i64)), .v (.slice 2 i64)], [.slice 44 (.slice 2 i64)], true, false, 2, cf172⟩ := ok224 _ _ _ (.cons k156 (.cons k79 (.cons k157 .nil))) cf172 fun x y h => by
  obtain ⟨p, out, r, _⟩ := x
  simp only [cf172, c172] at h
  split at h
  · rename_i hc
    injection h with h; subst h
    obtain ⟨h1, ⟨b, h2, h3⟩, h4, h5, h6⟩ := hc
    exact ⟨_, run172 h1 h2 h3 h4 h5 h6⟩
  · cases h
theorem g172_ok {p : Int} {m : Nat} {out b : List (List Int)} {r : List Int} (hP : isP p = true) (hb : out.Perm b) (rr : RR p m b) (hr : Can p m r) (hm : m ≤ 1000000) (hn : out.length ≤ 500000) : cf172 (p, out, r, ()) = some (takeL p out r, ()) :=
  if_pos ⟨hP, ⟨b, hb, by rw [hr.len]; exact rr⟩, by rw [hr.len]; exact hr, by rw [hr.len]; exact hm, hn⟩
def c174 (a b : List Int) : Option (Int × Unit) := if a.length ≤ 1000000 ∧ b.length ≤ 1000000 then some (ldI a - ldI b, ()) else none
def cf174 : G226 := fun x => c174 x.1 x.2.1
theorem ldI_rng {a : List Int} : -1 ≤ ldI a ∧ ldI a ≤ a.length := by
  have := ld_le a
  unfold ldI; split <;> omega
theorem k174 : KOne Tryz.prog 226 ⟨[.v (.slice 2 i64), .v (.slice 2 i64)], [i64], false, false, 0, cf174⟩ := ok226 _ (.cons k157 .nil) cf174 fun x y h => by
  obtain ⟨a, b, _⟩ := x
  simp only [cf174, c174] at h
  split at h
  · rename_i hc
    injection h with h; subst h
    have r1 := ldI_rng (a := a)
    have r2 := ldI_rng (a := b)
    refine ⟨0, ?_⟩
    simp only [fn226, g157_ok hc.1, g157_ok hc.2]
    rw [w6_id (by omega) (by omega)]
  · cases h
noncomputable def cf173 : G225 := by
  classical exact fun x => if x.1.length ≤ 1000000 ∧ (∀ r ∈ x.1, r.length ≤ 1000000) ∧ (x.1.map ldI).Nodup then some (sortK ldI x.1, ()) else none
theorem k173 : KOne Tryz.prog 225 ⟨[.v (.slice 44 (.slice 2 i64)), .fn 226], [.slice 44 (.slice 2 i64)], false, false, 1, cf173⟩ := by
  refine ⟨fun q => (by cases q), fun _ => ?_, fun q => (by cases q), Tryz.f225, Tryz.func225, by decide, rfl⟩
  have eg : ∀ args w, (callFunc 226 args).run Tryz.prog w = .ok (.enter 226 args) w := fun args w => by
    have := Tryz.func226
    simp only [callFunc, Sem.run_bind, run_program, Result.andThen_ok, this]
    rw [if_neg (by decide), if_neg (by decide)]; rfl
  exact sortRows_ok (ρ := Tryz.l225_ren) (good := fun r : List Int => r.length ≤ 1000000) (cf := fun a b : List Int => ldI a - ldI b) (key := ldI) (u := .slice 2 i64) Tryz.l225 rfl rfl (k174.ok rfl) (fun a b ha hb => if_pos ⟨ha, hb⟩) (fun a b _ _ => by omega) eg fun x y h => by
    simp only [cf173] at h
    split at h
    · rename_i hc
      injection h with h; subst h
      exact ⟨hc.1, hc.2.1, hc.2.2, rfl⟩
    · cases h
theorem g173_ok {l : List (List Int)} (h1 : l.length ≤ 1000000) (h2 : ∀ r ∈ l, r.length ≤ 1000000) (h3 : (l.map ldI).Nodup) : cf173 (l, (), ()) = some (sortK ldI l, ()) := if_pos ⟨h1, h2, h3⟩
theorem run145 {p : Int} {m : Nat} {rows : List (List Int)} (hP : isP p = true) (hr : ∀ r ∈ rows, Can p m r) (hm : m ≤ 1000000) (hn : rows.length ≤ 400000) : fn176 cf173 cf172 (rows.length + 1) (p, rows, ()) = some (ech p rows, ()) := by
  simp only [fn176, ru176_3]
  simp (disch := omega) only [dln_t, cond_true, ofn]
  have hp := isP_pos hP
  have key := iter_run (step := fun s k => st176_3 cf173 cf172 (rows.length + 1) s k (fun s' => match s' with | ((t0, _), (t5, _), (t9, _), (t10, _), (t11, _), _) => (match (cf173 (t5, ((), ()))) with | some r13 => (some ((bif ((Nat.beq 24 24) && ((Nat.beq 2 2) && true)) then r13.1 else []), ())) | none => none))) (r := some (ech p rows, ())) rows.length (rows.length + 1) (fun i => ((p, ()), (((rows.take i).foldl (takeL p) [], ()), ((rows, ()), (((rows.length : Int), ()), (((i : Int), ()), ())))))) (by omega) (fun i hi k => ?_) (fun k => ?_)
  · exact key
  · have ho1 : rows.getD i [] = rows[i] := by simp [List.getD_eq_getElem?_getD, List.getElem?_eq_getElem hi]
    have hcut : ∀ r ∈ rows.take i, Can p m r := fun r h => hr r (List.mem_of_mem_take h)
    have hpm : ((rows.take i).foldl (takeL p) []).Perm (ech p (rows.take i)) := fold_perm hP (.refl _) .nil hcut
    have hlen : ((rows.take i).foldl (takeL p) []).length ≤ i := by have := takes_len (p := p) (rows := rows.take i) (out := []); simp at this; omega
    have g := g172_ok hP hpm (ech_RR hP hcut) (hr rows[i] (List.getElem_mem hi)) hm (by omega)
    rw [show List.take (i + 1) rows = List.take i rows ++ [rows[i]] from take_snoc hi, List.foldl_append]
    simp only [List.foldl_cons, List.foldl_nil]
    generalize (rows.take i).foldl (takeL p) [] = L at *
    have wi : w6 ((i : Int) + 1) = ((i + 1 : Nat) : Int) := by rw [w6_id (by omega) (by omega)]; rfl
    simp (disch := omega) only [st176_3, cond_true, ofn, dlt_t, ib_t, tn_cast, ho1, g, wi]
  · rw [List.take_length]
    obtain ⟨e1, e2⟩ := sort_ech hP hr
    have hlen : (rows.foldl (takeL p) []).length ≤ rows.length := by have := takes_len (p := p) (rows := rows) (out := []); simpa using this
    have g := g173_ok (l := rows.foldl (takeL p) []) (by omega) (fun r h => by rw [(take_mem hP hr r h).1.len]; exact hm) e2
    rw [e1] at g
    simp (disch := omega) only [st176_3, dlt_f, cond_false, g]
    rfl
noncomputable def c145 (p : Int) (rows : List (List Int)) : Option (List (List Int) × Unit) := by
  classical exact if isP p = true ∧ (∃ m, m ≤ 1000000 ∧ ∀ r ∈ rows, Can p m r) ∧ rows.length ≤ 400000 then some (ech p rows, ()) else none
noncomputable def cf145 : G176 := fun x => c145 x.1 x.2.1
theorem k145 : KOne Tryz.prog 176 ⟨[.v i64, .v (.slice 44 (.slice 2 i64))], [.slice 44 (.slice 2 i64)], true, false, 0, cf145⟩ := ok176 _ _ (.cons k173 (.cons k172 .nil)) cf145 fun x y h => by
  obtain ⟨p, rows, _⟩ := x
  simp only [cf145, c145] at h
  split at h
  · rename_i hc
    injection h with h; subst h
    obtain ⟨h1, ⟨m, h2, h3⟩, h4⟩ := hc
    exact ⟨_, run145 h1 h3 h2 h4⟩
  · cases h
theorem g145_ok {p : Int} {m : Nat} {rows : List (List Int)} (hP : isP p = true) (hr : ∀ r ∈ rows, Can p m r) (hm : m ≤ 1000000) (hn : rows.length ≤ 400000) : cf145 (p, rows, ()) = some (ech p rows, ()) := if_pos ⟨hP, ⟨m, hm, hr⟩, hn⟩
end Go.Proofs.YtmdpmnjnpnjppaaGreatEv
