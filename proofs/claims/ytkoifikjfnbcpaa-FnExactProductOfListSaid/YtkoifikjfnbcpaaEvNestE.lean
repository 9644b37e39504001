/- laws.markPolyS: the walk. -/
import Derived.Test.YtkoifikjfnbcpaaEvNestD
set_option linter.unusedVariables false
set_option linter.unusedSimpArgs false
namespace Go.Proofs.YtkoifikjfnbcpaaEv
open Go Go.RowKit Go.Proofs

def foldM27 (g : G70h) : List poly.den → Int → Option (List poly.den × Int)
  | [], k => some ([], k)
  | x :: r, k => match g (x.2.2.1, wr1 (wr1 k), ()) with
    | some y => (match foldM27 g r y.2.1 with | some z => some ((k, wr1 k, y.1, ()) :: z.1, z.2) | none => none)
    | none => none

structure I27 (w0 : World) (ba : List Nat) (hd : Value) (g : G70h) (N : Nat) (y : List poly.den × Int) (a : Act) (w : World) (pre suf : List poly.den) (k : Int) (f : Nat → Value) : Prop where
  at_ : AtV 34 f a
  f0 : f 0 = hd
  f1 : f 1 = .int .i64 k
  f5 : f 5 = .int .i64 pre.length
  wk : (Lit.int .i64 k).wf = true
  nst : Nst w0 ba 58 poly hd (pre ++ suf) w
  len : (pre ++ suf).length = N
  run : ∃ z, foldM27 g suf k = some z ∧ (pre ++ z.1, z.2) = y

section
variable {w0 : World} {ba : List Nat} {hd : Value} {g : G70h} {N : Nat} {y : List poly.den × Int}

theorem reg27_8 {a : Act} {w : World} {pre suf : List poly.den} {x : poly.den} {k : Int} {f : Nat → Value} {yx : Ress [.slice 135 term, i64]} {Q : Exit → Act → World → Prop} (k70 : KOne Try.prog 70 ⟨[.v (.slice 135 term), .v i64], [.slice 135 term, i64], false, false, 1, g⟩)
    (hA : AtV 34 f a) (f0 : f 0 = hd) (f1 : f 1 = .int .i64 k) (f5 : f 5 = .int .i64 pre.length) (wk : (Lit.int .i64 k).wf = true)
    (n1 : Nst w0 ba 58 poly hd (pre ++ x :: suf) w) (hyx : g (x.2.2.1, k, ()) = some yx)
    (hQ : ∀ a' w' f', AtV 34 f' a' → f' 0 = hd → f' 1 = .int .i64 yx.2.1 → f' 5 = .int .i64 pre.length → (Lit.int .i64 yx.2.1).wf = true → Nst w0 ba 58 poly hd (pre ++ (x.1, x.2.1, yx.1, ()) :: suf) w' → Q .normal a' w') : (Code.region 8 (o27 8) false).wp Try.prog Q a w := by
  obtain ⟨b, o, cap, c, e', be, r1, r2, r3, r4, r5, r6, r7, r8, fin⟩ := n1.elem (by decide)
  have three : (poly).size = 3 := rfl
  rw [three] at r3 r4
  obtain ⟨v, c1, c2, c3, c4⟩ := rdPoly.1 r4
  have v4 := c4
  obtain ⟨v', blkv, bsv, v1, v2, v3⟩ := v4
  injection v1 with v1 _
  subst v1
  have hcv : c[o + pre.length * 3 + 2]? = some v := by
    have : ((c.toList.drop (o + pre.length * 3)).take 3)[2]? = some v := by rw [c1]; rfl
    rw [List.getElem?_take_of_lt (by omega), List.getElem?_drop, Array.getElem?_toList] at this
    exact this
  refine wp_region ?_
  rw [rg27_8]
  obtain ⟨o0, o0a, o0b, o0c, o0d⟩ := q27_8_0
  obtain ⟨o1, o1a, o1b, o1c, o1d⟩ := q27_8_1
  obtain ⟨o2, o2a, o2b, o2c, o2d⟩ := q27_8_2
  obtain ⟨o3, o3a, o3b, o3c, o3d⟩ := q27_8_3
  obtain ⟨o4, o4a, o4b, o4c, o4d⟩ := q27_8_4
  obtain ⟨o5, o5a, o5b, o5c, o5d⟩ := q27_8_5
  obtain ⟨of, cf, zf, f1a, f1b, f1e, f1f, f1g, f1c, f1d⟩ := q27_8_6
  obtain ⟨o7, o7a, o7b, o7c, o7d⟩ := q27_8_7
  refine wpOps_cons o0a o0d (upon_val (v := hd) (w' := w) (by simp only [execOp, o0b, show a.eval (.tmp 0) = hd from hA.ev.trans f0, Sem.run_pure]) ?_)
  rw [o0c]
  have p1 := hA.put (d := 26) (by omega) hd
  generalize a.put (some 26) hd = a2 at p1 ⊢
  refine wpOps_cons o1a o1d (upon_val (v := .int .i64 pre.length) (w' := w) (by simp only [execOp, o1b, show a2.eval (.tmp 5) = .int .i64 pre.length from p1.ev.trans f5, Sem.run_pure]) ?_)
  rw [o1c]
  have p2 := p1.put (d := 27) (by omega) (.int .i64 pre.length)
  generalize a2.put (some 27) (.int .i64 pre.length) = a3 at p2 ⊢
  have ri := run_indexS (P := Try.prog) tt_ok (tt_ok 37 polys (by kernel_rfl)) (w := w) (b := b) (o := o) (m := (pre ++ x :: suf).length) (cap := cap) (kk := .i64) (i := pre.length) (by simp)
  rw [three, ← r1] at ri
  refine wpOps_cons o2a o2d (upon_val (v := .pointer (some ⟨b, o + pre.length * 3, none⟩)) (w' := w) (by
    simp only [execOp, o2b, show a3.eval (.tmp 26) = hd from p2.ev, show a3.eval (.tmp 27) = .int .i64 pre.length from p2.ev, Sem.run_bind, ri, Result.andThen_ok, Sem.run_pure]) ?_)
  rw [o2c]
  have p3 := p2.put (d := 28) (by omega) (.pointer (some ⟨b, o + pre.length * 3, none⟩))
  generalize a3.put (some 28) (.pointer (some ⟨b, o + pre.length * 3, none⟩)) = a4 at p3 ⊢
  have rf := run_fieldAt (P := Try.prog) (w := w) (b := b) (o := o + pre.length * 3) (j := 2) (u := .slice 135 term) tt_ok (tt_ok 58 poly (by kernel_rfl)) rfl rfl
  rw [show poff poly [.fld 2] = 2 from rfl] at rf
  refine wpOps_cons o3a o3d (upon_val (v := .pointer (some ⟨b, o + pre.length * 3 + 2, none⟩)) (w' := w) (by
    simp only [execOp, o3b, show a4.eval (.tmp 28) = .pointer (some ⟨b, o + pre.length * 3, none⟩) from p3.ev, Sem.run_bind, rf, Result.andThen_ok, Sem.run_pure]) ?_)
  rw [o3c]
  have p4 := p3.put (d := 29) (by omega) (.pointer (some ⟨b, o + pre.length * 3 + 2, none⟩))
  generalize a4.put (some 29) (.pointer (some ⟨b, o + pre.length * 3 + 2, none⟩)) = a5 at p4 ⊢
  have rl := run_loadS (P := Try.prog) (tt_ok 56 (.slice 135 term) (by kernel_rfl)) (w := w) (b := b) (o := o + pre.length * 3 + 2) r2 hcv
  refine wpOps_cons o4a o4d (upon_val (v := v) (w' := w) (by
    simp only [execOp, o4b, show a5.eval (.tmp 29) = .pointer (some ⟨b, o + pre.length * 3 + 2, none⟩) from p4.ev, Sem.run_bind, rl, Result.andThen_ok, Sem.run_pure]) ?_)
  rw [o4c]
  have p5 := p4.put (d := 30) (by omega) v
  generalize a5.put (some 30) v = a6 at p5 ⊢
  refine wpOps_cons o5a o5d (upon_val (v := .int .i64 k) (w' := w) (by simp only [execOp, o5b, show a6.eval (.tmp 1) = .int .i64 k from p5.ev.trans f1, Sem.run_pure]) ?_)
  rw [o5c]
  have p6 := p5.put (d := 31) (by omega) (.int .i64 k)
  generalize a6.put (some 31) (.int .i64 k) = a7 at p6 ⊢
  obtain ⟨fn, h1, h2, h3⟩ := k70.fn
  refine wpOps_cons f1a f1d ?_
  unfold Oper.wp
  rw [run_enter2 f1b f1e (isF_ev f1f a7) f1g h1 h2 h3]
  simp only [Oper.upon]
  have e15 : a7.eval (.tmp 30) = v := p6.ev
  have e16 : a7.eval (.tmp 31) = .int .i64 k := p6.ev
  rw [e15, e16]
  have hcvv : v.cells = #[v] := by
    rcases v2 with ⟨p, q, _⟩ | ⟨_, _, _, _, _, q, _⟩ <;> rw [q] <;> rfl
  have hone : OneV w.heap (.slice 135 term) x.2.2.1 v be := ⟨⟨v, blkv, bsv, by rw [hcvv], v2, v3⟩, fun q => (by cases q), fun _ => hcvv⟩
  have hav : ArgsV w.heap [.v (.slice 135 term), .v i64] (x.2.2.1, k, ()) [v, .int .i64 k] be :=
    ⟨_, _, be, [], rfl, by simp, hone, _, _, [], [], rfl, rfl, one_int wk, rfl, rfl⟩
  have call := k70.inp rfl (x.2.2.1, k, ()) yx hyx w _ be hav r5 (fun b hb => n1.wr b (r6 b hb))
  refine call.mono ?_
  rintro ee w2 ⟨v0', rv, bf, z1, rfl, z2, ⟨zn, zs⟩, z3, z4, z5, z6, z7, z8⟩
  simp only [List.head?_cons, Option.some.injEq] at z1
  subst z1
  obtain ⟨u1, ur, ub1, ub2, y1, y2, _, y3, y4⟩ := z2
  simp only [List.cons.injEq] at y1
  obtain ⟨y1a, y1b⟩ := y1
  subst y1a; subst y1b
  obtain ⟨u2, ur2, ub3, ub4, y5, y6, _, y7, y8⟩ := y3
  obtain ⟨y7a, y7b⟩ := y7
  subst y7a; subst y5; subst y7b; subst y8; subst y4
  have hk2 : u2 = .int .i64 yx.2.1 ∧ (Lit.int .i64 yx.2.1).wf = true ∧ ub3 = [] := by
    obtain ⟨⟨c1, c2, c3⟩, _, c4⟩ := y6
    rw [c4 rfl] at c1
    exact ⟨by simpa using c1, c2, c3⟩
  obtain ⟨hk2, wk2, hb3⟩ := hk2
  subst hk2; subst hb3
  simp only [List.append_nil] at zn zs
  show wpOps _ _ _ _ _ _
  rw [f1c]
  show wpOps _ _ _ _ (a7.put (some 32) (.int .i64 yx.2.1)) _
  have p7 := p6.put (d := 32) (by omega) (.int .i64 yx.2.1)
  generalize a7.put (some 32) (.int .i64 yx.2.1) = a8 at p7 ⊢
  refine wpOps_cons o7a o7d (upon_val (v := .int .i64 yx.2.1) (w' := w2) (by simp only [execOp, o7b, show a8.eval (.tmp 32) = .int .i64 yx.2.1 from p7.ev, Sem.run_pure]) ?_)
  rw [o7c]
  have p8 := p7.put (d := 1) (by omega) (.int .i64 yx.2.1)
  generalize a8.put (some 1) (.int .i64 yx.2.1) = a9 at p8 ⊢
  have hb2 : w2.heap[b]? = some (.cells c e' (0, 0)) := by
    rw [z7 b (Nat.lt_of_lt_of_le (n1.lt b r8) n1.size) r7]; exact r2
  have n2 : Nst w0 ba 58 poly hd (pre ++ (x.1, x.2.1, yx.1, ()) :: suf) w2 := by
    refine fin w2 (x.1, x.2.1, yx.1, ()) c ub1 hb2 rfl (fun _ _ => rfl) ?_ zn zs z3 z4 z5 z6 (fun z hz hn _ => z7 z hz hn) z8
    rw [three, c1]
    obtain ⟨⟨hd3, blk3, bs3, w1', w2', w3'⟩, _, _⟩ := y2
    rw [hcvv] at w1'
    exact rdPoly.2 ⟨v, rfl, c2, c3, hd3, blk3, bs3, w1', w2', w3'⟩
  exact hQ a9 w2 _ p8 (show _ = hd from f0) (show _ = Value.int .i64 yx.2.1 from rfl) (show _ = Value.int .i64 (pre.length : Int) from f5) wk2 n2

theorem round27 {a : Act} {w : World} {pre suf : List poly.den} {k : Int} {f : Nat → Value} {Q : Exit → Act → World → Prop} (k70 : KOne Try.prog 70 ⟨[.v (.slice 135 term), .v i64], [.slice 135 term, i64], false, false, 1, g⟩) (hN : N ≤ 100000000)
    (I : I27 w0 ba hd g N y a w pre suf k f) (hQ : ∀ a' w' f', AtV 34 f' a' → f' 0 = hd → f' 1 = .int .i64 y.2 → (Lit.int .i64 y.2).wf = true → Nst w0 ba 58 poly hd y.1 w' → (∃ i, f' 5 = .int .i64 i ∧ (Lit.int .i64 i).wf = true) → Q (.exit 0) a' w') :
    loop27.wp Try.prog (Exit.then (fun a' w' => (∃ pre suf k f, I27 w0 ba hd g N y a' w' pre suf k f) ∧ mu28 N a' < mu28 N a) Q) a w := by
  have hl := I.len
  simp only [List.length_append] at hl
  have wi : (Lit.int .i64 (pre.length : Int)).wf = true := wf_i (by omega) (by omega)
  have st := rawSt I.at_ I.f0 I.f1 I.f5 I.wk wi I.nst
  have hlen : decide (List.length (pre ++ suf) ≤ 9223372036854775807) = true := decide_eq_true (by rw [List.length_append]; omega)
  refine wp_seq (wp_seq (ev_wp (A := fun b => b ∈ ba) (ks := [0, 1, 5, 9]) mixed tt_ok KOK.nil (fun b hb => (by cases hb)) (oc27 2 (by simp) hd) trivial ((e27c (pre ++ suf) k pre.length).trans (by rw [hlen]; rfl)) st rfl fun a1 w1 g1 st1 A1 => ?_))
  have t0 : a1.tmps.getD 0 undef = hd := st1.sz.2 rfl
  have t1 : a1.tmps.getD 1 undef = .int .i64 k := (asI_inv (st1.ent 1) rfl).1
  have t5 : a1.tmps.getD 5 undef = .int .i64 pre.length := (asI_inv (st1.ent 5) rfl).1
  have t9 : a1.eval (.tmp 9) = .bool (decide ((pre.length : Int) < Int.ofNat (pre ++ suf).length)) := by
    have : EntR g1 w1.heap 9 (boolE (decide ((pre.length : Int) < Int.ofNat (pre ++ suf).length))) (a1.tmps.getD 9 undef) := st1.ent 9
    obtain ⟨bs4, hl4, _⟩ := val1 this
    obtain ⟨⟨z, _⟩, _⟩ := hl4
    injection z
  have n1 := I.nst.of_St st1
  have at1 : AtV 34 _ a1 := st1.atV
  show Code.wp _ _ _ _ _
  cases suf with
  | nil =>
    have t9 : a1.eval (.tmp 9) = .bool false := by rw [t9]; congr 1; exact decide_eq_false (by simp)
    refine wp_cond (t := false) t9 (wp_exit ?_)
    obtain ⟨z, hz, hy⟩ := I.run
    simp only [foldM27, Option.some.injEq] at hz
    subst hz
    subst hy
    rw [List.append_nil] at n1
    exact hQ a1 w1 _ at1 t0 t1 I.wk (by show Nst w0 ba 58 poly hd (pre ++ []) w1; rw [List.append_nil]; exact n1) ⟨_, t5, wi⟩
  | cons x suf =>
    have t9 : a1.eval (.tmp 9) = .bool true := by rw [t9]; congr 1; exact decide_eq_true (by simp; omega)
    refine wp_cond (t := true) t9 (wp_skip ?_)
    show Code.wp _ _ _ _ _
    obtain ⟨z, hz, hy⟩ := I.run
    simp only [foldM27] at hz
    split at hz
    · rename_i yx hyx
      split at hz
      · rename_i zr hzr
        injection hz with hz; subst hz
        have w1k : (Lit.int .i64 (wr1 k)).wf = true := wrap_wf _ _
        have w2k : (Lit.int .i64 (wr1 (wr1 k))).wf = true := wrap_wf _ _
        refine wp_seq (wp_block (wp_seq (reg27_4 at1 t0 t1 t5 I.wk n1 fun b1 u1 h1 bt1 bf0 bf1 bf5 m1 => ?_)))
        show Code.wp _ _ _ _ _
        have sa := rawSt bt1 bf0 bf1 bf5 I.wk wi m1
        refine wp_seq (ev_wp (A := fun b => b ∈ ba) (ks := [0, 1, 5]) mixed tt_ok KOK.nil (fun b hb => (by cases hb)) (oc27 5 (by simp) hd) trivial (e27f _ k pre.length) sa rfl fun b2 u2 h2 sb B2 => ?_)
        show Code.wp _ _ _ _ _
        refine wp_seq (reg27_6 (sb.atV : AtV 34 _ b2) (sb.sz.2 rfl) (asI_inv (sb.ent 1) rfl).1 (asI_inv (sb.ent 5) rfl).1 w1k (m1.of_St sb) fun b3 u3 h3 bt3 cf0 cf1 cf5 m3 => ?_)
        show Code.wp _ _ _ _ _
        have sc := rawSt bt3 cf0 cf1 cf5 w1k wi m3
        refine wp_seq (ev_wp (A := fun b => b ∈ ba) (ks := [0, 1, 5]) mixed tt_ok KOK.nil (fun b hb => (by cases hb)) (oc27 7 (by simp) hd) trivial (e27g _ (wr1 k) pre.length) sc rfl fun b4 u4 h4 sd B4 => ?_)
        show Code.wp _ _ _ _ _
        refine reg27_8 (x := setF 1 (setF 0 x k) (wr1 k)) k70 (sd.atV : AtV 34 _ b4) (sd.sz.2 rfl) (asI_inv (sd.ent 1) rfl).1 (asI_inv (sd.ent 5) rfl).1 w2k (m3.of_St sd) hyx fun a8 w2 h5 p7 df0 df1 df5 wk2 n2 => ?_
        show Code.wp _ _ _ _ _
        have st2 := rawSt p7 df0 df1 df5 wk2 wi n2
        refine ev_wp (A := fun b => b ∈ ba) (ks := [0, 1, 5]) mixed tt_ok KOK.nil (fun b hb => (by cases hb)) (oc27 3 (by simp) hd) trivial (e27d _ yx.2.1 pre.length) st2 rfl fun a9 w9 g9 st9 A9 => ?_
        have s0 : a9.tmps.getD 0 undef = hd := st9.sz.2 rfl
        have s1 : a9.tmps.getD 1 undef = .int .i64 yx.2.1 := (asI_inv (st9.ent 1) rfl).1
        have s5 : a9.tmps.getD 5 undef = .int .i64 (IntKind.i64.wrap (pre.length + 1)) := (asI_inv (st9.ent 5) rfl).1
        have hwr : IntKind.i64.wrap ((pre.length : Int) + 1) = ((pre.length + 1 : Nat) : Int) := by
          simp only [List.length_cons] at hl
          simp [IntKind.wrap, IntKind.bits, IntKind.signed]; split <;> omega
        rw [hwr] at s5
        have n9 := n2.of_St st9
        simp only [List.length_cons] at hl
        refine ⟨⟨pre ++ [(k, wr1 k, yx.1, ())], suf, yx.2.1, _, st9.atV, s0, s1, ?_, wk2, ?_, ?_, zr, hzr, ?_⟩, ?_⟩
        · show a9.tmps.getD 5 undef = _
          rw [s5]; simp
        · rw [List.append_assoc]; exact n9
        · simp; omega
        · rw [← hy]; simp
        · have : mu28 N a = N - pre.length := by
            unfold mu28
            rw [I.at_.at_, I.f5]; simp only; omega
          have m9 : mu28 N a9 = N - (pre.length + 1) := by unfold mu28; rw [s5]; simp only; omega
          rw [this, m9]; omega
      · cases hz
    · cases hz


theorem one27 {cf : G27h} (k70 : KOne Try.prog 70 ⟨[.v (.slice 135 term), .v i64], [.slice 135 term, i64], false, false, 1, g⟩)
    (h : ∀ x y, cf x = some y → (show List poly.den from x.1).length ≤ 100000000 ∧ ∃ z, foldM27 g x.1 x.2.1 = some z ∧ y = (z.1, z.2, ())) : KOne Try.prog 27 ⟨[.v polys, .v i64], [polys, i64], false, false, 1, cf⟩ := by
  refine ⟨fun q => (by cases q), fun _ => ?_, fun q => (by cases q), Try.f27, Try.func27, by decide, rfl⟩
  intro x y hxy w vs ba hv hnd hw
  obtain ⟨L, k, _⟩ := x
  obtain ⟨hN, z, hz, rfl⟩ := h _ _ hxy
  replace hN : List.length (show List poly.den from L) ≤ 100000000 := hN
  have hv0 := hv
  obtain ⟨v0, r1, b1, b2, rfl, rfl, o1, v1, r2, b3, b4, rfl, rfl, o2, rfl, rfl⟩ := hv
  have hv1 : v1 = .int .i64 k ∧ (Lit.int .i64 k).wf = true ∧ b3 = [] := by
    obtain ⟨⟨c1, c2, c3⟩, _, c4⟩ := o2
    rw [c4 rfl] at c1
    exact ⟨by simpa using c1, c2, c3⟩
  obtain ⟨rfl, wk, rfl⟩ := hv1
  simp only [List.append_nil] at hnd hw hv0 ⊢
  obtain ⟨⟨hd, blk, bs, z1, z2, z3⟩, _, z4⟩ := o1
  have hc := z4 rfl
  have eh : hd = v0 := by rw [hc] at z1; injection z1 with z1 _; exact z1.symm
  subst eh
  have lt : ∀ b ∈ b1, b < w.heap.size := fun b hb => by
    obtain ⟨c, e, q⟩ := hw b hb
    rcases Nat.lt_or_ge b w.heap.size with q' | q'
    · exact q'
    · rw [Array.getElem?_eq_none q'] at q; cases q
  have n0 : Nst w b1 58 poly hd L w := ⟨⟨blk, bs, z2, by rw [← z3]; exact hnd, by rw [← z3]; exact fun z hz => hz⟩, rfl, Tp.refl, rfl, Nat.le_refl _, fun _ _ _ => rfl, hw, lt⟩
  have st0 := init_St (n := Try.f27.ntmps) hv0 (by rw [nt27]; decide)
  refine calls_of_wp Try.func27 sk27 ?_
  have stk : St ⟨34, true, hd⟩ w (fun _ => False) (gh0 w [hd, .int .i64 k] b1) (initEnv 0 [.v polys, .v i64] (L, k, ())).get { tmps := [hd, .int .i64 k].toArray ++ Array.replicate (Try.f27.ntmps - [hd, .int .i64 k].toArray.size) undef, defers := [] } w :=
    ⟨st0.inv, st0.ent, ⟨st0.sz.1.trans nt27, fun _ => by rw [Array.getD_eq_getD_getElem?, Array.getElem?_append_left (by simp)]; rfl⟩, st0.df, st0.os, st0.tape, st0.output⟩
  refine wp_seq (ev_wp (A := fun b => b ∈ b1) (ks := [0, 1]) mixed tt_ok KOK.nil (fun b hb => (by cases hb)) (oc27 0 (by simp) hd) trivial (e27a L k) stk rfl fun a1 w1 g1 st1 A1 => ?_)
  show Code.wp _ _ _ _ _
  refine wp_seq (wp_seq (ev_wp (A := fun b => b ∈ b1) (ks := [0, 1, 5]) mixed tt_ok KOK.nil (fun b hb => (by cases hb)) (oc27 1 (by simp) hd) trivial (e27b L k) st1 A1 fun a2 w2 g2 st2 A2 => ?_))
  show Code.wp _ _ _ _ _
  have n2 := n0.of_St st2
  have at2 : AtV 34 _ a2 := st2.atV
  have t0 : a2.tmps.getD 0 undef = hd := st2.sz.2 rfl
  have t1 : a2.tmps.getD 1 undef = .int .i64 k := (asI_inv (st2.ent 1) rfl).1
  have t5 : a2.tmps.getD 5 undef = .int .i64 0 := (asI_inv (st2.ent 5) rfl).1
  refine wp_block (wp_loop (fun a' w' => ∃ pre suf k f, I27 w b1 hd g (List.length (show List poly.den from L)) z a' w' pre suf k f) (fun a' _ => mu28 (List.length (show List poly.den from L)) a') ⟨[], L, k, _, at2, t0, t1, t5, wk, n2, rfl, z, hz, rfl⟩ fun a3 w3 hI => ?_)
  obtain ⟨pre, suf, k3, f3, I⟩ := hI
  refine round27 k70 hN I fun a4 w4 f4 at4 s0 s1 wk4 n4 s5 => ?_
  obtain ⟨i, s5, wi⟩ := s5
  show Code.wp _ _ _ _ _
  have st4 := rawSt at4 s0 s1 s5 wk4 wi n4
  refine wp_seq (ev_wp (A := fun b => b ∈ b1) (ks := [0, 1, 4]) mixed tt_ok KOK.nil (fun b hb => (by cases hb)) (oc27 9 (by simp) hd) trivial (e27e z.1 z.2 i) st4 rfl fun a5 w5 g5 st5 A5 => ?_)
  show Code.wp _ _ _ _ _
  have n5 := n4.of_St st5
  have u4 : a5.tmps.getD 4 undef = .int .i64 z.2 := (asI_inv (st5.ent 4) rfl).1
  refine wp_ret ?_
  have hres : (Try.f27.results.toList.mapM (resOne a5.tmps)).run Try.prog w5 = .ok [.int .i64 z.2] w5 := by rw [rs27, ← u4]; rfl
  refine ⟨st5.df, _, results_run hres, ?_⟩
  obtain ⟨blk5, bs5, y1, y2, y3⟩ := n5.rd
  exact ⟨hd, [.int .i64 z.2], blk5.toList ++ bs5, rfl, rfl, ⟨hd, _, _, [], rfl, ⟨⟨hd, blk5, bs5, by rw [hc], y1, rfl⟩, fun q => (by cases q), fun _ => hc⟩, fun q => (by cases q), ⟨_, [], [], [], rfl, one_int wk4, fun q => (by cases q), ⟨rfl, rfl⟩, rfl⟩, by simp⟩,
    ⟨y2, y3⟩, n5.os, n5.tp, n5.out, n5.size, n5.old, n5.wr⟩

end
end Go.Proofs.YtkoifikjfnbcpaaEv
