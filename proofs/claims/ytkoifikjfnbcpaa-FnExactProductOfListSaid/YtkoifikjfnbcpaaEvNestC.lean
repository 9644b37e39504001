/- laws.markInt64SS: the walk. -/
import Derived.Test.YtkoifikjfnbcpaaEvNestB
set_option linter.unusedVariables false
set_option linter.unusedSimpArgs false
namespace Go.Proofs.YtkoifikjfnbcpaaEv
open Go Go.RowKit Go.Proofs

def callOf (o : Oper) : Option Call := match o.op with | .call c => some c | _ => none
def valOf (c : Callee) : Option Operand := match c with | .value z => some z | _ => none
noncomputable def o28_5 : Oper := ((o28 4)[5]?).get (by kernel_rfl)
noncomputable def c28_5 : Call := (callOf o28_5).get (by kernel_rfl)
noncomputable def z28_5 : Operand := (valOf c28_5.callee).get (by kernel_rfl)
def isF (f : Nat) : Operand → Bool
  | .func g => Nat.beq g f
  | _ => false
theorem isF_ev {f : Nat} {x : Operand} (h : isF f x = true) (a : Act) : a.eval x = .func (.func f) #[] #[] := by
  unfold isF at h
  split at h
  · rw [Nat.eq_of_beq_eq_true h]; rfl
  · cases h

theorem q28_0 : ∃ o, (o28 4)[0]? = some o ∧ o.op = .move (.tmp 0) ∧ o.dst = some 12 ∧ o.guard = none := ⟨((o28 4)[0]?).get (by kernel_rfl), (Option.some_get _).symm, by kernel_rfl, by kernel_rfl, by kernel_rfl⟩
theorem q28_1 : ∃ o, (o28 4)[1]? = some o ∧ o.op = .move (.tmp 5) ∧ o.dst = some 13 ∧ o.guard = none := ⟨((o28 4)[1]?).get (by kernel_rfl), (Option.some_get _).symm, by kernel_rfl, by kernel_rfl, by kernel_rfl⟩
theorem q28_2 : ∃ o, (o28 4)[2]? = some o ∧ o.op = .indexAddr 34 (.tmp 12) (.tmp 13) ∧ o.dst = some 14 ∧ o.guard = none := ⟨((o28 4)[2]?).get (by kernel_rfl), (Option.some_get _).symm, by kernel_rfl, by kernel_rfl, by kernel_rfl⟩
theorem q28_3 : ∃ o, (o28 4)[3]? = some o ∧ o.op = .load 24 (.tmp 14) ∧ o.dst = some 15 ∧ o.guard = none := ⟨((o28 4)[3]?).get (by kernel_rfl), (Option.some_get _).symm, by kernel_rfl, by kernel_rfl, by kernel_rfl⟩
theorem q28_4 : ∃ o, (o28 4)[4]? = some o ∧ o.op = .move (.tmp 1) ∧ o.dst = some 16 ∧ o.guard = none := ⟨((o28 4)[4]?).get (by kernel_rfl), (Option.some_get _).symm, by kernel_rfl, by kernel_rfl, by kernel_rfl⟩
theorem q28_5 : ∃ o c z, (o28 4)[5]? = some o ∧ o.op = .call c ∧ c.callee = .value z ∧ isF 19 z = true ∧ c.args.toList = [.tmp 15, .tmp 16] ∧ o.dst = some 17 ∧ o.guard = none :=
  ⟨o28_5, c28_5, z28_5, (Option.some_get _).symm, by kernel_rfl, by kernel_rfl, by kernel_rfl, by kernel_rfl, by kernel_rfl, by kernel_rfl⟩
theorem q28_6 : ∃ o, (o28 4)[6]? = some o ∧ o.op = .assign (.tmp 17) ∧ o.dst = some 1 ∧ o.guard = none := ⟨((o28 4)[6]?).get (by kernel_rfl), (Option.some_get _).symm, by kernel_rfl, by kernel_rfl, by kernel_rfl⟩

def foldM28 (g : G19h) : List (List Int) → Int → Option (List (List Int) × Int)
  | [], k => some ([], k)
  | x :: r, k => match g (x, k, ()) with
    | some y => (match foldM28 g r y.2.1 with | some z => some (y.1 :: z.1, z.2) | none => none)
    | none => none

structure I28 (w0 : World) (ba : List Nat) (hd : Value) (g : G19h) (N : Nat) (y : List (List Int) × Int) (a : Act) (w : World) (pre suf : List (List Int)) (k : Int) (f : Nat → Value) : Prop where
  at_ : AtV 19 f a
  f0 : f 0 = hd
  f1 : f 1 = .int .i64 k
  f5 : f 5 = .int .i64 pre.length
  wk : (Lit.int .i64 k).wf = true
  nst : Nst w0 ba 24 (.slice 2 i64) hd (pre ++ suf) w
  len : (pre ++ suf).length = N
  run : ∃ z, foldM28 g suf k = some z ∧ (pre ++ z.1, z.2) = y

theorem wf_i {i : Int} (h0 : 0 ≤ i) (h1 : i ≤ 1000000000000) : (Lit.int .i64 i).wf = true := by
  simp [Lit.wf, IntKind.min, IntKind.max, IntKind.bits, IntKind.signed]; omega

section
variable {w0 : World} {ba : List Nat} {hd : Value} {g : G19h} {N : Nat} {y : List (List Int) × Int}

theorem rawSt {e : TypeId} {u : Ty} {L : List u.den} {a : Act} {w : World} {n : Nat} {f : Nat → Value} {k i : Int} (h : AtV n f a) (f0 : f 0 = hd) (f1 : f 1 = .int .i64 k) (f5 : f 5 = .int .i64 i) (wk : (Lit.int .i64 k).wf = true) (wi : (Lit.int .i64 i).wf = true)
    (nst : Nst w0 ba e u hd L w) : St ⟨n, true, hd⟩ w (fun _ => False) (gh0 w [] ba) (Env.get [(0, .val false [.fz (.slice e u) 0 true L]), (1, intE .i64 k), (5, intE .i64 i)]) a w where
  inv := by
    refine ⟨Nat.le_refl _, fun b _ _ => rfl, fun b => ?_, fun b hb => ?_, fun b hb => ?_, fun b hb => absurd rfl hb, fun b hb => absurd rfl hb⟩
    · simp only [gh0]
      split
      · exact .inl rfl
      · exact .inr (.inl rfl)
    · simp only [gh0] at hb
      split at hb
      · cases hb
      · rename_i h; exact Nat.lt_of_not_le fun q => h (.inl q)
    · simp only [gh0] at hb
      split at hb
      · rename_i h; exact h
      · cases hb
  ent := by
    intro s
    rw [h.at_]
    simp only [Env.get]
    cases q0 : Nat.beq 0 s with
    | true =>
      have := Nat.eq_of_beq_eq_true q0; subst this
      rw [cond_true, f0]
      obtain ⟨blk, bs, h1, h2, h3⟩ := nst.rd
      have hc : hd.cells = #[hd] := by
        rcases h1 with ⟨p, q, _⟩ | ⟨_, _, _, _, _, q, _⟩ <;> rw [q] <;> rfl
      refine LeafB.val1 (l := .fz (.slice e u) 0 true L) (bs := blk.toList ++ bs) ⟨⟨hd, blk, bs, rfl, h1, rfl⟩, fun b hb => ?_, fun q => absurd rfl q, fun _ => ⟨fun q => absurd rfl q, fun _ _ _ => rfl⟩⟩ hc 0
      simp only [gh0]; rw [if_pos (.inr (h3 b hb))]
    | false =>
      rw [cond_false]
      cases q1 : Nat.beq 1 s with
      | true =>
        have := Nat.eq_of_beq_eq_true q1; subst this
        rw [cond_true, f1]; exact intE_sound wk
      | false =>
        rw [cond_false]
        cases q5 : Nat.beq 5 s with
        | true =>
          have := Nat.eq_of_beq_eq_true q5; subst this
          rw [cond_true, f5]; exact intE_sound wi
        | false => trivial
  sz := ⟨h.sz, fun _ => by rw [h.at_]; exact f0⟩
  df := h.df
  os := rfl
  tape := Tp.refl
  output := rfl

theorem St.atV {W : Nat → Prop} {n : NS} {w w' : World} {gg : Gh} {env : Nat → Ent} {a : Act} (st : St n w W gg env a w') : AtV n.n (fun s => a.tmps.getD s Go.undef) a := ⟨st.sz.1, st.df, fun _ => rfl⟩
theorem Nst.of_St {e : TypeId} {u : Ty} {L : List u.den} {n : NS} {w w' : World} {gg : Gh} {env : Nat → Ent} {a : Act} (h : Nst w0 ba e u hd L w) (st : St n w (fun _ => False) gg env a w') : Nst w0 ba e u hd L w' :=
  h.ext st.os st.tape st.output st.inv.size fun b hb => st.inv.old b hb (fun q => q)

def mu28 (N : Nat) (a : Act) : Nat := match a.tmps.getD 5 undef with | .int _ i => (N - i).toNat | _ => 0

theorem round28 {a : Act} {w : World} {pre suf : List (List Int)} {k : Int} {f : Nat → Value} {Q : Exit → Act → World → Prop} (k19 : KOne Try.prog 19 ⟨[.v (.slice 2 i64), .v i64], [.slice 2 i64, i64], false, false, 1, g⟩) (hN : N ≤ 100000000)
    (I : I28 w0 ba hd g N y a w pre suf k f) (hQ : ∀ a' w' f', AtV 19 f' a' → f' 0 = hd → f' 1 = .int .i64 y.2 → (Lit.int .i64 y.2).wf = true → Nst w0 ba 24 (.slice 2 i64) hd y.1 w' → (∃ i, f' 5 = .int .i64 i ∧ (Lit.int .i64 i).wf = true) → Q (.exit 0) a' w') :
    loop28.wp Try.prog (Exit.then (fun a' w' => (∃ pre suf k f, I28 w0 ba hd g N y a' w' pre suf k f) ∧ mu28 N a' < mu28 N a) Q) a w := by
  have hl := I.len
  simp only [List.length_append] at hl
  have wi : (Lit.int .i64 (pre.length : Int)).wf = true := wf_i (by omega) (by omega)
  have st := rawSt I.at_ I.f0 I.f1 I.f5 I.wk wi I.nst
  have hlen : decide (List.length (pre ++ suf) ≤ 9223372036854775807) = true := decide_eq_true (by rw [List.length_append]; omega)
  refine wp_seq (wp_seq (ev_wp (A := fun b => b ∈ ba) (ks := [0, 1, 5, 9]) mixed tt_ok KOK.nil (fun b hb => (by cases hb)) (oc28 2 (by simp) hd) trivial ((e28c (pre ++ suf) k pre.length).trans (by rw [hlen]; rfl)) st rfl fun a1 w1 g1 st1 A1 => ?_))
  have t0 : a1.tmps.getD 0 undef = hd := st1.sz.2 rfl
  have t1 : a1.tmps.getD 1 undef = .int .i64 k := (asI_inv (st1.ent 1) rfl).1
  have t5 : a1.tmps.getD 5 undef = .int .i64 pre.length := (asI_inv (st1.ent 5) rfl).1
  have t9 : a1.eval (.tmp 9) = .bool (decide ((pre.length : Int) < Int.ofNat (pre ++ suf).length)) := by
    have : EntR g1 w1.heap 9 (boolE (decide ((pre.length : Int) < Int.ofNat (pre ++ suf).length))) (a1.tmps.getD 9 undef) := st1.ent 9
    obtain ⟨bs4, hl4, _⟩ := val1 this
    obtain ⟨⟨z, _⟩, _⟩ := hl4
    injection z
  have n1 := I.nst.of_St st1
  have at1 : AtV 19 _ a1 := st1.atV
  show Code.wp _ _ _ _ _
  cases suf with
  | nil =>
    have t9 : a1.eval (.tmp 9) = .bool false := by rw [t9]; congr 1; exact decide_eq_false (by simp)
    refine wp_cond (t := false) t9 (wp_exit ?_)
    obtain ⟨z, hz, hy⟩ := I.run
    simp only [foldM28, Option.some.injEq] at hz
    subst hz
    subst hy
    rw [List.append_nil] at n1
    exact hQ a1 w1 _ at1 t0 t1 I.wk (by show Nst w0 ba 24 (.slice 2 i64) hd (pre ++ []) w1; rw [List.append_nil]; exact n1) ⟨_, t5, wi⟩
  | cons x suf =>
    have t9 : a1.eval (.tmp 9) = .bool true := by rw [t9]; congr 1; exact decide_eq_true (by simp; omega)
    refine wp_cond (t := true) t9 (wp_skip ?_)
    show Code.wp _ _ _ _ _
    refine wp_seq (wp_block (wp_region ?_))
    rw [rg28]
    obtain ⟨b, o, cap, c, e', be, r1, r2, r3, r4, r5, r6, r7, r8, fin⟩ := n1.elem (by decide)
    obtain ⟨z, hz, hy⟩ := I.run
    simp only [foldM28] at hz
    split at hz
    · rename_i yx hyx
      split at hz
      · rename_i zr hzr
        injection hz with hz; subst hz
        have one : (Ty.slice 2 i64).size = 1 := rfl
        rw [one, Nat.mul_one] at r3 r4
        obtain ⟨v, blkv, bsv, v1, v2, v3⟩ := r4
        have hcv : c[o + pre.length]? = some v := by
          have : ((c.toList.drop (o + pre.length)).take 1)[0]? = some v := by rw [v1]; rfl
          rw [List.getElem?_take_of_lt (by omega), List.getElem?_drop, Array.getElem?_toList] at this
          simpa using this
        obtain ⟨oa, a1a, a1b, a1c, a1d⟩ := q28_0
        obtain ⟨ob, b1a, b1b, b1c, b1d⟩ := q28_1
        obtain ⟨oc, c1a, c1b, c1c, c1d⟩ := q28_2
        obtain ⟨od, d1a, d1b, d1c, d1d⟩ := q28_3
        obtain ⟨oe, e1a, e1b, e1c, e1d⟩ := q28_4
        obtain ⟨of, cf, zf, f1a, f1b, f1e, f1f, f1g, f1c, f1d⟩ := q28_5
        obtain ⟨og, g1a, g1b, g1c, g1d⟩ := q28_6
        refine wpOps_cons a1a a1d (upon_val (v := hd) (w' := w1) (by simp only [execOp, a1b, show a1.eval (.tmp 0) = hd from t0, Sem.run_pure]) ?_)
        rw [a1c]
        have p1 := at1.put (d := 12) (by omega) hd
        generalize a1.put (some 12) hd = a2 at p1 ⊢
        refine wpOps_cons b1a b1d (upon_val (v := .int .i64 pre.length) (w' := w1) (by simp only [execOp, b1b, show a2.eval (.tmp 5) = .int .i64 pre.length from p1.ev.trans t5, Sem.run_pure]) ?_)
        rw [b1c]
        have p2 := p1.put (d := 13) (by omega) (.int .i64 pre.length)
        generalize a2.put (some 13) (.int .i64 pre.length) = a3 at p2 ⊢
        have k34 := tt_ok 34 rows (by kernel_rfl)
        have k24 := tt_ok 24 (.slice 2 i64) (by kernel_rfl)
        have ri := run_indexS (P := Try.prog) tt_ok k34 (w := w1) (b := b) (o := o) (m := (pre ++ x :: suf).length) (cap := cap) (kk := .i64) (i := pre.length) (by simp)
        rw [one, Nat.mul_one, ← r1] at ri
        refine wpOps_cons c1a c1d (upon_val (v := .pointer (some ⟨b, o + pre.length, none⟩)) (w' := w1) (by
          simp only [execOp, c1b, show a3.eval (.tmp 12) = hd from p2.ev, show a3.eval (.tmp 13) = .int .i64 pre.length from p2.ev, Sem.run_bind, ri, Result.andThen_ok, Sem.run_pure]) ?_)
        rw [c1c]
        have p3 := p2.put (d := 14) (by omega) (.pointer (some ⟨b, o + pre.length, none⟩))
        generalize a3.put (some 14) (.pointer (some ⟨b, o + pre.length, none⟩)) = a4 at p3 ⊢
        have rl := run_loadS (P := Try.prog) k24 (w := w1) (b := b) (o := o + pre.length) r2 hcv
        refine wpOps_cons d1a d1d (upon_val (v := v) (w' := w1) (by
          simp only [execOp, d1b, show a4.eval (.tmp 14) = .pointer (some ⟨b, o + pre.length, none⟩) from p3.ev, Sem.run_bind, rl, Result.andThen_ok, Sem.run_pure]) ?_)
        rw [d1c]
        have p4 := p3.put (d := 15) (by omega) v
        generalize a4.put (some 15) v = a5 at p4 ⊢
        refine wpOps_cons e1a e1d (upon_val (v := .int .i64 k) (w' := w1) (by simp only [execOp, e1b, show a5.eval (.tmp 1) = .int .i64 k from p4.ev.trans t1, Sem.run_pure]) ?_)
        rw [e1c]
        have p5 := p4.put (d := 16) (by omega) (.int .i64 k)
        generalize a5.put (some 16) (.int .i64 k) = a6 at p5 ⊢
        obtain ⟨fn, h1, h2, h3⟩ := k19.fn
        refine wpOps_cons f1a f1d ?_
        unfold Oper.wp
        rw [run_enter2 f1b f1e (isF_ev f1f a6) f1g h1 h2 h3]
        simp only [Oper.upon]
        have e15 : a6.eval (.tmp 15) = v := p5.ev
        have e16 : a6.eval (.tmp 16) = .int .i64 k := p5.ev
        rw [e15, e16]
        have hcvv : v.cells = #[v] := by
          rcases v2 with ⟨p, q, _⟩ | ⟨_, _, _, _, _, q, _⟩ <;> rw [q] <;> rfl
        have hone : OneV w1.heap (.slice 2 i64) x v be := ⟨⟨v, blkv, bsv, by rw [hcvv], v2, v3⟩, fun q => (by cases q), fun _ => hcvv⟩
        have hav : ArgsV w1.heap [.v (.slice 2 i64), .v i64] (x, k, ()) [v, .int .i64 k] be :=
          ⟨_, _, be, [], rfl, by simp, hone, _, _, [], [], rfl, rfl, one_int I.wk, rfl, rfl⟩
        have call := k19.inp rfl (x, k, ()) yx hyx w1 _ be hav r5 (fun b hb => n1.wr b (r6 b hb))
        refine call.mono ?_
        rintro ee w2 ⟨v0', rv, bf, z1, rfl, z2, ⟨zn, zs⟩, z3, z4, z5, z6, z7, z8⟩
        simp only [List.head?_cons, Option.some.injEq] at z1
        subst z1
        obtain ⟨u1, ur, ub1, ub2, y1, y2, _, y3, y4⟩ := z2
        simp only [List.cons.injEq] at y1
        obtain ⟨y1a, y1b⟩ := y1
        subst y1a; subst y1b
        obtain ⟨u2, ur2, ub3, ub4, y5, y6, _, y7, y8⟩ := y3
        obtain ⟨y7a, y7b⟩ := y7
        subst y7a; subst y5; subst y7b; subst y8; subst y4
        have hk2 : u2 = .int .i64 yx.2.1 ∧ (Lit.int .i64 yx.2.1).wf = true ∧ ub3 = [] := by
          obtain ⟨⟨c1, c2, c3⟩, _, c4⟩ := y6
          rw [c4 rfl] at c1
          exact ⟨by simpa using c1, c2, c3⟩
        obtain ⟨hk2, wk2, hb3⟩ := hk2
        subst hk2; subst hb3
        simp only [List.append_nil] at zn zs
        show wpOps _ _ _ _ _ _
        rw [f1c]
        show wpOps _ _ _ _ (a6.put (some 17) (.int .i64 yx.2.1)) _
        have p6 := p5.put (d := 17) (by omega) (.int .i64 yx.2.1)
        generalize a6.put (some 17) (.int .i64 yx.2.1) = a7 at p6 ⊢
        refine wpOps_cons g1a g1d (upon_val (v := .int .i64 yx.2.1) (w' := w2) (by simp only [execOp, g1b, show a7.eval (.tmp 17) = .int .i64 yx.2.1 from p6.ev, Sem.run_pure]) ?_)
        rw [g1c]
        have p7 := p6.put (d := 1) (by omega) (.int .i64 yx.2.1)
        generalize a7.put (some 1) (.int .i64 yx.2.1) = a8 at p7 ⊢
        -- the slice as it is now
        have hb2 : w2.heap[b]? = some (.cells c e' (0, 0)) := by
          rw [z7 b (Nat.lt_of_lt_of_le (n1.lt b r8) n1.size) r7]; exact r2
        have n2 : Nst w0 ba 24 (.slice 2 i64) hd (pre ++ yx.1 :: suf) w2 := by
          refine fin w2 yx.1 c ub1 hb2 rfl (fun _ _ => rfl) ?_ zn zs z3 z4 z5 z6 (fun z hz hn _ => z7 z hz hn) z8
          rw [one, Nat.mul_one, v1]
          obtain ⟨⟨hd3, blk3, bs3, w1', w2', w3'⟩, _, _⟩ := y2
          rw [hcvv] at w1'
          exact ⟨hd3, blk3, bs3, w1', w2', w3'⟩
        show Code.wp _ _ _ _ _
        have st2 := rawSt p7 (show _ = hd from t0) (show _ = Value.int .i64 yx.2.1 from rfl) (show _ = Value.int .i64 (pre.length : Int) from t5) wk2 wi n2
        refine ev_wp (A := fun b => b ∈ ba) (ks := [0, 1, 5]) mixed tt_ok KOK.nil (fun b hb => (by cases hb)) (oc28 3 (by simp) hd) trivial (e28d (pre ++ yx.1 :: suf) yx.2.1 pre.length) st2 rfl fun a9 w9 g9 st9 A9 => ?_
        have s0 : a9.tmps.getD 0 undef = hd := st9.sz.2 rfl
        have s1 : a9.tmps.getD 1 undef = .int .i64 yx.2.1 := (asI_inv (st9.ent 1) rfl).1
        have s5 : a9.tmps.getD 5 undef = .int .i64 (IntKind.i64.wrap (pre.length + 1)) := (asI_inv (st9.ent 5) rfl).1
        have hwr : IntKind.i64.wrap ((pre.length : Int) + 1) = ((pre.length + 1 : Nat) : Int) := by
          simp only [List.length_cons] at hl
          simp [IntKind.wrap, IntKind.bits, IntKind.signed]; split <;> omega
        rw [hwr] at s5
        have n9 := n2.of_St st9
        simp only [List.length_cons] at hl
        refine ⟨⟨pre ++ [yx.1], suf, yx.2.1, _, st9.atV, s0, s1, ?_, wk2, ?_, ?_, zr, hzr, ?_⟩, ?_⟩
        · show a9.tmps.getD 5 undef = _
          rw [s5]; simp
        · rw [List.append_assoc]; exact n9
        · simp; omega
        · rw [← hy]; simp
        · have : mu28 N a = N - pre.length := by
            unfold mu28
            rw [I.at_.at_, I.f5]; simp only; omega
          have m9 : mu28 N a9 = N - (pre.length + 1) := by unfold mu28; rw [s5]; simp only; omega
          rw [this, m9]; omega
      · cases hz
    · cases hz


theorem one28 {cf : G28h} (k19 : KOne Try.prog 19 ⟨[.v (.slice 2 i64), .v i64], [.slice 2 i64, i64], false, false, 1, g⟩)
    (h : ∀ x y, cf x = some y → (show List (List Int) from x.1).length ≤ 100000000 ∧ ∃ z, foldM28 g x.1 x.2.1 = some z ∧ y = (z.1, z.2, ())) : KOne Try.prog 28 ⟨[.v rows, .v i64], [rows, i64], false, false, 1, cf⟩ := by
  refine ⟨fun q => (by cases q), fun _ => ?_, fun q => (by cases q), Try.f28, Try.func28, by decide, rfl⟩
  intro x y hxy w vs ba hv hnd hw
  obtain ⟨L, k, _⟩ := x
  obtain ⟨hN, z, hz, rfl⟩ := h _ _ hxy
  replace hN : List.length (show List (List Int) from L) ≤ 100000000 := hN
  have hv0 := hv
  obtain ⟨v0, r1, b1, b2, rfl, rfl, o1, v1, r2, b3, b4, rfl, rfl, o2, rfl, rfl⟩ := hv
  have hv1 : v1 = .int .i64 k ∧ (Lit.int .i64 k).wf = true ∧ b3 = [] := by
    obtain ⟨⟨c1, c2, c3⟩, _, c4⟩ := o2
    rw [c4 rfl] at c1
    exact ⟨by simpa using c1, c2, c3⟩
  obtain ⟨rfl, wk, rfl⟩ := hv1
  simp only [List.append_nil] at hnd hw hv0 ⊢
  obtain ⟨⟨hd, blk, bs, z1, z2, z3⟩, _, z4⟩ := o1
  have hc := z4 rfl
  have eh : hd = v0 := by rw [hc] at z1; injection z1 with z1 _; exact z1.symm
  subst eh
  have lt : ∀ b ∈ b1, b < w.heap.size := fun b hb => by
    obtain ⟨c, e, q⟩ := hw b hb
    rcases Nat.lt_or_ge b w.heap.size with q' | q'
    · exact q'
    · rw [Array.getElem?_eq_none q'] at q; cases q
  have n0 : Nst w b1 24 (.slice 2 i64) hd L w := ⟨⟨blk, bs, z2, by rw [← z3]; exact hnd, by rw [← z3]; exact fun z hz => hz⟩, rfl, Tp.refl, rfl, Nat.le_refl _, fun _ _ _ => rfl, hw, lt⟩
  have st0 := init_St (n := Try.f28.ntmps) hv0 (by rw [nt28]; decide)
  refine calls_of_wp Try.func28 sk28 ?_
  have stk : St ⟨19, true, hd⟩ w (fun _ => False) (gh0 w [hd, .int .i64 k] b1) (initEnv 0 [.v rows, .v i64] (L, k, ())).get { tmps := [hd, .int .i64 k].toArray ++ Array.replicate (Try.f28.ntmps - [hd, .int .i64 k].toArray.size) undef, defers := [] } w :=
    ⟨st0.inv, st0.ent, ⟨st0.sz.1.trans nt28, fun _ => by rw [Array.getD_eq_getD_getElem?, Array.getElem?_append_left (by simp)]; rfl⟩, st0.df, st0.os, st0.tape, st0.output⟩
  refine wp_seq (ev_wp (A := fun b => b ∈ b1) (ks := [0, 1]) mixed tt_ok KOK.nil (fun b hb => (by cases hb)) (oc28 0 (by simp) hd) trivial (e28a L k) stk rfl fun a1 w1 g1 st1 A1 => ?_)
  show Code.wp _ _ _ _ _
  refine wp_seq (wp_seq (ev_wp (A := fun b => b ∈ b1) (ks := [0, 1, 5]) mixed tt_ok KOK.nil (fun b hb => (by cases hb)) (oc28 1 (by simp) hd) trivial (e28b L k) st1 A1 fun a2 w2 g2 st2 A2 => ?_))
  show Code.wp _ _ _ _ _
  have n2 := n0.of_St st2
  have at2 : AtV 19 _ a2 := st2.atV
  have t0 : a2.tmps.getD 0 undef = hd := st2.sz.2 rfl
  have t1 : a2.tmps.getD 1 undef = .int .i64 k := (asI_inv (st2.ent 1) rfl).1
  have t5 : a2.tmps.getD 5 undef = .int .i64 0 := (asI_inv (st2.ent 5) rfl).1
  refine wp_block (wp_loop (fun a' w' => ∃ pre suf k f, I28 w b1 hd g (List.length (show List (List Int) from L)) z a' w' pre suf k f) (fun a' _ => mu28 (List.length (show List (List Int) from L)) a') ⟨[], L, k, _, at2, t0, t1, t5, wk, n2, rfl, z, hz, rfl⟩ fun a3 w3 hI => ?_)
  obtain ⟨pre, suf, k3, f3, I⟩ := hI
  refine round28 k19 hN I fun a4 w4 f4 at4 s0 s1 wk4 n4 s5 => ?_
  obtain ⟨i, s5, wi⟩ := s5
  show Code.wp _ _ _ _ _
  have st4 := rawSt at4 s0 s1 s5 wk4 wi n4
  refine wp_seq (ev_wp (A := fun b => b ∈ b1) (ks := [0, 1, 4]) mixed tt_ok KOK.nil (fun b hb => (by cases hb)) (oc28 5 (by simp) hd) trivial (e28e z.1 z.2 i) st4 rfl fun a5 w5 g5 st5 A5 => ?_)
  show Code.wp _ _ _ _ _
  have n5 := n4.of_St st5
  have u4 : a5.tmps.getD 4 undef = .int .i64 z.2 := (asI_inv (st5.ent 4) rfl).1
  refine wp_ret ?_
  have hres : (Try.f28.results.toList.mapM (resOne a5.tmps)).run Try.prog w5 = .ok [.int .i64 z.2] w5 := by rw [rs28, ← u4]; rfl
  refine ⟨st5.df, _, results_run hres, ?_⟩
  obtain ⟨blk5, bs5, y1, y2, y3⟩ := n5.rd
  exact ⟨hd, [.int .i64 z.2], blk5.toList ++ bs5, rfl, rfl, ⟨hd, _, _, [], rfl, ⟨⟨hd, blk5, bs5, by rw [hc], y1, rfl⟩, fun q => (by cases q), fun _ => hc⟩, fun q => (by cases q), ⟨_, [], [], [], rfl, one_int wk4, fun q => (by cases q), ⟨rfl, rfl⟩, rfl⟩, by simp⟩,
    ⟨y2, y3⟩, n5.os, n5.tp, n5.out, n5.size, n5.old, n5.wr⟩

end
end Go.Proofs.YtkoifikjfnbcpaaEv
