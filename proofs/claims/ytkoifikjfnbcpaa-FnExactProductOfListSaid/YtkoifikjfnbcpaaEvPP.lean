/- The program's sum and product of polynomials. -/
import Derived.Test.YtkoifikjfnbcpaaEvPO
set_option linter.unusedVariables false
set_option linter.unusedSimpArgs false
namespace Go.Proofs.YtkoifikjfnbcpaaEv
open Go Go.RowKit Go.Proofs

noncomputable def S105b (F0 : Nat) (kx : ShVal sh105_8 → Option R105) : ShVal sh105_8 → (ShVal sh105_8 → Option R105) → Option R105 := fun s k => st105_8 cf103 F0 s k kx
theorem kmul {k x : Int} (hk : -1000000 ≤ k ∧ k ≤ 1000000) (hx : 0 ≤ x ∧ x ≤ 1000000) : -1000000000000 ≤ k * x ∧ k * x ≤ 1000000000000 := by
  constructor
  · have := Int.mul_le_mul_of_nonneg_right hk.1 hx.1; omega
  · have := Int.mul_le_mul_of_nonneg_right hk.2 hx.1; omega
structure BndM (m : Lg) (n : Nat) : Prop where
  ex : ∃ M : Int, M + (n : Int) * 1000000000000 ≤ 1000000000000000000 ∧ ∀ e, -M ≤ mgI m e ∧ mgI m e ≤ M
theorem run105b {p v k : Int} {a : List term.den} {z : poly.den} {F0 : Nat} {kx : ShVal sh105_8 → Option R105} (hk : -1000000 ≤ k ∧ k ≤ 1000000) : ∀ (r pre : List term.den) (m : Lg) (F : Nat), r.length < F → (pre ++ r).length ≤ 100000 → (∀ t ∈ r, 0 ≤ nT t ∧ nT t ≤ 1000000) → BndM m r.length →
    iter (S105b F0 kx) F ((k, ()), ((p, v, a, ()), ((z.1, z.2.1, z.2.2.1, ()), (m, ((pre ++ r, ()), ((((pre ++ r).length : Int), ()), (((pre.length : Int), ()), ()))))))) =
      kx ((k, ()), ((p, v, a, ()), ((z.1, z.2.1, z.2.2.1, ()), (logK k r m, ((pre ++ r, ()), ((((pre ++ r).length : Int), ()), ((((pre ++ r).length : Int), ()), ())))))))
  | [], pre, m, F, hF, hl, _, _ => by
    obtain ⟨F, rfl⟩ : ∃ f, F = f + 1 := ⟨F - 1, by simp at hF; omega⟩
    rw [List.append_nil] at hl ⊢
    simp only [iter, S105b, st105_8]
    simp (disch := omega) only [dlt_f, cond_false]
    rfl
  | t :: r, pre, m, F, hF, hl, h2, h3 => by
    obtain ⟨F, rfl⟩ : ∃ f, F = f + 1 := ⟨F - 1, by simp at hF; omega⟩
    have hpl : pre.length < (pre ++ t :: r).length := by simp
    have ht := h2 t (.head _)
    have wi : w6 ((pre.length : Int) + 1) = ((pre ++ [t]).length : Int) := by rw [w6_i (by omega) (by omega)]; simp
    obtain ⟨⟨M, hM, h3⟩⟩ := h3
    have hm := h3 t.1
    have hkm := kmul hk ht
    have hM' : M + 1000000000000 + (r.length : Int) * 1000000000000 ≤ 1000000000000000000 := by simp only [List.length_cons] at hM; omega
    have wk : w6 (mgI m t.1 + w6 (k * nT t)) = mgI m t.1 + k * nT t := by rw [w6_i (x := k * nT t) (by omega) (by omega), w6_i (by omega) (by omega)]
    have h3' : ∀ e, -(M + 1000000000000) ≤ mgI ((t.1, mgI m t.1 + k * nT t) :: m) e ∧ mgI ((t.1, mgI m t.1 + k * nT t) :: m) e ≤ M + 1000000000000 := fun e => by
      rw [mgI_cons]
      have := h3 e
      split <;> omega
    have ih := run105b (p := p) (v := v) (a := a) (z := z) (F0 := F0) (kx := kx) hk r (pre ++ [t]) ((t.1, mgI m t.1 + k * nT t) :: m) F (by simp at hF; omega) (by simpa using hl) (fun x hx => h2 x (.tail _ hx)) ⟨⟨_, hM', h3'⟩⟩
    rw [show (pre ++ [t]) ++ r = pre ++ t :: r by simp, ← wi] at ih
    show S105b F0 kx _ (iter (S105b F0 kx) F) = _
    generalize iter (S105b F0 kx) F = K at ih ⊢
    simp only [S105b, st105_8]
    simp (disch := omega) only [dlt_t, cond_true, ofn, ib_t, tn_cast, getD_pre]
    show K ((k, ()), ((p, v, a, ()), ((z.1, z.2.1, z.2.2.1, ()), ((t.1, w6 (mgI m t.1 + w6 (k * nT t))) :: m, ((pre ++ t :: r, ()), ((((pre ++ t :: r).length : Int), ()), (((w6 ((pre.length : Int) + 1)), ()), ()))))))) = _
    rw [wk]
    exact ih
theorem logK_rng {k B : Int} (hk : ∀ t : term.den, 0 ≤ nT t ∧ nT t ≤ 1000000 → -B ≤ k * nT t ∧ k * nT t ≤ B) (hB : 0 ≤ B) : ∀ {r : List term.den} {m : Lg} {C : Int}, (∀ t ∈ r, 0 ≤ nT t ∧ nT t ≤ 1000000) → (∀ e, -C ≤ mgI m e ∧ mgI m e ≤ C) → ∀ e, -(C + r.length * B) ≤ mgI (logK k r m) e ∧ mgI (logK k r m) e ≤ C + r.length * B
  | [], m, C, _, h, e => by simpa [logK] using h e
  | t :: r, m, C, ht, h, e => by
    have h1 := hk t (ht t (.head _))
    have := logK_rng hk hB (r := r) (m := (t.1, mgI m t.1 + k * nT t) :: m) (C := C + B) (fun x hx => ht x (.tail _ hx)) (fun e => by
      rw [mgI_cons]
      have h2 := h e
      have h3 := h t.1
      split <;> omega) e
    have e2 : ((t :: r).length : Int) * B = r.length * B + B := by simp only [List.length_cons]; rw [show ((r.length + 1 : Nat) : Int) = (r.length : Int) + 1 by omega, Int.add_mul, Int.one_mul]
    show -(C + ((t :: r).length : Int) * B) ≤ mgI (logK k r _) e ∧ mgI (logK k r _) e ≤ C + ((t :: r).length : Int) * B
    rw [e2]; omega

noncomputable def cf105 : G105 := by
  classical exact fun x => if (0 < x.1.1 ∧ x.1.1 ≤ 1000000) ∧ CanT x.1.1 x.1.2.2.1 ∧ CanT x.1.1 x.2.1.2.2.1 ∧ (-1000000 ≤ x.2.2.1 ∧ x.2.2.1 ≤ 1000000) ∧ (show List term.den from x.1.2.2.1).length ≤ 100000 ∧ (show List term.den from x.2.1.2.2.1).length ≤ 100000 then some ((x.1.1, x.1.2.1, plusP x.1.1 x.2.2.1 x.1.2.2.1 x.2.1.2.2.1, ()), ()) else none
theorem nT_small {p : Int} {ts : List term.den} (h : CanT p ts) (hp : p ≤ 1000000) : ∀ t ∈ ts, 0 ≤ nT t ∧ nT t ≤ 1000000 := fun t ht => by have := nT_rng h ht; omega
theorem k105 : KOne Try.prog 105 ⟨[.v poly, .v poly, .v i64], [poly], true, false, 0, cf105⟩ := ok105 _ (.cons k103 .nil) cf105 fun x y h => by
  obtain ⟨⟨p, v, a, _⟩, ⟨q, w, b, _⟩, k, _⟩ := x
  simp only [cf105] at h
  split at h
  · rename_i hc
    injection h with h; subst h
    obtain ⟨hp, ha, hb, hk, la, lb⟩ := hc
    replace la : List.length a ≤ 100000 := la
    replace lb : List.length b ≤ 100000 := lb
    refine ⟨List.length a + List.length b + 1, ?_⟩
    have na := nT_small ha hp.2
    have nb := nT_small hb hp.2
    have z0 : ∀ e, mgI [] e = 0 := fun e => rfl
    have m1 := logK_rng (k := 1) (B := 1000000) (C := 0) (fun t ht => by rw [Int.one_mul]; omega) (by omega) (r := a) (m := []) na fun e => by rw [z0]; omega
    have hkeys := logK_keys (k := k) (r := b) (m := logK 1 a [])
    have hkeys2 := logK_keys (k := 1) (r := a) (m := [])
    have g := g103_ok (v := v) (m := logK k b (logK 1 a [])) hp (by
      have h0 : (lkeys ([] : Lg)).length = 0 := rfl
      have := hkeys.2
      have := hkeys2.2
      omega)
    rw [add_same hp.1 hp.2 ha hb] at g
    show (bif decide (List.length a ≤ _) then _ else _) = _
    rw [dln_t (by omega), cond_true]
    have key := run105a (k := k) (p := p) (v := v) (p' := q) (v' := w) (b := b) (z := Ty.dflt poly) (F0 := List.length a + List.length b + 1) (kx := fun s' => match s' with | ((t2, _), (t3_0, t3_1, t3_2, _), (t4_0, t4_1, t4_2, _), (t6_0, t6_1, t6_2, _), t7, (t14, _), (t15, _), (t16, _), _) => (bif decide ((List.length t4_2) ≤ 9223372036854775807) then (ru105_8 cf103 (List.length a + List.length b + 1) ((t2, ()), ((t3_0, (t3_1, (t3_2, ()))), ((t6_0, (t6_1, (t6_2, ()))), (t7, ((t4_2, ()), (((Int.ofNat (List.length t4_2)), ()), (((0 : Int), ()), ()))))))) (fun s' => match s' with | ((t2, _), (t3_0, t3_1, t3_2, _), (t6_0, t6_1, t6_2, _), t7, (t31, _), (t32, _), (t33, _), _) => (match (cf103 (t7, (t3_0, (t3_1, ())))) with | some r34 => (some ((r34.1.1, (r34.1.2.1, (r34.1.2.2.1, ()))), ())) | none => none))) else none)) a [] [] (List.length a + List.length b + 1) (by omega) (by simpa using Nat.le_trans la (by omega)) (fun e => by rw [z0]; omega) na fun e => by rw [z0]; simp
    refine key.trans ?_
    show (bif decide (List.length b ≤ 9223372036854775807) then _ else _) = _
    rw [dln_t (by omega), cond_true]
    refine (run105b (p := p) (v := v) (a := a) (z := Ty.dflt poly) (F0 := List.length a + List.length b + 1) hk b [] (logK 1 a []) (List.length a + List.length b + 1) (by omega) (by simpa using lb) nb ⟨⟨100000000000, by omega, fun e => by
      have := m1 e
      omega⟩⟩).trans ?_
    show (match cf103 (logK k b (logK 1 a []), p, v, ()) with | some r34 => _ | none => none) = _
    rw [g]
  · cases h
theorem g105_ok {p v v' k : Int} {a b : List term.den} (hp : 0 < p ∧ p ≤ 1000000) (ha : CanT p a) (hb : CanT p b) (hk : -1000000 ≤ k ∧ k ≤ 1000000) (la : a.length ≤ 100000) (lb : b.length ≤ 100000) : cf105 ((p, v, a, ()), (p, v', b, ()), k, ()) = some ((p, v, plusP p k a b, ()), ()) := if_pos ⟨hp, ha, hb, hk, la, lb⟩
theorem g100_ok {p v v' k : Int} {a b : List term.den} (hp : 0 < p ∧ p ≤ 1000000) (ha : CanT p a) (hb : CanT p b) (hk : -1000000 ≤ k ∧ k ≤ 1000000) (la : a.length ≤ 100000) (lb : b.length ≤ 100000) : cf100 ((p, v, a, ()), (p, v', b, ()), k, ()) = some ((p, v, plusP p k a b, ()), ()) := by
  simp only [cf100, c100]
  exact if_pos ⟨hp.1, hp.2, ha, hb, hk.1, hk.2, la, lb⟩

/-! ### the program's product -/
noncomputable def S106b (F0 : Nat) (kx : ShVal sh106_6 → Option R106) : ShVal sh106_6 → (ShVal sh106_6 → Option R106) → Option R106 := fun s k => st106_6 cf103 F0 s k kx
theorem run106b {p v p' v' : Int} {z : poly.den} {A : List term.den} {ti : Int} {t : term.den} {F0 : Nat} {kx : ShVal sh106_6 → Option R106} (hp : 0 < p ∧ p ≤ 1000000) (ht : okX t.1 ∧ degX t.1 ≤ 100) (hn : 0 < nT t ∧ nT t < p) : ∀ (r pre : List term.den) (m : Lg) (F : Nat), r.length < F → (pre ++ r).length ≤ 1000000 → (∀ s ∈ r, okX s.1 ∧ degX s.1 ≤ 100) → (∀ s ∈ r, 0 < nT s ∧ nT s < p) → (∀ e, 0 ≤ mgI m e ∧ mgI m e < p) →
    iter (S106b F0 kx) F ((p, v, A, ()), ((p', v', pre ++ r, ()), ((z.1, z.2.1, z.2.2.1, ()), (m, ((t.1, t.2.1, ()), ((A, ()), (((A.length : Int), ()), ((ti, ()), ((pre ++ r, ()), ((((pre ++ r).length : Int), ()), (((pre.length : Int), ()), ()))))))))))) =
      kx ((p, v, A, ()), ((p', v', pre ++ r, ()), ((z.1, z.2.1, z.2.2.1, ()), (logR p t r m, ((t.1, t.2.1, ()), ((A, ()), (((A.length : Int), ()), ((ti, ()), ((pre ++ r, ()), ((((pre ++ r).length : Int), ()), ((((pre ++ r).length : Int), ()), ())))))))))))
  | [], pre, m, F, hF, hl, _, _, _ => by
    obtain ⟨F, rfl⟩ : ∃ f, F = f + 1 := ⟨F - 1, by simp at hF; omega⟩
    rw [List.append_nil] at hl ⊢
    simp only [iter, S106b, st106_6]
    simp (disch := omega) only [dlt_f, cond_false]
    rfl
  | s :: r, pre, m, F, hF, hl, h1, h2, h3 => by
    obtain ⟨F, rfl⟩ : ∃ f, F = f + 1 := ⟨F - 1, by simp at hF; omega⟩
    have hpl : pre.length < (pre ++ s :: r).length := by simp
    have hs := h1 s (.head _)
    have hb := mulb hp.2 hn (h2 s (.head _))
    have ew := addX_w ht.1 hs.1 ht.2 hs.2
    have hm := h3 (addX t.1 s.1)
    have wi : w6 ((pre.length : Int) + 1) = ((pre ++ [s]).length : Int) := by rw [w6_i (by omega) (by omega)]; simp
    have wk : Int.tmod (w6 (mgI m (addX t.1 s.1) + w6 (nT t * nT s))) p = (mgI m (addX t.1 s.1) + nT t * nT s) % p := by
      rw [w6_i (x := nT t * nT s) (by omega) (by omega), w6_i (by omega) (by omega), Int.tmod_eq_emod_of_nonneg (by omega)]
    have ih := run106b (v := v) (p' := p') (v' := v') (z := z) (A := A) (ti := ti) (F0 := F0) (kx := kx) hp ht hn r (pre ++ [s]) ((addX t.1 s.1, (mgI m (addX t.1 s.1) + nT t * nT s) % p) :: m) F (by simp at hF; omega) (by simpa using hl) (fun x hx => h1 x (.tail _ hx)) (fun x hx => h2 x (.tail _ hx)) (fun e => by
      rw [mgI_cons]; split
      · exact md_rng hp.1
      · exact h3 e)
    rw [show (pre ++ [s]) ++ r = pre ++ s :: r by simp, ← wi] at ih
    show S106b F0 kx _ (iter (S106b F0 kx) F) = _
    generalize iter (S106b F0 kx) F = K at ih ⊢
    simp only [S106b, st106_6]
    simp (disch := omega) only [dlt_t, cond_true, ofn, ib_t, tn_cast, getD_pre, deq_f, Bool.not_false]
    show K ((p, v, A, ()), ((p', v', pre ++ s :: r, ()), ((z.1, z.2.1, z.2.2.1, ()), (((((w8 (x0 t.1 + x0 s.1), w8 (x1 t.1 + x1 s.1), w8 (x2 t.1 + x2 s.1), ()) : ex.den), Int.tmod (w6 (mgI m ((w8 (x0 t.1 + x0 s.1), w8 (x1 t.1 + x1 s.1), w8 (x2 t.1 + x2 s.1), ()) : ex.den) + w6 (nT t * nT s))) p) :: m), ((t.1, t.2.1, ()), ((A, ()), (((A.length : Int), ()), ((ti, ()), ((pre ++ s :: r, ()), ((((pre ++ s :: r).length : Int), ()), (((w6 ((pre.length : Int) + 1)), ()), ()))))))))))) = _
    rw [ew, wk]
    exact ih

noncomputable def S106a (F0 : Nat) : ShVal sh106_3 → (ShVal sh106_3 → Option R106) → Option R106 := fun s k => st106_3 cf103 F0 s k (fun s' => match s' with | ((t2_0, t2_1, t2_2, _), (t3_0, t3_1, t3_2, _), (t4_0, t4_1, t4_2, _), t5, (t13, _), (t14, _), (t15, _), _) => (match (cf103 (t5, (t2_0, (t2_1, ())))) with | some r20 => (some ((r20.1.1, (r20.1.2.1, (r20.1.2.2.1, ()))), ())) | none => none))
theorem run106a {p v p' v' : Int} {z : poly.den} {b : List term.den} {F0 : Nat} (hp : 0 < p ∧ p ≤ 1000000) (hF0 : b.length < F0) (hbl : b.length ≤ 1000000) (hb : ∀ s ∈ b, okX s.1 ∧ degX s.1 ≤ 100) (hbn : ∀ s ∈ b, 0 < nT s ∧ nT s < p) : ∀ (r pre : List term.den) (m : Lg) (F : Nat), r.length < F → (pre ++ r).length ≤ 1000000 → (∀ s ∈ r, okX s.1 ∧ degX s.1 ≤ 100) → (∀ s ∈ r, 0 < nT s ∧ nT s < p) → (∀ e, 0 ≤ mgI m e ∧ mgI m e < p) →
    iter (S106a F0) F ((p, v, pre ++ r, ()), ((p', v', b, ()), ((z.1, z.2.1, z.2.2.1, ()), (m, ((pre ++ r, ()), ((((pre ++ r).length : Int), ()), (((pre.length : Int), ()), ()))))))) =
      (match (cf103 (logM p b r m, (p, (v, ())))) with | some r20 => (some ((r20.1.1, (r20.1.2.1, (r20.1.2.2.1, ()))), ())) | none => none)
  | [], pre, m, F, hF, hl, _, _, _ => by
    obtain ⟨F, rfl⟩ : ∃ f, F = f + 1 := ⟨F - 1, by simp at hF; omega⟩
    rw [List.append_nil] at hl ⊢
    simp only [iter, S106a, st106_3]
    simp (disch := omega) only [dlt_f, cond_false]
    rfl
  | t :: r, pre, m, F, hF, hl, h1, h2, h3 => by
    obtain ⟨F, rfl⟩ : ∃ f, F = f + 1 := ⟨F - 1, by simp at hF; omega⟩
    have hpl : pre.length < (pre ++ t :: r).length := by simp
    have wi : w6 ((pre.length : Int) + 1) = ((pre ++ [t]).length : Int) := by rw [w6_i (by omega) (by omega)]; simp
    have ih := run106a (v := v) (p' := p') (v' := v') (z := z) (F0 := F0) hp hF0 hbl hb hbn r (pre ++ [t]) (logR p t b m) F (by simp at hF; omega) (by simpa using hl) (fun x hx => h1 x (.tail _ hx)) (fun x hx => h2 x (.tail _ hx)) (logR_rng hp.1 h3)
    rw [show (pre ++ [t]) ++ r = pre ++ t :: r by simp, ← wi] at ih
    show S106a F0 _ (iter (S106a F0) F) = _
    generalize iter (S106a F0) F = K at ih ⊢
    simp only [S106a, st106_3]
    simp (disch := omega) only [dlt_t, dln_t, cond_true, ofn, ib_t, tn_cast, getD_pre]
    have key := run106b (v := v) (p' := p') (v' := v') (z := z) (A := pre ++ t :: r) (ti := (pre.length : Int)) (t := t) (F0 := F0) (kx := fun s' => match s' with | ((t2_0, t2_1, t2_2, _), (t3_0, t3_1, t3_2, _), (t4_0, t4_1, t4_2, _), t5, (t7_0, t7_1, _), (t13, _), (t14, _), (t15, _), (t20, _), (t21, _), (t22, _), _) => K ((t2_0, (t2_1, (t2_2, ()))), ((t3_0, (t3_1, (t3_2, ()))), ((t4_0, (t4_1, (t4_2, ()))), (t5, ((t13, ()), ((t14, ()), (((w6 (t15 + (1 : Int))), ()), ())))))))) hp (h1 t (.head _)) (h2 t (.head _)) b [] m F0 hF0 (by simpa using hbl) hb hbn h3
    exact key.trans ih
noncomputable def okMulI (p : Int) (a b : List term.den) : Prop := (0 < p ∧ p ≤ 1000000) ∧ CanT p a ∧ CanT p b ∧ DegLe 40 a ∧ DegLe 40 b
noncomputable def cf106 : G106 := by
  classical exact fun x => if okMulI x.1.1 x.1.2.2.1 x.2.1.2.2.1 then some ((x.1.1, x.1.2.1, timesP x.1.1 x.1.2.2.1 x.2.1.2.2.1, ()), ()) else none
theorem k106 : KOne Try.prog 106 ⟨[.v poly, .v poly], [poly], true, false, 0, cf106⟩ := ok106 _ (.cons k103 .nil) cf106 fun x y h => by
  obtain ⟨⟨p, v, a, _⟩, ⟨q, w, b, _⟩, _⟩ := x
  simp only [cf106] at h
  split at h
  · rename_i hc
    injection h with h; subst h
    obtain ⟨hp, ha, hb, da, db⟩ := hc
    have la := can_len ha da (by omega)
    have lb := can_len hb db (by omega)
    refine ⟨List.length a + List.length b + 1, ?_⟩
    obtain ⟨e1, e2⟩ := mul_same (v := v) hp.1 hp.2 ha hb da db (by omega) (by omega)
    have g := g103_ok (v := v) hp e2
    rw [e1] at g
    show (bif decide (List.length a ≤ _) then _ else _) = _
    rw [dln_t (by omega), cond_true]
    refine (run106a (v := v) (p' := q) (v' := w) (z := Ty.dflt poly) (b := b) (F0 := List.length a + List.length b + 1) hp (by omega) (by omega) (small hb db (by omega)) (fun s hs => nT_rng hb hs) a [] [] (List.length a + List.length b + 1) (by omega) (by simpa using Nat.le_trans la (by omega)) (small ha da (by omega)) (fun s hs => nT_rng ha hs) fun e => by
      rw [show mgI [] e = 0 from rfl]; omega).trans ?_
    rw [g]
  · cases h
theorem g106_ok {p v v' : Int} {a b : List term.den} (h : okMulI p a b) : cf106 ((p, v, a, ()), (p, v', b, ()), ()) = some ((p, v, timesP p a b, ()), ()) := if_pos h

end Go.Proofs.YtkoifikjfnbcpaaEv
