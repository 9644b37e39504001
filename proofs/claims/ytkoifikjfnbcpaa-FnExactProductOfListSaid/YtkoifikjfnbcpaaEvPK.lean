/- The reference's l01Plus. -/
import Derived.Test.YtkoifikjfnbcpaaEvPJ
set_option linter.unusedVariables false
set_option linter.unusedSimpArgs false
namespace Go.Proofs.YtkoifikjfnbcpaaEv
open Go Go.RowKit Go.Proofs

theorem goP_len {e : ex.den} {c : Int} : ∀ (ts : List term.den) (d : Bool), (goP e c d ts).length ≤ ts.length + (bif d then 0 else 1)
  | [], d => by cases d <;> simp [goP]
  | t :: r, d => by
    have ih := goP_len (e := e) (c := c) r (d || decide (keyX e < keyT3 t))
    have h1 : (if t.1 = e then ([] : List term.den) else [t]).length ≤ 1 := by split <;> simp
    simp only [goP, List.length_append, List.length_cons]
    cases d with
    | true => simp only [Bool.true_or, cond_true, Bool.not_true, Bool.false_and, cond_false, List.length_nil] at ih ⊢; omega
    | false =>
      cases hq : decide (keyX e < keyT3 t) with
      | true => simp only [hq, Bool.false_or, cond_true, Bool.not_false, Bool.true_and, cond_false, List.length_cons, List.length_nil] at ih ⊢; omega
      | false => simp only [hq, Bool.false_or, Bool.not_false, Bool.true_and, cond_false, List.length_nil] at ih ⊢; omega
theorem putP_len {p : Int} {ts : List term.den} {e : ex.den} {x : Int} : (putP p ts e x).length ≤ ts.length + 1 := by
  have := goP_len (e := e) (c := (x + coT ts e) % p) ts (decide ((x + coT ts e) % p = 0))
  unfold putP
  cases h : decide ((x + coT ts e) % p = 0) <;> rw [h] at this <;> simp at this <;> omega

/-- k times the terms of r put in. -/
def plusP (p : Int) (k : Int) (a r : List term.den) : List term.den := r.foldl (fun out t => putP p out t.1 (k * (show Int from t.2.1))) a
theorem plusP_can {p k : Int} (hp : 0 < p) : ∀ {r a : List term.den}, CanT p a → CanT p r → CanT p (plusP p k a r) ∧ ∀ e, coT (plusP p k a r) e = (coT a e + k * coT r e) % p
  | [], a, ha, _ => ⟨ha, fun e => by
      have := coT_rng (e := e) hp ha
      show coT a e = (coT a e + k * 0) % p
      rw [Int.mul_zero, Int.add_zero, Int.emod_eq_of_lt this.1 this.2]⟩
  | t :: r, a, ha, hr => by
    obtain ⟨h1, h2⟩ := putP_can (x := k * (show Int from t.2.1)) hp ha (hr.ok t (.head _)).1
    obtain ⟨i1, i2⟩ := plusP_can hp h1 hr.tail
    refine ⟨i1, fun e => ?_⟩
    have : coT (plusP p k a (t :: r)) e = (coT (putP p a t.1 (k * (show Int from t.2.1))) e + k * coT r e) % p := i2 e
    rw [this, h2 e]
    by_cases q : e = t.1
    · subst q
      rw [if_pos rfl, coT_head hr]
      show ((k * (show Int from t.2.1) + coT a t.1) % p + k * 0) % p = (coT a t.1 + k * (if t.1 = t.1 then t.2.1 else coT r t.1)) % p
      rw [if_pos rfl, Int.mul_zero, Int.add_zero, Int.emod_emod_of_dvd _ (Int.dvd_refl p), Int.add_comm]
    · rw [if_neg q]
      show _ = (coT a e + k * (if t.1 = e then t.2.1 else coT r e)) % p
      rw [if_neg (fun w => q w.symm)]

theorem g98_ok {p v : Int} {ts : List term.den} {e : ex.den} {x : Int} (h : 0 < p ∧ p ≤ 1000000 ∧ CanT p ts ∧ okX e ∧ -1000000000000 ≤ x ∧ x ≤ 1000000000000 ∧ ts.length ≤ 1000000) : cf98 ((p, v, ts, ()), e, x, ()) = some ((p, v, putP p ts e x, ()), ()) := if_pos h

noncomputable def S100 (F0 : Nat) : ShVal sh100_4 → (ShVal sh100_4 → Option R100) → Option R100 := fun s k => st100_4 cf97 cf98 F0 s k (fun s' => match s' with | ((t2, _), (t4_0, t4_1, t4_2, _), (t6_0, t6_1, t6_2, _), (t7_0, t7_1, t7_2, _), (t8, _), _) => (some ((t7_0, (t7_1, (t7_2, ()))), ())))
theorem run100 {p v k : Int} {q w : Int} {z : poly.den} {F0 : Nat} (hp : 0 < p ∧ p ≤ 1000000) (hk : -1000000 ≤ k ∧ k ≤ 1000000) : ∀ (r pre a : List term.den) (F : Nat), r.length < F → (pre ++ r).length ≤ 100000 → a.length + r.length ≤ 1000000 → CanT p a → CanT p r →
    iter (S100 F0) F
      ((k, ()), ((q, w, pre ++ r, ()), ((z.1, z.2.1, z.2.2.1, ()), ((p, v, a, ()), (((pre.length : Int), ()), ()))))) = some ((p, v, plusP p k a r, ()), ())
  | [], pre, a, F, hF, hl, ho, ha, hr => by
    obtain ⟨F, rfl⟩ : ∃ f, F = f + 1 := ⟨F - 1, by simp at hF; omega⟩
    rw [List.append_nil] at hl ⊢
    simp only [iter, S100, st100_4]
    simp (disch := omega) only [dln_t, cond_true, ofn, dlt_f, cond_false]
    rfl
  | t :: r, pre, a, F, hF, hl, ho, ha, hr => by
    obtain ⟨F, rfl⟩ : ∃ f, F = f + 1 := ⟨F - 1, by simp at hF; omega⟩
    have hpl : pre.length < (pre ++ t :: r).length := by simp
    have ht := hr.ok t (.head _)
    have hb : -1000000000000 ≤ k * (show Int from t.2.1) ∧ k * (show Int from t.2.1) ≤ 1000000000000 := by
      have h1 : 0 < (show Int from t.2.1) := ht.2.1
      have h2 : (show Int from t.2.1) < p := ht.2.2
      generalize (show Int from t.2.1) = y at h1 h2 ⊢
      constructor
      · have := Int.mul_le_mul_of_nonneg_right hk.1 (Int.le_of_lt h1); omega
      · have := Int.mul_le_mul_of_nonneg_right hk.2 (Int.le_of_lt h1); omega
    have wk : w6 (k * (show Int from t.2.1)) = k * (show Int from t.2.1) := w6_i (by omega) (by omega)
    have g := g98_ok (v := v) (ts := a) (e := t.1) (x := k * (show Int from t.2.1)) ⟨hp.1, hp.2, ha, ht.1, hb.1, hb.2, by simp at ho; omega⟩
    have wi : w6 ((pre.length : Int) + 1) = ((pre ++ [t]).length : Int) := by rw [w6_i (by omega) (by omega)]; simp
    have pl := putP_len (p := p) (ts := a) (e := t.1) (x := k * (show Int from t.2.1))
    have ih := run100 (v := v) (q := q) (w := w) (z := z) (F0 := F0) hp hk r (pre ++ [t]) (putP p a t.1 (k * (show Int from t.2.1))) F (by simp at hF; omega) (by simpa using hl) (by simp at ho; omega) (putP_can hp.1 ha ht.1).1 hr.tail
    rw [show (pre ++ [t]) ++ r = pre ++ t :: r by simp, ← wi] at ih
    show S100 F0 _ (iter (S100 F0) F) = _
    generalize iter (S100 F0) F = K at ih ⊢
    simp only [S100, st100_4]
    simp (disch := omega) only [dln_t, cond_true, ofn, dlt_t, ib_t, tn_cast, getD_pre]
    rw [show w6 (k * t.2.1) = k * (show Int from t.2.1) from wk, g]
    exact ih

noncomputable def c100 (p v : Int) (a : List term.den) (b : poly.den) (k : Int) : Option (poly.den × Unit) := by
  classical exact if 0 < p ∧ p ≤ 1000000 ∧ CanT p a ∧ CanT p b.2.2.1 ∧ -1000000 ≤ k ∧ k ≤ 1000000 ∧ a.length ≤ 100000 ∧ (show List term.den from b.2.2.1).length ≤ 100000 then some ((p, v, plusP p k a b.2.2.1, ()), ()) else none
noncomputable def cf100 : G100 := fun x => c100 x.1.1 x.1.2.1 x.1.2.2.1 x.2.1 x.2.2.1
theorem k100 : KOne Try.prog 100 ⟨[.v poly, .v poly, .v i64], [poly], true, false, 0, cf100⟩ := ok100 _ _ (.cons k97 (.cons k98 .nil)) cf100 fun x y h => by
  obtain ⟨⟨p, v, a, _⟩, ⟨q, w, r, _⟩, k, _⟩ := x
  simp only [cf100, c100] at h
  split at h
  · rename_i hc
    injection h with h; subst h
    obtain ⟨h1, h2, h3, h4, h5, h6, h7, h8⟩ := hc
    replace h8 : List.length r ≤ 100000 := h8
    refine ⟨List.length r + 1, ?_⟩
    have hg : growOk 0 (List.length a) = true := grow_t (by omega)
    simp only [fn100, cf97]
    show (bif growOk 0 (List.length a) then _ else none) = _
    rw [hg]
    exact run100 (F0 := List.length r + 1) ⟨h1, h2⟩ ⟨h5, h6⟩ r [] ([] ++ a) (List.length r + 1) (by omega) (by simpa using h8) (by simp; omega) h3 h4
  · cases h

end Go.Proofs.YtkoifikjfnbcpaaEv
