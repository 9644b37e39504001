/- The reference's l01Put. -/
import Derived.Test.YtkoifikjfnbcpaaEvPI
set_option linter.unusedVariables false
set_option linter.unusedSimpArgs false
namespace Go.Proofs.YtkoifikjfnbcpaaEv
open Go Go.RowKit Go.Proofs

noncomputable def S98 (F0 : Nat) : ShVal sh98_5 → (ShVal sh98_5 → Option R98) → Option R98 := fun s k => st98_5 cf97 cf147 cf74 cf146 F0 s k (fun s' => match s' with | ((t2, _), (t3_0, t3_1, t3_2, _), (t4, _), (t6_0, t6_1, t6_2, _), (t7_0, t7_1, t7_2, _), (t8, _), (t9, _), _) => (bif (!t8) then (bif (growOk (List.length t7_2) (List.length ((t4, (t2, ())) :: []))) then (some ((t7_0, (t7_1, ((t7_2 ++ ((t4, (t2, ())) :: [])), ()))), ())) else none) else (some ((t7_0, (t7_1, (t7_2, ()))), ()))))
theorem run98 {p v c : Int} {e : ex.den} {z : poly.den} {F0 : Nat} (he : okX e) : ∀ (r pre out : List term.den) (done : Bool) (F : Nat), r.length < F → (pre ++ r).length ≤ 1000000 → out.length + 2 * r.length ≤ 10000000 → (∀ t ∈ r, okX t.1) →
    iter (S98 F0) F
      ((c, ()), ((p, v, pre ++ r, ()), ((e, ()), ((z.1, z.2.1, z.2.2.1, ()), ((p, v, out, ()), ((done, ()), (((pre.length : Int), ()), ()))))))) = some ((p, v, out ++ goP e c done r, ()), ())
  | [], pre, out, done, F, hF, hl, ho, hk => by
    obtain ⟨F, rfl⟩ : ∃ f, F = f + 1 := ⟨F - 1, by simp at hF; omega⟩
    rw [List.append_nil] at hl ⊢
    have hg : growOk out.length 1 = true := grow_t (by simp at ho; omega)
    simp only [iter, S98, st98_5]
    simp (disch := omega) only [dln_t, cond_true, ofn, dlt_f, cond_false]
    cases done with
    | false => simp only [Bool.not_false, cond_true, goP, cond_false, List.length_cons, List.length_nil, Nat.zero_add, hg]
    | true => simp only [Bool.not_true, cond_false, goP, cond_true, List.append_nil]
  | t :: r, pre, out, done, F, hF, hl, ho, hk => by
    obtain ⟨F, rfl⟩ : ∃ f, F = f + 1 := ⟨F - 1, by simp at hF; omega⟩
    have hpl : pre.length < (pre ++ t :: r).length := by simp
    have ho' : out.length + 2 * r.length + 2 ≤ 10000000 := by simp at ho; omega
    have hg1 : growOk out.length 1 = true := grow_t (by omega)
    have hg2 : growOk (out.length + 1) 1 = true := grow_t (by omega)
    have g : cf147 (e, t.1, ()) = some (decide (keyX e < keyX t.1), ()) := if_pos ⟨he, hk t (.head _)⟩
    have wi : w6 ((pre.length : Int) + 1) = ((pre ++ [t]).length : Int) := by rw [w6_i (by omega) (by omega)]; simp
    have ih := fun out done h => run98 (p := p) (v := v) (c := c) (z := z) (F0 := F0) he r (pre ++ [t]) out done F (by simp at hF; omega) (by simpa using hl) h (fun s hs => hk s (.tail _ hs))
    rw [show (pre ++ [t]) ++ r = pre ++ t :: r by simp, ← wi] at ih
    have q1 : (t.1 = e → Ty.eqd (.arr 3 (.int .u8)) t.1 e = true) ∧ (t.1 ≠ e → Ty.eqd (.arr 3 (.int .u8)) t.1 e = false) := ⟨fun q => (eqd_key keyT_ex).2 q, fun q => Bool.eq_false_iff.2 fun z => q ((eqd_key keyT_ex).1 z)⟩
    show S98 F0 _ (iter (S98 F0) F) = _
    generalize iter (S98 F0) F = K at ih ⊢
    simp only [S98, st98_5]
    simp (disch := omega) only [dln_t, cond_true, ofn, dlt_t, ib_t, tn_cast, getD_pre, g, List.length_cons, List.length_nil, List.length_append, Nat.zero_add, hg1, hg2]
    cases done with
    | true =>
      by_cases q : t.1 = e
      · simp only [Bool.not_true, cond_false, q1.1 q]
        rw [ih out true (by omega)]
        simp [goP, q]
      · simp only [Bool.not_true, cond_false, q1.2 q, Bool.not_false, cond_true]
        rw [show ((t.1, t.2.1, ()) : term.den) = t from rfl, ih (out ++ [t]) true (by simp; omega)]
        simp [goP, q]
    | false =>
      by_cases kq : keyX e < keyX t.1
      · have hne : t.1 ≠ e := key_neq kq
        simp only [Bool.not_false, cond_true, decide_eq_true kq, q1.2 hne]
        rw [show ((t.1, t.2.1, ()) : term.den) = t from rfl, ih (out ++ [(e, c, ())] ++ [t]) true (by simp; omega)]
        have : decide (keyX e < keyT3 t) = true := decide_eq_true kq
        simp [goP, hne, this]
      · by_cases q : t.1 = e
        · simp only [Bool.not_false, cond_true, decide_eq_false kq, cond_false, q1.1 q, Bool.not_true]
          rw [ih out false (by omega)]
          have : decide (keyX e < keyT3 t) = false := decide_eq_false kq
          simp [goP, q, this]
        · simp only [Bool.not_false, cond_true, decide_eq_false kq, cond_false, q1.2 q]
          rw [show ((t.1, t.2.1, ()) : term.den) = t from rfl, ih (out ++ [t]) false (by simp; omega)]
          have : decide (keyX e < keyT3 t) = false := decide_eq_false kq
          simp [goP, q, this]

noncomputable def c98 (p v : Int) (ts : List term.den) (e : ex.den) (x : Int) : Option (poly.den × Unit) := by
  classical exact if 0 < p ∧ p ≤ 1000000 ∧ CanT p ts ∧ okX e ∧ -1000000000000 ≤ x ∧ x ≤ 1000000000000 ∧ ts.length ≤ 1000000 then some ((p, v, putP p ts e x, ()), ()) else none
noncomputable def cf98 : G98 := fun x => c98 x.1.1 x.1.2.1 x.1.2.2.1 x.2.1 x.2.2.1
theorem coT_rng {p : Int} {ts : List term.den} {e : ex.den} (hp : 0 < p) (h : CanT p ts) : 0 ≤ coT ts e ∧ coT ts e < p := by
  by_cases q : ∃ t ∈ ts, t.1 = e
  · obtain ⟨t, ht, rfl⟩ := q
    rw [coT_mem h ht]
    have := (h.ok t ht).2
    exact ⟨Int.le_of_lt this.1, this.2⟩
  · rw [coT_none fun t ht z => q ⟨t, ht, z⟩]; exact ⟨Int.le_refl _, hp⟩
theorem k98 : KOne Try.prog 98 ⟨[.v poly, .v ex, .v i64], [poly], true, false, 0, cf98⟩ := ok98 _ _ _ _ (.cons k97 (.cons k147 (.cons k74 (.cons k146 .nil)))) cf98 fun x y h => by
  obtain ⟨⟨p, v, ts, _⟩, e, x, _⟩ := x
  simp only [cf98, c98] at h
  split at h
  · rename_i hc
    injection h with h; subst h
    obtain ⟨h1, h2, h3, h4, h5, h6, h7⟩ := hc
    have hr := coT_rng (e := e) h1 h3
    refine ⟨ts.length + 1, ?_⟩
    have g1 : cf146 ((p, v, ts, ()), e, ()) = some (coT ts e, ()) := if_pos h7
    have g2 : cf74 (p, w6 (x + coT ts e), ()) = some ((x + coT ts e) % p, ()) := by rw [w6_i (by omega) (by omega)]; exact g74_ok (by omega)
    simp only [fn98, g1, g2]
    exact run98 (F0 := ts.length + 1) h4 ts [] [] _ (ts.length + 1) (by omega) (by simpa using h7) (by simp; omega) (fun t ht => (h3.ok t ht).1)
  · cases h

end Go.Proofs.YtkoifikjfnbcpaaEv
