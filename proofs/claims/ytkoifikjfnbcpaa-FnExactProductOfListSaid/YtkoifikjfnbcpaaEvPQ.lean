/- Linear forms: letters with numbers. -/
import Derived.Test.YtkoifikjfnbcpaaEvPP
set_option linter.unusedVariables false
set_option linter.unusedSimpArgs false
namespace Go.Proofs.YtkoifikjfnbcpaaEv
open Go Go.RowKit Go.Proofs

/-- A letter. -/
def leX (i : Nat) : ex.den := tset (1 : Int) 3 (tup Int (0 : Int) 3) i
theorem leX_ok {i : Nat} (h : i < 3) : okX (leX i) ∧ degX (leX i) = 1 := by
  have a : okX (leX 0) ∧ degX (leX 0) = 1 := ⟨by show ((0 : Int) ≤ 1 ∧ (1 : Int) ≤ 255) ∧ ((0 : Int) ≤ 0 ∧ (0 : Int) ≤ 255) ∧ ((0 : Int) ≤ 0 ∧ (0 : Int) ≤ 255); omega, rfl⟩
  have b : okX (leX 1) ∧ degX (leX 1) = 1 := ⟨by show ((0 : Int) ≤ 0 ∧ (0 : Int) ≤ 255) ∧ ((0 : Int) ≤ 1 ∧ (1 : Int) ≤ 255) ∧ ((0 : Int) ≤ 0 ∧ (0 : Int) ≤ 255); omega, rfl⟩
  have c : okX (leX 2) ∧ degX (leX 2) = 1 := ⟨by show ((0 : Int) ≤ 0 ∧ (0 : Int) ≤ 255) ∧ ((0 : Int) ≤ 0 ∧ (0 : Int) ≤ 255) ∧ ((0 : Int) ≤ 1 ∧ (1 : Int) ≤ 255); omega, rfl⟩
  rcases (show i = 0 ∨ i = 1 ∨ i = 2 by omega) with rfl | rfl | rfl <;> assumption
theorem leX_ne {i j : Nat} (hi : i < 3) (hj : j < 3) (h : i ≠ j) : leX i ≠ leX j := by
  have a : leX 0 ≠ leX 1 := by decide
  have b : leX 0 ≠ leX 2 := by decide
  have c : leX 1 ≠ leX 2 := by decide
  rcases (show i = 0 ∨ i = 1 ∨ i = 2 by omega) with rfl | rfl | rfl <;> rcases (show j = 0 ∨ j = 1 ∨ j = 2 by omega) with rfl | rfl | rfl <;> first | exact absurd rfl h | assumption | (intro q; first | exact a q.symm | exact b q.symm | exact c q.symm)

def linP (p : Int) (f : Nat → Int) : Nat → List term.den
  | 0 => []
  | k + 1 => putP p (linP p f k) (leX k) (f k)
def linN (p : Int) (f : Nat → Int) : Nat → ex.den → Int
  | 0, _ => 0
  | k + 1, e => if e = leX k then f k % p else linN p f k e
def linL (f : Nat → Int) : Nat → Lg
  | 0 => []
  | k + 1 => (leX k, f k) :: linL f k
theorem linN_none {p : Int} {f : Nat → Int} : ∀ {k : Nat} {e : ex.den}, (∀ i, i < k → e ≠ leX i) → linN p f k e = 0
  | 0, e, _ => rfl
  | k + 1, e, h => by
    simp only [linN]; rw [if_neg (h k (by omega))]; exact linN_none fun i hi => h i (by omega)
theorem linN_at {p : Int} {f : Nat → Int} : ∀ {k i : Nat}, k ≤ 3 → i < k → linN p f k (leX i) = f i % p
  | k + 1, i, hk, hi => by
    simp only [linN]
    by_cases q : i = k
    · subst q; rw [if_pos rfl]
    · rw [if_neg (leX_ne (by omega) (by omega) q)]; exact linN_at (by omega) (by omega)
theorem linP_can {p : Int} {f : Nat → Int} (hp : 0 < p) : ∀ {k : Nat}, k ≤ 3 → CanT p (linP p f k) ∧ ∀ e, coT (linP p f k) e = linN p f k e
  | 0, _ => ⟨can_nil, fun e => rfl⟩
  | k + 1, hk => by
    obtain ⟨h1, h2⟩ := linP_can (f := f) hp (k := k) (by omega)
    obtain ⟨h3, h4⟩ := putP_can (x := f k) hp h1 (leX_ok (i := k) (by omega)).1
    refine ⟨h3, fun e => ?_⟩
    show coT (putP p (linP p f k) (leX k) (f k)) e = _
    rw [h4, h2, h2]
    simp only [linN]
    by_cases q : e = leX k
    · rw [if_pos q, if_pos q, linN_none fun i hi => leX_ne (by omega) (by omega) (by omega), Int.add_zero]
    · rw [if_neg q, if_neg q]
theorem linN_congr {p : Int} {f g : Nat → Int} : ∀ {k : Nat} {e : ex.den}, (∀ i, i < k → f i % p = g i % p) → linN p f k e = linN p g k e
  | 0, _, _ => rfl
  | k + 1, e, h => by simp only [linN]; rw [h k (by omega), linN_congr fun i hi => h i (by omega)]
theorem linP_congr {p : Int} {f g : Nat → Int} {k : Nat} (hp : 0 < p) (hk : k ≤ 3) (h : ∀ i, i < k → f i % p = g i % p) : linP p f k = linP p g k :=
  can_unique (linP_can hp hk).1 (linP_can hp hk).1 fun e => by rw [(linP_can hp hk).2, (linP_can hp hk).2, linN_congr h]
theorem linP_skip {p : Int} {f : Nat → Int} {k : Nat} (hp : 0 < p) (hk : k + 1 ≤ 3) (h : f k % p = 0) : linP p f (k + 1) = linP p f k :=
  can_unique (linP_can hp hk).1 (linP_can hp (by omega)).1 fun e => by
    rw [(linP_can hp hk).2, (linP_can hp (by omega)).2]
    simp only [linN]
    by_cases q : e = leX k
    · rw [if_pos q, h, q, linN_none fun i hi => leX_ne (by omega) (by omega) (by omega)]
    · rw [if_neg q]
theorem linL_get {f : Nat → Int} {p : Int} : ∀ {k : Nat} {e : ex.den}, mgI (linL f k) e % p = linN p f k e
  | 0, e => by show (0 : Int) % p = 0; simp
  | k + 1, e => by
    simp only [linL, linN]
    rw [mgI_cons]
    by_cases q : e = leX k
    · rw [if_pos q, if_pos q.symm]
    · rw [if_neg q, if_neg fun w => q w.symm]; exact linL_get
theorem linL_keys {f : Nat → Int} : ∀ {k : Nat}, k ≤ 3 → (∀ q ∈ lkeys (linL f k), okX q) ∧ (lkeys (linL f k)).length ≤ k
  | 0, _ => ⟨fun q h => (by cases h), Nat.le_refl _⟩
  | k + 1, hk => by
    obtain ⟨h1, h2⟩ := linL_keys (f := f) (k := k) (by omega)
    obtain ⟨c, d⟩ := lkeys_cons (x := leX k) (y := f k) (m := linL f k)
    refine ⟨fun q h => ?_, Nat.le_trans d (by omega)⟩
    rcases c q h with rfl | h
    · exact (leX_ok (by omega)).1
    · exact h1 q h
theorem lin_same {p v : Int} {f : Nat → Int} {k : Nat} (h1 : 0 < p) (h2 : p ≤ 1000000) (hk : k ≤ 3) : sumP p v (linL f k) = (p, v, linP p f k, ()) := by
  obtain ⟨s1, s2⟩ := sumP_can (v := v) h1 h2 (linL_keys (f := f) hk).1
  have : (sumP p v (linL f k)).2.2.1 = linP p f k := can_unique s1 (linP_can h1 hk).1 fun e => by
    rw [s2, (linP_can h1 hk).2]
    exact linL_get
  show (p, v, (sumP p v (linL f k)).2.2.1, ()) = _
  rw [this]
theorem linP_deg {p : Int} {f : Nat → Int} {k : Nat} (hp : 0 < p) (hk : k ≤ 3) : DegLe 1 (linP p f k) := by
  obtain ⟨c1, c2⟩ := linP_can (f := f) hp hk
  refine degLe_of c1 fun e he => ?_
  rw [c2, linN_none fun i hi q => by subst q; rw [(leX_ok (i := i) (by omega)).2] at he; omega]
theorem g103_lin {p v : Int} {f : Nat → Int} {k : Nat} (hp : 0 < p ∧ p ≤ 1000000) (hk : k ≤ 3) : cf103 (linL f k, p, v, ()) = some ((p, v, linP p f k, ()), ()) := by
  rw [g103_ok hp (by have := (linL_keys (f := f) hk).2; omega), lin_same hp.1 hp.2 hk]

/-! ### the law's words for polynomials -/
theorem eqd_exB (a b : ex.den) : Ty.eqd (.arr 3 (.int .u8)) a b = decide (a = b) := by
  by_cases q : a = b
  · rw [decide_eq_true q]; exact (eqd_key keyT_ex).2 q
  · rw [decide_eq_false q]; exact Bool.eq_false_iff.2 fun z => q ((eqd_key keyT_ex).1 z)

end Go.Proofs.YtkoifikjfnbcpaaEv
