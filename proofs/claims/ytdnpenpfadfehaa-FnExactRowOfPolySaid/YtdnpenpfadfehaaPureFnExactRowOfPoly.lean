/- FnExactRowOfPoly: what the program computes is what the reference computes, for all arguments. -/
import Derived.Test.YtdnpenpfadfehaaSaidFnExactRowOfPoly
namespace Go.Proofs.Ytdnpenpfadfehaa.Pure
open Go.RowKit Go.Proofs.Ytdnpenpfadfehaa.EFnExactRowOfPoly Go.Proofs.YtdnpenpfadfehaaW.PrintWords Go.Proofs.YtdnpenpfadfehaaW.PrintLast

/-- no definitional step: the kernel is never asked to compute what follows -/
theorem bnd {α β : Type} (a : α) (f : α → Option β) : (some a).bind f = f a := by
  have h : ∀ o : Option α, o = some a → o.bind f = f a := fun o h => by subst h; rfl
  exact h _ rfl
theorem wrap_in {x : Int} (h0 : -9223372036854775808 ≤ x) (h1 : x ≤ 9223372036854775807) : wrap64 x = x := by unfold wrap64; omega
theorem rd_mid (pre suf : List Int) (a : Int) : rd (pre ++ a :: suf) (pre.length : Int) = a := by simp [rd]
theorem step_k {n k : Nat} (h : n < k) : ∃ m, k = m + 1 := ⟨k - 1, by omega⟩
theorem eqI_loop : ∀ (suf pre : List Int) (k : Nat), suf.length < k → (pre ++ suf).length ≤ 1048576 →
    laws_eqInt64S.l0 k (pre ++ suf) (pre ++ suf) pre.length = some true := by
  intro suf
  induction suf with
  | nil =>
    intro pre k hk _
    obtain ⟨k, rfl⟩ := step_k hk
    simp only [laws_eqInt64S.l0]; rw [if_neg (by simp)]
  | cons a suf ih =>
    intro pre k hk hl
    obtain ⟨k, rfl⟩ := step_k hk
    simp only [List.length_append, List.length_cons] at hl hk
    have e2 : wrap64 ((pre.length : Int) + 1) = ((pre ++ [a]).length : Int) := by rw [wrap_in (by omega) (by omega)]; simp
    simp only [laws_eqInt64S.l0]
    rw [if_pos (by simp only [List.length_append, List.length_cons]; omega), if_pos (by omega), if_pos (by simp only [List.length_append, List.length_cons]; omega), if_pos trivial, e2]
    have := ih (pre ++ [a]) k (by omega) (by simp; omega)
    simpa using this
theorem eqI_is (l : List Int) (k : Nat) (hk : l.length < k) (hl : l.length ≤ 1048576) : laws_eqInt64S.f k l l = some true := by
  unfold laws_eqInt64S.f; rw [if_pos rfl]; exact eqI_loop l [] k hk (by simpa using hl)
/-- the marks from m on, n of them -/
def marks : Nat → Int → List Int
  | 0, _ => []
  | n + 1, m => m :: marks n (m + 1)
theorem marks_length : ∀ (n : Nat) (m : Int), (marks n m).length = n
  | 0, _ => rfl
  | n + 1, m => by simp [marks, marks_length n]
theorem mark_loop : ∀ (suf pre : List Int) (k : Nat) (m : Int), suf.length < k → (pre ++ suf).length ≤ 1048576 → 0 ≤ m → m + suf.length ≤ 9000000000 →
    laws_markInt64S.l0 k (pre ++ suf) m pre.length = some (m + suf.length, pre ++ marks suf.length m) := by
  intro suf
  induction suf with
  | nil =>
    intro pre k m hk _ _ _
    obtain ⟨k, rfl⟩ := step_k hk
    simp only [laws_markInt64S.l0]; rw [if_neg (by simp)]; simp [marks]
  | cons a suf ih =>
    intro pre k m hk hl h0 h1
    obtain ⟨k, rfl⟩ := step_k hk
    simp only [List.length_append, List.length_cons] at hl hk h1
    have e1 : (pre ++ a :: suf).set (pre.length : Int).toNat m = (pre ++ [m]) ++ suf := by
      rw [Int.toNat_natCast, List.set_append_right (h := Nat.le_refl _)]; simp
    have e2 : wrap64 ((pre.length : Int) + 1) = ((pre ++ [m]).length : Int) := by rw [wrap_in (by omega) (by omega)]; simp
    have e3 : wrap64 (m + 1) = m + 1 := wrap_in (by omega) (by omega)
    simp only [laws_markInt64S.l0]
    rw [if_pos (by simp only [List.length_append, List.length_cons]; omega), if_pos (by omega), e1, e2, e3]
    have := ih (pre ++ [m]) k (m + 1) (by omega) (by simp; omega) (by omega) (by omega)
    rw [this]; simp only [List.append_assoc, List.singleton_append, marks, List.length_cons]
    congr 2; omega
theorem mark_is (l : List Int) (k : Nat) (m : Int) (hk : l.length < k) (hl : l.length ≤ 1048576) (h0 : 0 ≤ m) (h1 : m ≤ 8000000000) :
    laws_markInt64S.f k l m = some (m + l.length, marks l.length m) := by
  unfold laws_markInt64S.f; exact mark_loop l [] k m hk (by simpa using hl) h0 (by omega)
theorem held_loop : ∀ (n : Nat) (pre : List Int) (k : Nat) (m : Int), n < k → pre.length + n ≤ 1048576 → 0 ≤ m → m + n ≤ 9000000000 →
    laws_heldInt64S.l0 k (pre ++ marks n m) m pre.length = some (m + n) := by
  intro n
  induction n with
  | zero =>
    intro pre k m hk _ _ _
    obtain ⟨k, rfl⟩ := step_k hk
    simp only [laws_heldInt64S.l0]; rw [if_neg (by simp [marks])]; simp
  | succ n ih =>
    intro pre k m hk hl h0 h1
    obtain ⟨k, rfl⟩ := step_k hk
    have e2 : wrap64 ((pre.length : Int) + 1) = ((pre ++ [m]).length : Int) := by rw [wrap_in (by omega) (by omega)]; simp
    have e3 : wrap64 (m + 1) = m + 1 := wrap_in (by omega) (by omega)
    rw [show marks (n + 1) m = m :: marks n (m + 1) from rfl]
    simp only [laws_heldInt64S.l0]
    rw [if_pos (by simp only [List.length_append, List.length_cons]; omega), if_pos (by omega), if_pos (rd_mid _ _ _), e2, e3]
    have := ih (pre ++ [m]) k (m + 1) (by omega) (by simp; omega) (by omega) (by omega)
    simp only [List.append_assoc, List.singleton_append] at this
    rw [this]; congr 1; omega
theorem held_is (n k : Nat) (m : Int) (hk : n < k) (hl : n ≤ 1048576) (h0 : 0 ≤ m) (h1 : m ≤ 8000000000) :
    laws_heldInt64S.f k (marks n m) m = some (m + n) := by
  unfold laws_heldInt64S.f
  exact held_loop n [] k m hk (by simpa using hl) h0 (by omega)
/-! ### exponents, terms -/
def E8 (e : S67) : Prop := (0 ≤ e.f0 ∧ e.f0 ≤ 255) ∧ (0 ≤ e.f1 ∧ e.f1 ≤ 255) ∧ (0 ≤ e.f2 ∧ e.f2 ≤ 255)
def deg3 (a b c : Int) : Int := a + b + c
theorem deg_wrap {a b c : Int} (ha : 0 ≤ a ∧ a ≤ 255) (hb : 0 ≤ b ∧ b ≤ 255) (hc : 0 ≤ c ∧ c ≤ 255) : wrap64 (wrap64 (wrap64 a + wrap64 b) + wrap64 c) = a + b + c := by
  rw [wrap_in (x := a) (by omega) (by omega), wrap_in (x := b) (by omega) (by omega), wrap_in (x := c) (by omega) (by omega), wrap_in (x := a + b) (by omega) (by omega), wrap_in (by omega) (by omega)]
theorem sSum_is {e : S67} (h : E8 e) : spec_l01Sum.f e.f0 e.f1 e.f2 = some (e.f0 + e.f1 + e.f2) := by unfold spec_l01Sum.f; rw [deg_wrap h.1 h.2.1 h.2.2]
theorem iDeg_is {e : S67} (h : E8 e) : impl_Exps_degree.f e.f0 e.f1 e.f2 = some (e.f0 + e.f1 + e.f2) := by unfold impl_Exps_degree.f; rw [deg_wrap h.1 h.2.1 h.2.2]
/-- a monomial of d letters -/
def exOK (d : Int) (e : S67) : Bool := (decide (2 ≤ d) || decide (e.f1 = 0)) && ((decide (3 ≤ d) || decide (e.f2 = 0)) && decide (e.f0 + e.f1 + e.f2 ≤ 12))
theorem sExps_is {d : Int} {e : S67} (hd : 1 ≤ d ∧ d ≤ 3) (h : E8 e) (k : Nat) (hk : 5 < k) : spec_l01Exps.f k d e.f0 e.f1 e.f2 = some (exOK d e) := by
  obtain ⟨k, rfl⟩ := step_k hk
  obtain ⟨k, rfl⟩ := step_k (n := 4) (k := k) (by omega)
  obtain ⟨k, rfl⟩ := step_k (n := 3) (k := k) (by omega)
  unfold spec_l01Exps.f exOK
  have hs := sSum_is h
  have hd' : d = 1 ∨ d = 2 ∨ d = 3 := by omega
  rcases hd' with rfl | rfl | rfl
  · by_cases h1 : e.f1 = 0
    · by_cases h2 : e.f2 = 0
      · rw [h1, h2] at hs; simp [spec_l01Exps.l0, hs, h1, h2]
      · simp [spec_l01Exps.l0, h1, h2]
    · simp [spec_l01Exps.l0, h1]
  · by_cases h2 : e.f2 = 0
    · rw [h2] at hs; simp [spec_l01Exps.l0, hs, h2]
    · simp [spec_l01Exps.l0, h2]
  · simp [spec_l01Exps.l0, hs]
/-- the order of monomials -/
def bef (a b : S67) : Bool := if a.f0 + a.f1 + a.f2 = b.f0 + b.f1 + b.f2 then (if a.f0 = b.f0 then decide (a.f1 > b.f1) else decide (a.f0 > b.f0)) else decide (a.f0 + a.f1 + a.f2 < b.f0 + b.f1 + b.f2)
theorem sBefore_is {a b : S67} (ha : E8 a) (hb : E8 b) : spec_l01Before.f a.f0 a.f1 a.f2 b.f0 b.f1 b.f2 = some (bef a b) := by
  unfold spec_l01Before.f bef
  rw [sSum_is ha, sSum_is hb, bnd, bnd]
  by_cases h : a.f0 + a.f1 + a.f2 = b.f0 + b.f1 + b.f2
  · rw [if_pos h, if_pos h]; by_cases h2 : a.f0 = b.f0
    · rw [if_pos h2, if_pos h2]
    · rw [if_neg h2, if_neg h2]
  · rw [if_neg h, if_neg h, bnd, bnd]
theorem iCompare_is {a b : S67} (ha : E8 a) (hb : E8 b) : ∃ c, impl_compareExps.f a.f0 a.f1 a.f2 b.f0 b.f1 b.f2 = some c ∧ decide (c ≥ 0) = !(bef a b) := by
  unfold impl_compareExps.f bef
  obtain ⟨a1, a2, a3⟩ := ha
  obtain ⟨b1, b2, b3⟩ := hb
  rw [iDeg_is ⟨a1, a2, a3⟩, iDeg_is ⟨b1, b2, b3⟩, bnd, bnd, wrap_in (x := _ - _) (by omega) (by omega)]
  by_cases h : a.f0 + a.f1 + a.f2 = b.f0 + b.f1 + b.f2
  · rw [if_pos (by omega), if_pos h]; by_cases h2 : a.f0 = b.f0
    · rw [if_pos h2, if_pos h2, wrap_in (x := b.f1) (by omega) (by omega), wrap_in (x := a.f1) (by omega) (by omega), wrap_in (by omega) (by omega)]
      exact ⟨_, rfl, by rw [Bool.eq_iff_iff]; simp⟩
    · rw [if_neg h2, if_neg h2, wrap_in (x := b.f0) (by omega) (by omega), wrap_in (x := a.f0) (by omega) (by omega), wrap_in (by omega) (by omega)]
      exact ⟨_, rfl, by rw [Bool.eq_iff_iff]; simp⟩
  · rw [if_neg (by omega), if_neg h]
    exact ⟨_, rfl, by rw [Bool.eq_iff_iff]; simp⟩
/-! ### polynomials -/
def isPr (p : Int) : Bool := decide (p = 2) || (decide (p = 3) || (decide (p = 5) || (decide (p = 7) || (decide (p = 11) || decide (p = 13)))))
theorem sPrime_is (p : Int) : spec_l01Prime.f p = some (isPr p) := by
  unfold spec_l01Prime.f isPr
  by_cases h1 : p = 2 <;> by_cases h2 : p = 3 <;> by_cases h3 : p = 5 <;> by_cases h4 : p = 7 <;> by_cases h5 : p = 11 <;> simp [h1, h2, h3, h4, h5]
  rw [Bool.eq_iff_iff]; simp
theorem iPrime_is (p : Int) : impl_isPrime.f p = some (isPr p) := by
  unfold impl_isPrime.f isPr
  by_cases h1 : p = 2 <;> by_cases h2 : p = 3 <;> by_cases h3 : p = 5 <;> by_cases h4 : p = 7 <;> by_cases h5 : p = 11 <;> simp [h1, h2, h3, h4, h5]
  rw [Bool.eq_iff_iff]; simp
theorem isPr_range {p : Int} (h : isPr p = true) : 2 ≤ p ∧ p ≤ 13 := by simp [isPr] at h; omega
theorem sIn_is (x lo hi : Int) : spec_l01In.f x lo hi = some (decide (lo ≤ x) && decide (x ≤ hi)) := by
  unfold spec_l01In.f; by_cases h : x ≥ lo
  · rw [if_pos h]; simp only [ge_iff_le] at h; simp [h]
  · rw [if_neg h]; simp only [ge_iff_le] at h; simp [h]
theorem iVars_is (d : Int) : impl_isVars.f d = some (decide (1 ≤ d) && decide (d ≤ 3)) := by
  unfold impl_isVars.f; by_cases h : d ≥ 1
  · rw [if_pos h]; simp only [ge_iff_le] at h; simp [h]
  · rw [if_neg h]; simp only [ge_iff_le] at h; simp [h]
theorem iDegree_is (d : Int) : impl_isDegree.f d = some (decide (0 ≤ d) && decide (d ≤ 12)) := by
  unfold impl_isDegree.f; by_cases h : d ≥ 0
  · rw [if_pos h]; simp only [ge_iff_le] at h; simp [h]
  · rw [if_neg h]; simp only [ge_iff_le] at h; simp [h]
def at_ (l : List S69) (i : Nat) : S69 := l.getD i z69
theorem rdT_is (l : List S69) (i : Nat) : rd_T69 l (i : Int) = at_ l i := by unfold rd_T69 at_; rw [Int.toNat_natCast]
/-- the term at i is as it has to be -/
def okAt (p d : Int) (l : List S69) (i : Nat) : Bool := exOK d (at_ l i).f0 && ((decide (1 ≤ (at_ l i).f1) && decide ((at_ l i).f1 ≤ p - 1)) && (decide (i = 0) || bef (at_ l (i - 1)).f0 (at_ l i).f0))
def okFrom (p d : Int) (l : List S69) : Nat → Nat → Bool
  | 0, _ => true
  | m + 1, i => okAt p d l i && okFrom p d l m (i + 1)
def okPoly (p d : Int) (l : List S69) : Bool := (isPr p && (decide (1 ≤ d) && decide (d ≤ 3))) && okFrom p d l l.length 0
def T8 (l : List S69) : Prop := ∀ t ∈ l, E8 t.f0
theorem T8_at {l : List S69} (h : T8 l) (i : Nat) : E8 (at_ l i).f0 := by
  unfold at_
  by_cases hi : i < l.length
  · rw [List.getD_eq_getElem?_getD, List.getElem?_eq_getElem hi]; exact h _ (List.getElem_mem hi)
  · rw [List.getD_eq_getElem?_getD, List.getElem?_eq_none (by omega)]
    show E8 z69.f0
    refine ⟨⟨?_, ?_⟩, ⟨?_, ?_⟩, ⟨?_, ?_⟩⟩ <;> decide
theorem sIs_loop (p d : Int) (hp : 2 ≤ p ∧ p ≤ 13) (hd : 1 ≤ d ∧ d ≤ 3) (l : List S69) (h8 : T8 l) (hl : l.length ≤ 1048576) :
    ∀ (m i k : Nat), i + m = l.length → m + 8 < k → spec_l01Is.l0 k (i : Int) p d l = some (okFrom p d l m i) := by
  intro m
  induction m with
  | zero =>
    intro i k hi hk
    obtain ⟨k, rfl⟩ := step_k hk
    simp only [spec_l01Is.l0]; rw [if_neg (by omega)]; rfl
  | succ m ih =>
    intro i k hi hk
    obtain ⟨k, rfl⟩ := step_k hk
    have e2 : wrap64 ((i : Int) + 1) = ((i + 1 : Nat) : Int) := by rw [wrap_in (by omega) (by omega)]; simp
    have ep : wrap64 (p - 1) = p - 1 := wrap_in (by omega) (by omega)
    have hrec := ih (i + 1) k (by omega) (by omega)
    simp only [spec_l01Is.l0, okFrom]
    rw [if_pos (by omega), if_pos (by omega), rdT_is, sExps_is hd (T8_at h8 i) k (by omega), bnd]
    unfold okAt
    by_cases h1 : exOK d (at_ l i).f0 = true
    · rw [if_pos h1, ep, sIn_is, bnd]
      by_cases h2 : (decide (1 ≤ (at_ l i).f1) && decide ((at_ l i).f1 ≤ p - 1)) = true
      · rw [if_pos h2]
        by_cases h3 : i = 0
        · subst h3
          rw [if_neg (by omega), e2, hrec]; simp [h1, h2]
        · have e3 : wrap64 ((i : Int) - 1) = ((i - 1 : Nat) : Int) := by rw [wrap_in (by omega) (by omega)]; omega
          rw [if_pos (by omega), e3, if_pos (by omega), if_pos (by omega), rdT_is, sBefore_is (T8_at h8 _) (T8_at h8 _), bnd]
          by_cases h4 : bef (at_ l (i - 1)).f0 (at_ l i).f0 = true
          · rw [if_pos h4, e2, hrec]; simp [h1, h2, h4]
          · rw [if_neg h4]; simp [h3, h4]
      · rw [if_neg h2]; simp only [Bool.not_eq_true] at h2; rw [h2]; simp
    · rw [if_neg h1]; simp [h1]
theorem sIs_is (p d : Int) (l : List S69) (h8 : T8 l) (hl : l.length ≤ 1048576) (k : Nat) (hk : l.length + 9 < k) : spec_l01Is.f k p d l = some (okPoly p d l) := by
  unfold spec_l01Is.f okPoly
  rw [sPrime_is, bnd]
  by_cases h1 : isPr p = true
  · rw [if_pos h1, sIn_is, bnd]
    obtain ⟨k, rfl⟩ := step_k hk
    simp only [spec_l01Is.j0]
    by_cases h2 : (decide (1 ≤ d) && decide (d ≤ 3)) = true
    · rw [h2, if_neg (by simp)]
      have := sIs_loop p d (isPr_range h1) (by simpa using h2) l h8 hl l.length 0 k (by omega) (by omega)
      rw [show ((0 : Nat) : Int) = 0 from rfl] at this
      rw [this]; simp [h1]
    · simp only [Bool.not_eq_true] at h2; rw [h2, if_pos (by simp)]; simp
  · rw [if_neg h1]
    obtain ⟨k, rfl⟩ := step_k hk
    simp only [spec_l01Is.j0]; rw [if_pos trivial]; simp only [Bool.not_eq_true] at h1; rw [h1]; simp
theorem iIs_inner (p d : Int) (hd : 1 ≤ d ∧ d ≤ 3) (l : List S69) (x17 : List S69) (x18 i : Int) (e : S67) (v : Int) (k : Nat) (hk : 6 < k) :
    ∃ j, k - 5 ≤ j ∧ j < k ∧ impl_IsPoly.l1 k d x17 x18 i p d l e.f0 e.f1 e.f2 v = if ((decide (2 ≤ d) || decide (e.f1 = 0)) && (decide (3 ≤ d) || decide (e.f2 = 0))) = true then impl_IsPoly.l0 j x17 x18 (wrap64 (i + 1)) p d l else some false := by
  obtain ⟨k, rfl⟩ := step_k hk
  obtain ⟨k, rfl⟩ := step_k (n := 5) (k := k) (by omega)
  obtain ⟨k, rfl⟩ := step_k (n := 4) (k := k) (by omega)
  have hd' : d = 1 ∨ d = 2 ∨ d = 3 := by omega
  rcases hd' with rfl | rfl | rfl
  · refine ⟨k, by omega, by omega, ?_⟩
    by_cases h1 : e.f1 = 0
    · by_cases h2 : e.f2 = 0
      · simp [impl_IsPoly.l1, h1, h2]
      · simp [impl_IsPoly.l1, h1, h2]
    · simp [impl_IsPoly.l1, h1]
  · refine ⟨k + 1, by omega, by omega, ?_⟩
    by_cases h2 : e.f2 = 0
    · simp [impl_IsPoly.l1, h2]
    · simp [impl_IsPoly.l1, h2]
  · exact ⟨k + 2, by omega, by omega, by simp [impl_IsPoly.l1]⟩
theorem iIs_loop (p d : Int) (hd : 1 ≤ d ∧ d ≤ 3) (l : List S69) (h8 : T8 l) (hl : l.length ≤ 1048576) :
    ∀ (m i k : Nat), i + m = l.length → m * 10 + 10 < k → impl_IsPoly.l0 k l l.length (i : Int) p d l = some (okFrom p d l m i) := by
  intro m
  induction m with
  | zero =>
    intro i k hi hk
    obtain ⟨k, rfl⟩ := step_k hk
    simp only [impl_IsPoly.l0]; rw [if_neg (by omega)]; rfl
  | succ m ih =>
    intro i k hi hk
    obtain ⟨k, rfl⟩ := step_k hk
    obtain ⟨k, rfl⟩ := step_k (n := m * 10 + 10) (k := k) (by omega)
    have e2 : wrap64 ((i : Int) + 1) = ((i + 1 : Nat) : Int) := by rw [wrap_in (by omega) (by omega)]; simp
    obtain ⟨j, hj1, hj2, hin⟩ := iIs_inner p d hd l l l.length i (at_ l i).f0 (at_ l i).f1 k (by omega)
    rw [e2, ih (i + 1) j (by omega) (by omega)] at hin
    simp only [impl_IsPoly.l0, okFrom]
    rw [if_pos (by omega), if_pos (by omega), if_pos (by omega), rdT_is, iDeg_is (T8_at h8 i), bnd]
    unfold okAt exOK
    by_cases h1 : (at_ l i).f0.f0 + (at_ l i).f0.f1 + (at_ l i).f0.f2 > 12
    · rw [if_pos h1]; simp only [impl_IsPoly.j2]; rw [if_pos trivial, decide_eq_false (p := _ ≤ (12 : Int)) (by omega)]; simp
    · rw [if_neg h1, decide_eq_true (p := _ ≤ (12 : Int)) (by omega)]
      by_cases h2 : (at_ l i).f1 < 1
      · rw [if_pos h2]; simp only [impl_IsPoly.j2]; rw [if_pos trivial, decide_eq_false (p := 1 ≤ _) (by omega)]; simp
      · rw [if_neg h2, decide_eq_true (p := 1 ≤ _) (by omega)]
        by_cases h3 : (at_ l i).f1 ≥ p
        · rw [if_pos h3]; simp only [impl_IsPoly.j2]; rw [if_pos trivial, decide_eq_false (p := _ ≤ p - 1) (by omega)]; simp
        · rw [if_neg h3, decide_eq_true (p := _ ≤ p - 1) (by omega)]
          by_cases h4 : i = 0
          · subst h4
            rw [if_neg (by omega)]; simp only [impl_IsPoly.j2]; rw [if_neg (by simp), hin]
            by_cases h5 : ((decide (2 ≤ d) || decide ((at_ l 0).f0.f1 = 0)) && (decide (3 ≤ d) || decide ((at_ l 0).f0.f2 = 0))) = true
            · rw [if_pos h5]; simp only [Bool.and_eq_true] at h5; rw [h5.1, h5.2]; simp
            · rw [if_neg h5]; simp only [Bool.not_eq_true] at h5; rw [Bool.and_true, h5]; simp
          · have e3 : wrap64 ((i : Int) - 1) = ((i - 1 : Nat) : Int) := by rw [wrap_in (by omega) (by omega)]; omega
            obtain ⟨c, hc, hc2⟩ := iCompare_is (T8_at h8 (i - 1)) (T8_at h8 i)
            rw [if_pos (by omega), e3, if_pos (by omega), if_pos (by omega), rdT_is, hc, bnd, hc2]
            by_cases h6 : bef (at_ l (i - 1)).f0 (at_ l i).f0 = true
            · rw [h6]; simp only [impl_IsPoly.j2]; rw [if_neg (by simp), hin]
              by_cases h5 : ((decide (2 ≤ d) || decide ((at_ l i).f0.f1 = 0)) && (decide (3 ≤ d) || decide ((at_ l i).f0.f2 = 0))) = true
              · rw [if_pos h5]; simp only [Bool.and_eq_true] at h5; rw [h5.1, h5.2]; simp
              · rw [if_neg h5]; simp only [Bool.not_eq_true] at h5; rw [Bool.and_true, h5]; simp
            · simp only [Bool.not_eq_true] at h6; rw [h6]; simp only [impl_IsPoly.j2]; rw [if_pos (by simp)]; simp [h4]
theorem iIs_is (p d : Int) (l : List S69) (h8 : T8 l) (hl : l.length ≤ 1048576) (k : Nat) (hk : l.length * 10 + 12 < k) : impl_IsPoly.f k p d l = some (okPoly p d l) := by
  unfold impl_IsPoly.f okPoly
  rw [iPrime_is, bnd]
  by_cases h1 : isPr p = true
  · rw [if_pos h1, iVars_is, bnd]
    obtain ⟨k, rfl⟩ := step_k hk
    simp only [impl_IsPoly.j0]
    by_cases h2 : (decide (1 ≤ d) && decide (d ≤ 3)) = true
    · rw [h2, if_neg (by simp)]
      have := iIs_loop p d (by simpa using h2) l h8 hl l.length 0 k (by omega) (by omega)
      rw [show ((0 : Nat) : Int) = 0 from rfl] at this
      rw [this]; simp [h1]
    · simp only [Bool.not_eq_true] at h2; rw [h2, if_pos (by simp)]; simp
  · rw [if_neg h1]
    obtain ⟨k, rfl⟩ := step_k hk
    simp only [impl_IsPoly.j0]; rw [if_pos trivial]; simp only [Bool.not_eq_true] at h1; rw [h1]; simp
theorem okPoly_spec {p d : Int} {l : List S69} (h : okPoly p d l = true) : (2 ≤ p ∧ p ≤ 13) ∧ (1 ≤ d ∧ d ≤ 3) := by
  simp only [okPoly, Bool.and_eq_true, decide_eq_true_eq] at h
  exact ⟨isPr_range h.1.1, h.1.2⟩
/-! ### monomials, rows -/
theorem rdT_mid (pre suf : List S69) (a : S69) : rd_T69 (pre ++ a :: suf) (pre.length : Int) = a := by simp [rd_T69]
theorem rdE_mid (pre suf : List S67) (a : S67) : rd_T67 (pre ++ a :: suf) (pre.length : Int) = a := by simp [rd_T67]
def keep (d b c : Int) : Bool := (decide (2 ≤ d) || decide (b = 0)) && (decide (3 ≤ d) || decide (c = 0))
theorem mon_inner (d : Int) (hd : 1 ≤ d ∧ d ≤ 3) (n a : Nat) (hn : n ≤ 12) (ha : a ≤ n) :
    ∀ (m : Nat) (acc : List S67), m ≤ n - a + 1 → acc.length + m ≤ 1000 →
      ∃ r, r.length ≤ acc.length + m ∧ ∀ k, m + 9 < k →
        spec_l01Monomials.l1 k d n acc a ((m : Int) - 1) = spec_l01Monomials.l0 (k - m - 1) d n r (wrap64 ((a : Int) - 1)) ∧
        impl_monomials.l1 k d n acc a ((m : Int) - 1) = impl_monomials.l0 (k - m - 1) d n r (wrap64 ((a : Int) - 1)) := by
  intro m
  induction m with
  | zero =>
    intro acc _ _
    refine ⟨acc, by omega, fun k hk => ?_⟩
    obtain ⟨k, rfl⟩ := step_k hk
    constructor
    · simp only [spec_l01Monomials.l1]; rw [if_neg (by omega)]; simp
    · simp only [impl_monomials.l1]; rw [if_neg (by omega)]; simp
  | succ m ih =>
    intro acc hm hacc
    have eb : ((m + 1 : Nat) : Int) - 1 = (m : Int) := by omega
    have e1 : wrap64 ((m : Int) - 1) = (m : Int) - 1 := wrap_in (by omega) (by omega)
    have e2 : wrap64 ((n : Int) - a) = (n : Int) - a := wrap_in (by omega) (by omega)
    have e3 : wrap64 ((n : Int) - a - m) = (n : Int) - a - m := wrap_in (by omega) (by omega)
    have f1 : (a : Int) % 256 = a := by omega
    have f2 : (m : Int) % 256 = m := by omega
    have f3 : ((n : Int) - a - m) % 256 = (n : Int) - a - m := by omega
    have hx : ∀ k, 5 < k → spec_l01Exps.f k d a m ((n : Int) - a - m) = some (keep d m ((n : Int) - a - m)) := fun k hk => by
      have := sExps_is (d := d) (e := ⟨(a : Int), (m : Int), (n : Int) - a - m⟩) hd ⟨⟨by simp only []; omega, by simp only []; omega⟩, ⟨by simp only []; omega, by simp only []; omega⟩, ⟨by simp only []; omega, by simp only []; omega⟩⟩ k hk
      rw [show spec_l01Exps.f k d a m ((n : Int) - a - m) = _ from this]
      simp only [exOK, keep]; rw [decide_eq_true (p := _ ≤ (12 : Int)) (by omega), Bool.and_true]
    rw [eb]
    by_cases hkp : keep d m ((n : Int) - a - m) = true
    · obtain ⟨r, hr, hrk⟩ := ih (acc ++ [⟨a, m, (n : Int) - a - m⟩]) (by omega) (by simp; omega)
      refine ⟨r, by simp at hr; omega, fun k hk => ?_⟩
      obtain ⟨k, rfl⟩ := step_k hk
      have h2 := hrk k (by omega)
      have ek : k + 1 - (m + 1) - 1 = k - m - 1 := by omega
      rw [ek]
      constructor
      · simp only [spec_l01Monomials.l1]
        rw [if_pos (by omega), e2, e3, f1, f2, f3, hx k (by omega), bnd, if_pos hkp, if_pos (by omega), e1]; exact h2.1
      · simp only [impl_monomials.l1]
        rw [if_pos (by omega), e2, e3, f1, f2, f3, e1]
        simp only [keep, Bool.and_eq_true, Bool.or_eq_true, decide_eq_true_eq] at hkp
        by_cases g1 : d < 2
        · rw [if_pos g1, if_neg (by omega), if_pos (by omega), if_neg (by omega), if_pos (by omega)]; exact h2.2
        · rw [if_neg g1]
          by_cases g2 : d < 3
          · rw [if_pos g2, if_neg (by omega), if_pos (by omega)]; exact h2.2
          · rw [if_neg g2, if_pos (by omega)]; exact h2.2
    · obtain ⟨r, hr, hrk⟩ := ih acc (by omega) (by omega)
      refine ⟨r, by omega, fun k hk => ?_⟩
      obtain ⟨k, rfl⟩ := step_k hk
      have h2 := hrk k (by omega)
      have ek : k + 1 - (m + 1) - 1 = k - m - 1 := by omega
      rw [ek]
      constructor
      · simp only [spec_l01Monomials.l1]
        rw [if_pos (by omega), e2, e3, f1, f2, f3, hx k (by omega), bnd, if_neg hkp, e1]; exact h2.1
      · simp only [impl_monomials.l1]
        rw [if_pos (by omega), e2, e3, e1]
        simp only [keep, Bool.and_eq_true, Bool.or_eq_true, decide_eq_true_eq] at hkp
        by_cases g1 : d < 2
        · rw [if_pos g1]
          by_cases g3 : (m : Int) > 0
          · rw [if_pos g3]; exact h2.2
          · rw [if_neg g3, if_pos (by omega), if_pos (by omega)]; exact h2.2
        · rw [if_neg g1, if_pos (by omega), if_pos (by omega)]; exact h2.2
theorem mon_outer (d : Int) (hd : 1 ≤ d ∧ d ≤ 3) (n : Nat) (hn : n ≤ 12) :
    ∀ (m : Nat) (acc : List S67), m ≤ n + 1 → acc.length + 14 * m ≤ 400 →
      ∃ r, r.length ≤ 400 ∧ ∀ k, m * 30 + 10 < k →
        spec_l01Monomials.l0 k d n acc ((m : Int) - 1) = some r ∧ impl_monomials.l0 k d n acc ((m : Int) - 1) = some r := by
  intro m
  induction m with
  | zero =>
    intro acc _ h
    refine ⟨acc, by omega, fun k hk => ?_⟩
    obtain ⟨k, rfl⟩ := step_k hk
    constructor
    · simp only [spec_l01Monomials.l0]; rw [if_neg (by omega)]
    · simp only [impl_monomials.l0]; rw [if_neg (by omega)]
  | succ m ih =>
    intro acc hm h
    have eb : ((m + 1 : Nat) : Int) - 1 = (m : Int) := by omega
    have e1 : wrap64 ((m : Int) - 1) = (m : Int) - 1 := wrap_in (by omega) (by omega)
    have e2 : wrap64 ((n : Int) - m) = ((n - m + 1 : Nat) : Int) - 1 := by rw [wrap_in (by omega) (by omega)]; omega
    obtain ⟨r1, hr1, h1⟩ := mon_inner d hd n m hn (by omega) (n - m + 1) acc (Nat.le_refl _) (by omega)
    obtain ⟨r, hr, h2⟩ := ih r1 (by omega) (by omega)
    refine ⟨r, hr, fun k hk => ?_⟩
    obtain ⟨k, rfl⟩ := step_k hk
    have h3 := h1 k (by omega)
    rw [e1] at h3
    have h4 := h2 (k - (n - m + 1) - 1) (by omega)
    rw [eb]
    constructor
    · simp only [spec_l01Monomials.l0]; rw [if_pos (by omega), e2]; exact h3.1.trans h4.1
    · simp only [impl_monomials.l0]; rw [if_pos (by omega), e2]; exact h3.2.trans h4.2
theorem mon_both (d : Int) (hd : 1 ≤ d ∧ d ≤ 3) (n : Int) (hn : 0 ≤ n ∧ n ≤ 12) :
    ∃ r, r.length ≤ 400 ∧ ∀ k, 500 < k → spec_l01Monomials.f k d n = some r ∧ impl_monomials.f k d n = some r := by
  obtain ⟨n, rfl⟩ : ∃ m : Nat, n = (m : Int) := ⟨n.toNat, by omega⟩
  obtain ⟨r, hr, h⟩ := mon_outer d hd n (by omega) (n + 1) [] (Nat.le_refl _) (by simp; omega)
  refine ⟨r, hr, fun k hk => ?_⟩
  have h2 := h k (by omega)
  rw [show ((n + 1 : Nat) : Int) - 1 = (n : Int) by omega] at h2
  exact h2
/-- the number of a monomial -/
def coefL : List S69 → S67 → Int
  | [], _ => 0
  | t :: r, e => if (t.f0.f0 == e.f0 && (t.f0.f1 == e.f1 && (t.f0.f2 == e.f2))) = true then t.f1 else coefL r e
theorem sAt_loop (p d : Int) (e : S67) : ∀ (suf pre : List S69) (k : Nat), suf.length < k → (pre ++ suf).length ≤ 1048576 →
    spec_l01At.l0 k pre.length p d (pre ++ suf) e.f0 e.f1 e.f2 = some (coefL suf e) := by
  intro suf
  induction suf with
  | nil =>
    intro pre k hk _
    obtain ⟨k, rfl⟩ := step_k hk
    simp only [spec_l01At.l0]; rw [if_neg (by simp)]; rfl
  | cons a suf ih =>
    intro pre k hk hl
    obtain ⟨k, rfl⟩ := step_k hk
    simp only [List.length_append, List.length_cons] at hl hk
    have e2 : wrap64 ((pre.length : Int) + 1) = ((pre ++ [a]).length : Int) := by rw [wrap_in (by omega) (by omega)]; simp
    simp only [spec_l01At.l0, coefL]
    rw [if_pos (by simp only [List.length_append, List.length_cons]; omega), if_pos (by omega), rdT_mid]
    by_cases h : (a.f0.f0 == e.f0 && (a.f0.f1 == e.f1 && (a.f0.f2 == e.f2))) = true
    · rw [if_pos h, if_pos h]
    · rw [if_neg h, if_neg h, e2]
      have := ih (pre ++ [a]) k (by omega) (by simp; omega)
      simpa using this
theorem sAt_is (p d : Int) (l : List S69) (e : S67) (k : Nat) (hk : l.length < k) (hl : l.length ≤ 1048576) : spec_l01At.f k p d l e.f0 e.f1 e.f2 = some (coefL l e) := by
  unfold spec_l01At.f; exact sAt_loop p d e l [] k hk (by simpa using hl)
theorem iCo_loop (e : S67) : ∀ (suf pre : List S69) (k : Nat), suf.length < k → (pre ++ suf).length ≤ 1048576 →
    impl_coefficient.l0 k (pre ++ suf) ((pre ++ suf).length : Int) pre.length e.f0 e.f1 e.f2 = some (coefL suf e) := by
  intro suf
  induction suf with
  | nil =>
    intro pre k hk _
    obtain ⟨k, rfl⟩ := step_k hk
    simp only [impl_coefficient.l0]; rw [if_neg (by simp)]; rfl
  | cons a suf ih =>
    intro pre k hk hl
    obtain ⟨k, rfl⟩ := step_k hk
    simp only [List.length_append, List.length_cons] at hl hk
    have e2 : wrap64 ((pre.length : Int) + 1) = ((pre ++ [a]).length : Int) := by rw [wrap_in (by omega) (by omega)]; simp
    simp only [impl_coefficient.l0, coefL]
    rw [if_pos (by simp only [List.length_append, List.length_cons]; omega), if_pos (by omega), if_pos (by simp only [List.length_append, List.length_cons]; omega), rdT_mid]
    by_cases h : (a.f0.f0 == e.f0 && (a.f0.f1 == e.f1 && (a.f0.f2 == e.f2))) = true
    · rw [if_pos h, if_pos h]
    · rw [if_neg h, if_neg h, e2]
      have := ih (pre ++ [a]) k (by omega) (by simp; omega)
      simpa using this
theorem iCo_is (p d : Int) (l : List S69) (e : S67) (k : Nat) (hk : l.length < k) (hl : l.length ≤ 1048576) : impl_coefficient.f k p d l e.f0 e.f1 e.f2 = some (coefL l e) := by
  unfold impl_coefficient.f; exact iCo_loop e l [] k hk (by simpa using hl)
theorem sRow_loop (p d : Int) (l : List S69) (hl : l.length ≤ 1048576) : ∀ (suf pre : List S67) (acc : List Int) (k : Nat), suf.length + l.length + 2 < k → (pre ++ suf).length ≤ 1000 → acc.length = pre.length →
    spec_l01Row.l0 k (pre ++ suf) acc pre.length p d l = some (acc ++ suf.map (coefL l)) := by
  intro suf
  induction suf with
  | nil =>
    intro pre acc k hk _ _
    obtain ⟨k, rfl⟩ := step_k hk
    simp only [spec_l01Row.l0]; rw [if_neg (by simp)]; simp
  | cons a suf ih =>
    intro pre acc k hk hp hacc
    obtain ⟨k, rfl⟩ := step_k hk
    simp only [List.length_append, List.length_cons] at hp hk
    have e2 : wrap64 ((pre.length : Int) + 1) = ((pre ++ [a]).length : Int) := by rw [wrap_in (by omega) (by omega)]; simp
    simp only [spec_l01Row.l0]
    rw [if_pos (by simp only [List.length_append, List.length_cons]; omega), if_pos (by omega), rdE_mid, sAt_is p d l a k (by omega) hl, bnd, if_pos (by omega), e2]
    have := ih (pre ++ [a]) (acc ++ [coefL l a]) k (by omega) (by simp; omega) (by simp [hacc])
    simpa using this
theorem iRow_loop (p d : Int) (l : List S69) (hl : l.length ≤ 1048576) : ∀ (suf pre : List S67) (acc rest : List Int) (k : Nat), suf.length + l.length + 2 < k → (pre ++ suf).length ≤ 1000 → acc.length = pre.length → rest.length = suf.length →
    impl_row.l0 k (acc ++ rest) (pre ++ suf) ((pre ++ suf).length : Int) pre.length p d l = some (acc ++ suf.map (coefL l)) := by
  intro suf
  induction suf with
  | nil =>
    intro pre acc rest k hk _ _ hr
    obtain ⟨k, rfl⟩ := step_k hk
    have : rest = [] := List.eq_nil_of_length_eq_zero hr
    subst this
    simp only [impl_row.l0]; rw [if_neg (by simp)]; simp
  | cons a suf ih =>
    intro pre acc rest k hk hp hacc hr
    obtain ⟨k, rfl⟩ := step_k hk
    cases rest with
    | nil => simp at hr
    | cons b rest =>
      simp only [List.length_append, List.length_cons] at hp hk hr
      have e1 : (acc ++ b :: rest).set (pre.length : Int).toNat (coefL l a) = (acc ++ [coefL l a]) ++ rest := by
        rw [Int.toNat_natCast, List.set_append_right (h := by omega), ← hacc]; simp
      have e2 : wrap64 ((pre.length : Int) + 1) = ((pre ++ [a]).length : Int) := by rw [wrap_in (by omega) (by omega)]; simp
      simp only [impl_row.l0]
      rw [if_pos (by simp only [List.length_append, List.length_cons]; omega), if_pos (by omega), if_pos (by simp only [List.length_append, List.length_cons]; omega), rdE_mid, iCo_is p d l a k (by omega) hl, bnd, if_pos (by simp only [List.length_append, List.length_cons]; omega), e1, e2]
      have := ih (pre ++ [a]) (acc ++ [coefL l a]) rest k (by omega) (by simp; omega) (by simp [hacc]) (by omega)
      simpa using this
theorem row_both (p d : Int) (l : List S69) (hl : l.length ≤ 1048576) (hd : 1 ≤ d ∧ d ≤ 3) (n : Int) (hn : 0 ≤ n ∧ n ≤ 12) :
    ∃ r, r.length ≤ 400 ∧ ∀ k, l.length + 1000 < k → spec_l01Row.f k p d l n = some r ∧ impl_row.f k p d l n = some r := by
  obtain ⟨ms, hms, h⟩ := mon_both d hd n hn
  refine ⟨ms.map (coefL l), by simpa using hms, fun k hk => ?_⟩
  obtain ⟨h1, h2⟩ := h k (by omega)
  constructor
  · unfold spec_l01Row.f; rw [h1, bnd]
    have := sRow_loop p d l hl ms [] [] k (by omega) (by simp; omega) rfl
    simpa using this
  · unfold impl_row.f; rw [h2, bnd, if_pos (by omega), if_pos (by simp; omega)]
    have := iRow_loop p d l hl ms [] [] (List.replicate ((ms.length : Int)).toNat 0) k (by omega) (by simp; omega) rfl (by simp)
    simpa using this
/-! ### the law's own helpers over polynomials -/
theorem rdL_mid (pre suf : List S77) (a : S77) : rd_T77 (pre ++ a :: suf) (pre.length : Int) = a := by simp [rd_T77]
def cvE (e : S30) : S67 := ⟨e.f0, e.f1, e.f2⟩
def cvT (t : S77) : S69 := ⟨cvE t.f0, t.f1⟩
theorem toExps_is (a b c : Int) (k : Nat) (hk : 4 < k) : laws_toExps.f k a b c = some (a, b, c) := by
  obtain ⟨k, rfl⟩ := step_k hk
  obtain ⟨k, rfl⟩ := step_k (n := 3) (k := k) (by omega)
  obtain ⟨k, rfl⟩ := step_k (n := 2) (k := k) (by omega)
  obtain ⟨k, rfl⟩ := step_k (n := 1) (k := k) (by omega)
  simp [laws_toExps.f, laws_toExps.l0]
theorem toTerm_is (a b c v : Int) (k : Nat) (hk : 4 < k) : laws_toTerm.f k a b c v = some (a, b, c, v) := by
  unfold laws_toTerm.f; rw [toExps_is a b c k hk, bnd]
theorem toT_loop : ∀ (suf pre : List S77) (rest : List S69) (k : Nat), rest.length = suf.length → suf.length + 5 < k → (pre ++ suf).length ≤ 1048576 →
    laws_toTermS.l0 k (pre ++ suf) (pre.map cvT ++ rest) pre.length = some ((pre ++ suf).map cvT) := by
  intro suf
  induction suf with
  | nil =>
    intro pre rest k hr hk _
    obtain ⟨k, rfl⟩ := step_k hk
    have : rest = [] := List.eq_nil_of_length_eq_zero hr
    subst this
    simp only [laws_toTermS.l0]; rw [if_neg (by simp)]; simp
  | cons a suf ih =>
    intro pre rest k hr hk hl
    obtain ⟨k, rfl⟩ := step_k hk
    cases rest with
    | nil => simp at hr
    | cons b rest =>
      simp only [List.length_append, List.length_cons] at hl hk hr
      have e1 : (pre.map cvT ++ b :: rest).set (pre.length : Int).toNat (cvT a) = (pre ++ [a]).map cvT ++ rest := by
        rw [Int.toNat_natCast, List.set_append_right (h := by simp)]; simp
      have e2 : wrap64 ((pre.length : Int) + 1) = ((pre ++ [a]).length : Int) := by rw [wrap_in (by omega) (by omega)]; simp
      simp only [laws_toTermS.l0]
      rw [if_pos (by simp only [List.length_append, List.length_cons]; omega), if_pos (by omega), rdL_mid, toTerm_is _ _ _ _ k (by omega), bnd, if_pos (by simp only [List.length_append, List.length_cons, List.length_map]; omega)]
      have := ih (pre ++ [a]) rest k (by omega) (by omega) (by simp; omega)
      rw [show (⟨⟨(a.f0.f0, a.f0.f1, a.f0.f2, a.f1).1, (a.f0.f0, a.f0.f1, a.f0.f2, a.f1).2.1, (a.f0.f0, a.f0.f1, a.f0.f2, a.f1).2.2.1⟩, (a.f0.f0, a.f0.f1, a.f0.f2, a.f1).2.2.2⟩ : S69) = cvT a from rfl, e1, e2]
      simpa using this
theorem toT_is (l : List S77) (k : Nat) (hk : l.length + 5 < k) (hl : l.length ≤ 1048576) : laws_toTermS.f k l = some (l.map cvT) := by
  unfold laws_toTermS.f
  rw [if_pos (by omega), if_pos (by simp; omega)]
  have := toT_loop l [] (List.replicate ((l.length : Int)).toNat z69) k (by simp) hk (by simpa using hl)
  simpa using this
theorem toP_is (p d : Int) (l : List S77) (k : Nat) (hk : l.length + 5 < k) (hl : l.length ≤ 1048576) : laws_toPoly.f k p d l = some (p, d, l.map cvT) := by
  unfold laws_toPoly.f; rw [toT_is l k hk hl, bnd]
theorem eqE_is (a b c : Int) (k : Nat) (hk : 4 < k) : laws_eqExps.f k a b c a b c = some true := by
  obtain ⟨k, rfl⟩ := step_k hk
  obtain ⟨k, rfl⟩ := step_k (n := 3) (k := k) (by omega)
  obtain ⟨k, rfl⟩ := step_k (n := 2) (k := k) (by omega)
  obtain ⟨k, rfl⟩ := step_k (n := 1) (k := k) (by omega)
  simp [laws_eqExps.f, laws_eqExps.l0]
theorem eqT1_is (a b c v : Int) (k : Nat) (hk : 4 < k) : laws_eqTerm.f k a b c v a b c v = some true := by
  unfold laws_eqTerm.f; rw [eqE_is a b c k hk, bnd, if_pos rfl, if_pos rfl]
theorem eqT_loop : ∀ (suf pre : List S69) (k : Nat), suf.length + 5 < k → (pre ++ suf).length ≤ 1048576 → laws_eqTermS.l0 k (pre ++ suf) (pre ++ suf) pre.length = some true := by
  intro suf
  induction suf with
  | nil =>
    intro pre k hk _
    obtain ⟨k, rfl⟩ := step_k hk
    simp only [laws_eqTermS.l0]; rw [if_neg (by simp)]
  | cons a suf ih =>
    intro pre k hk hl
    obtain ⟨k, rfl⟩ := step_k hk
    simp only [List.length_append, List.length_cons] at hl hk
    have e2 : wrap64 ((pre.length : Int) + 1) = ((pre ++ [a]).length : Int) := by rw [wrap_in (by omega) (by omega)]; simp
    simp only [laws_eqTermS.l0]
    rw [if_pos (by simp only [List.length_append, List.length_cons]; omega), if_pos (by omega), if_pos (by simp only [List.length_append, List.length_cons]; omega), rdT_mid, eqT1_is _ _ _ _ k (by omega), bnd, if_pos rfl, e2]
    have := ih (pre ++ [a]) k (by omega) (by simp; omega)
    simpa using this
theorem eqT_is (l : List S69) (k : Nat) (hk : l.length + 5 < k) (hl : l.length ≤ 1048576) : laws_eqTermS.f k l l = some true := by
  unfold laws_eqTermS.f; rw [if_pos rfl]; exact eqT_loop l [] k hk (by simpa using hl)
theorem eqP_is (p d : Int) (l : List S69) (k : Nat) (hk : l.length + 5 < k) (hl : l.length ≤ 1048576) : laws_eqPoly.f k p d l p d l = some true := by
  unfold laws_eqPoly.f; rw [if_pos rfl, if_pos rfl, eqT_is l k hk hl, bnd, if_pos rfl]
/-- the marks of terms -/
def marksT : Nat → Int → List S69
  | 0, _ => []
  | n + 1, m => ⟨⟨m % 256, (m + 1) % 256, (m + 2) % 256⟩, m + 3⟩ :: marksT n (m + 4)
theorem marksT_length : ∀ (n : Nat) (m : Int), (marksT n m).length = n
  | 0, _ => rfl
  | n + 1, m => by simp [marksT, marksT_length n]
theorem markT_loop : ∀ (suf pre : List S69) (k : Nat) (m : Int), suf.length * 5 + 5 < k → (pre ++ suf).length ≤ 1048576 → 0 ≤ m → m + 4 * suf.length ≤ 9000000000 →
    laws_markTermS.l0 k (pre ++ suf) m pre.length = some (m + 4 * suf.length, pre ++ marksT suf.length m) := by
  intro suf
  induction suf with
  | nil =>
    intro pre k m hk _ _ _
    obtain ⟨k, rfl⟩ := step_k hk
    simp only [laws_markTermS.l0]; rw [if_neg (by simp)]; simp [marksT]
  | cons a suf ih =>
    intro pre k m hk hl h0 h1
    simp only [List.length_append, List.length_cons] at hl hk h1
    obtain ⟨k, rfl⟩ : ∃ q, k = q + 5 := ⟨k - 5, by omega⟩
    have e1 : ∀ x y : S69, (pre ++ x :: suf).set (pre.length : Int).toNat y = pre ++ y :: suf := fun x y => by
      rw [Int.toNat_natCast, List.set_append_right (h := Nat.le_refl _)]; simp
    have e2 : wrap64 ((pre.length : Int) + 1) = ((pre ++ [a]).length : Int) := by rw [wrap_in (by omega) (by omega)]; simp
    have w1 : wrap64 (m + 1) = m + 1 := wrap_in (by omega) (by omega)
    have w2 : wrap64 (m + 1 + 1) = m + 2 := by rw [wrap_in (by omega) (by omega)]; omega
    have w3 : wrap64 (m + 2 + 1) = m + 3 := by rw [wrap_in (by omega) (by omega)]; omega
    have w4 : wrap64 (m + 3 + 1) = m + 4 := by rw [wrap_in (by omega) (by omega)]; omega
    have hlt : ∀ x : S69, (pre.length : Int) < ((pre ++ x :: suf).length : Int) := fun x => by simp only [List.length_append, List.length_cons]; omega
    have hp0 : (0 : Int) ≤ pre.length := by omega
    rw [laws_markTermS.l0, if_pos (hlt _), laws_markTermS.l1, if_pos (by omega), if_pos hp0, if_pos (hlt _), if_pos rfl, e1, w1, rdT_mid]
    rw [show (0 : Int) + 1 = 1 from rfl, laws_markTermS.l1, if_pos (by omega), if_pos hp0, if_pos (hlt _), if_neg (by omega), if_pos rfl, e1, w2, rdT_mid]
    rw [show (1 : Int) + 1 = 2 from rfl, laws_markTermS.l1, if_pos (by omega), if_pos hp0, if_pos (hlt _), if_neg (by omega), if_neg (by omega), if_pos rfl, e1, w3, rdT_mid]
    rw [show (2 : Int) + 1 = 3 from rfl, laws_markTermS.l1, if_neg (by omega), if_pos hp0, if_pos (hlt _), e1, w4, rdT_mid, e2]
    have := ih (pre ++ [⟨⟨m % 256, (m + 1) % 256, (m + 2) % 256⟩, m + 3⟩]) k (m + 4) (by omega) (by simp; omega) (by omega) (by omega)
    simp only [List.append_assoc, List.singleton_append, List.length_append, List.length_singleton] at this ⊢
    rw [this]; simp only [marksT, List.length_cons]
    congr 2; omega
theorem markT_is (l : List S69) (k : Nat) (m : Int) (hk : l.length * 5 + 5 < k) (hl : l.length ≤ 1048576) (h0 : 0 ≤ m) (h1 : m ≤ 4000000000) : laws_markTermS.f k l m = some (m + 4 * l.length, marksT l.length m) := by
  unfold laws_markTermS.f; exact markT_loop l [] k m hk (by simpa using hl) h0 (by omega)
theorem markP_is (p d : Int) (l : List S69) (k : Nat) (m : Int) (hk : l.length * 5 + 5 < k) (hl : l.length ≤ 1048576) (h0 : 0 ≤ m) (h1 : m ≤ 4000000000) : laws_markPoly.f k p d l m = some (m + 4 * l.length, marksT l.length m) := by
  unfold laws_markPoly.f; rw [markT_is l k m hk hl h0 h1, bnd]
theorem szP_is (p d : Int) (l : List S77) (m : Int) (hm : 0 ≤ m ∧ m ≤ 1048576) (hl : l.length ≤ 9223372036854775807) : ∃ r, laws_szPoly.f p d l m = some r ∧ (r < 0 ↔ (l.length : Int) > m) ∧ r ≤ m := by
  unfold laws_szPoly.f laws_szTermS.f
  rw [wrap_in (x := m - _) (by omega) (by omega)]
  by_cases h : m - (l.length : Int) < 0
  · rw [if_pos h, bnd, if_pos (by omega)]; exact ⟨_, rfl, by omega, by omega⟩
  · rw [if_neg h, bnd, if_neg h]; exact ⟨_, rfl, by omega, by omega⟩
theorem u8_range {n : Int} (h : (Lit.int .u8 n).wf = true) : 0 ≤ n ∧ n ≤ 255 := by
  simp [Lit.wf, IntKind.min, IntKind.max, IntKind.signed, IntKind.bits] at h; omega
theorem T8_cv {l : List S77} (h : ∀ y ∈ l, good77 y) : T8 (l.map cvT) := by
  intro t ht
  obtain ⟨y, hy, rfl⟩ := List.mem_map.1 ht
  obtain ⟨⟨h0, h1, h2⟩, _⟩ := h y hy
  exact ⟨u8_range h0, u8_range h1, u8_range h2⟩
theorem same (p d : Int) (l : List S69) (n : Int) (h8 : T8 l) (hl : l.length ≤ 1048576) :
    ∃ r c, r.length ≤ 400 ∧ ∀ k, l.length * 10 + 1100 < k → spec_RowOfPoly.f k p d l n = some (r, c) ∧ impl_RowOfPoly.f k p d l n = some (r, c) := by
  by_cases h : okPoly p d l = true
  · by_cases hn : (decide (0 ≤ n) && decide (n ≤ 12)) = true
    · obtain ⟨hp, hd⟩ := okPoly_spec h
      obtain ⟨r, hr, hrk⟩ := row_both p d l hl hd n (by simpa using hn)
      refine ⟨r, 0, hr, fun k hk => ?_⟩
      obtain ⟨h1, h2⟩ := hrk k (by omega)
      constructor
      · unfold spec_RowOfPoly.f; rw [sIs_is p d l h8 hl k (by omega), bnd, if_pos h, sIn_is, bnd, if_pos hn, h1, bnd]
      · unfold impl_RowOfPoly.f; rw [iIs_is p d l h8 hl k (by omega), bnd, if_pos h, iDegree_is, bnd, if_pos hn, h2, bnd]
    · refine ⟨[], 2, by simp, fun k hk => ?_⟩
      constructor
      · unfold spec_RowOfPoly.f; rw [sIs_is p d l h8 hl k (by omega), bnd, if_pos h, sIn_is, bnd, if_neg hn]
      · unfold impl_RowOfPoly.f; rw [iIs_is p d l h8 hl k (by omega), bnd, if_pos h, iDegree_is, bnd, if_neg hn]
  · refine ⟨[], 1, by simp, fun k hk => ?_⟩
    constructor
    · unfold spec_RowOfPoly.f; rw [sIs_is p d l h8 hl k (by omega), bnd, if_neg h]
    · unfold impl_RowOfPoly.f; rw [iIs_is p d l h8 hl k (by omega), bnd, if_neg h]
theorem FnExactRowOfPoly : laws_FnExactRowOfPoly.Pure := by
  intro p d l n _ _ hl _
  obtain ⟨hlen, hg⟩ := hl
  obtain ⟨q, hq, hq2, _⟩ := szP_is p d l 1048576 (by omega) hlen
  by_cases hneg : q < 0
  · exact ⟨1, by unfold laws_FnExactRowOfPoly.f; rw [hq, bnd, if_pos hneg]⟩
  · have hl1 : l.length ≤ 1048576 := by
      have h := mt hq2.2 hneg
      omega
    have hl2 : (l.map cvT).length ≤ 1048576 := by simpa using hl1
    have hlm : (l.map cvT).length = l.length := by simp
    obtain ⟨r, c, hr, hs⟩ := same p d (l.map cvT) n (T8_cv hg) hl2
    obtain ⟨k, hk⟩ : ∃ k, k = l.length * 10 + 3000 := ⟨_, rfl⟩
    refine ⟨k + 2, ?_⟩
    obtain ⟨hs1, hi1⟩ := hs (k + 2) (by omega)
    obtain ⟨_, hi2⟩ := hs k (by omega)
    unfold laws_FnExactRowOfPoly.f
    rw [hq, bnd, if_neg hneg, toP_is p d l _ (by omega) hl1, bnd, hs1, bnd, bnd, hi1, bnd, eqI_is r _ (by omega) (by omega), bnd, if_pos rfl, bne_self_eq_false]
    rw [laws_FnExactRowOfPoly.j0, if_neg (by simp), toP_is p d l _ (by omega) hl1, bnd, eqP_is p d _ _ (by omega) hl2, bnd, if_pos rfl, markP_is p d _ _ 1 (by omega) hl2 (by omega) (by omega), bnd, if_neg (by omega), eqI_is r _ (by omega) (by omega), bnd, if_pos rfl, bne_self_eq_false]
    rw [laws_FnExactRowOfPoly.j1, if_neg (by simp), mark_is r _ 1 (by omega) (by omega) (by omega) (by omega), bnd, held_is r.length _ 1 (by omega) (by omega) (by omega) (by omega), bnd, if_neg (by omega), if_pos rfl, toP_is p d l _ (by omega) hl1, bnd, hi2, bnd, eqI_is r _ (by omega) (by omega), bnd, if_pos rfl, bne_self_eq_false]
    obtain ⟨k, rfl⟩ : ∃ m, k = m + 1 := ⟨k - 1, by omega⟩
    rw [laws_FnExactRowOfPoly.j2, if_neg (by simp), held_is r.length _ 1 (by omega) (by omega) (by omega) (by omega), bnd, if_neg (by omega), if_pos rfl]

end Go.Proofs.Ytdnpenpfadfehaa.Pure
