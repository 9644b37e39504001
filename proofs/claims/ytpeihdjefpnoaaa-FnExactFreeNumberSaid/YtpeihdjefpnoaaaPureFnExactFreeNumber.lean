/- FnExactFreeNumber: what the program computes is what the reference computes, for all arguments. -/
import Derived.Test.YtpeihdjefpnoaaaSaidFnExactFreeNumber
namespace Go.Proofs.Ytpeihdjefpnoaaa.Pure
open Go.RowKit Go.Proofs.Ytpeihdjefpnoaaa.EFnExactFreeNumber Go.Proofs.YtpeihdjefpnoaaaW.PrintWords Go.Proofs.YtpeihdjefpnoaaaW.PrintLast

/-- no definitional step: the kernel is never asked to compute what follows -/
theorem bnd {α β : Type} (a : α) (f : α → Option β) : (some a).bind f = f a := by
  have h : ∀ o : Option α, o = some a → o.bind f = f a := fun o h => by subst h; rfl
  exact h _ rfl
theorem wrap_in {x : Int} (h0 : -9223372036854775808 ≤ x) (h1 : x ≤ 9223372036854775807) : wrap64 x = x := by unfold wrap64; omega
theorem rd_mid (pre suf : List Int) (a : Int) : rd (pre ++ a :: suf) (pre.length : Int) = a := by simp [rd]
theorem step_k {n k : Nat} (h : n < k) : ∃ m, k = m + 1 := ⟨k - 1, by omega⟩
theorem getD_put (l : List Int) (i j : Nat) (v : Int) (h : i < l.length) : (l.set i v).getD j 0 = if i = j then v else l.getD j 0 := by
  simp only [List.getD_eq_getElem?_getD, List.getElem?_set]
  by_cases h1 : i = j
  · subst h1; simp [h]
  · simp [h1]
theorem ext_getD {l l' : List Int} (h : l.length = l'.length) (h2 : ∀ j, j < l.length → l.getD j 0 = l'.getD j 0) : l = l' := by
  apply List.ext_getElem h
  intro j h3 h4
  have := h2 j h3
  simpa [List.getD_eq_getElem?_getD, List.getElem?_eq_getElem h3, List.getElem?_eq_getElem h4] using this
/-! ### exponents, terms -/
def E8 (e : S64) : Prop := (0 ≤ e.f0 ∧ e.f0 ≤ 255) ∧ (0 ≤ e.f1 ∧ e.f1 ≤ 255) ∧ (0 ≤ e.f2 ∧ e.f2 ≤ 255)
def deg3 (a b c : Int) : Int := a + b + c
theorem deg_wrap {a b c : Int} (ha : 0 ≤ a ∧ a ≤ 255) (hb : 0 ≤ b ∧ b ≤ 255) (hc : 0 ≤ c ∧ c ≤ 255) : wrap64 (wrap64 (wrap64 a + wrap64 b) + wrap64 c) = a + b + c := by
  rw [wrap_in (x := a) (by omega) (by omega), wrap_in (x := b) (by omega) (by omega), wrap_in (x := c) (by omega) (by omega), wrap_in (x := a + b) (by omega) (by omega), wrap_in (by omega) (by omega)]
theorem sSum_is {e : S64} (h : E8 e) : spec_l01Sum.f e.f0 e.f1 e.f2 = some (e.f0 + e.f1 + e.f2) := by unfold spec_l01Sum.f; rw [deg_wrap h.1 h.2.1 h.2.2]
theorem iDeg_is {e : S64} (h : E8 e) : impl_Exps_degree.f e.f0 e.f1 e.f2 = some (e.f0 + e.f1 + e.f2) := by unfold impl_Exps_degree.f; rw [deg_wrap h.1 h.2.1 h.2.2]
/-- a monomial of d letters -/
def exOK (d : Int) (e : S64) : Bool := (decide (2 ≤ d) || decide (e.f1 = 0)) && ((decide (3 ≤ d) || decide (e.f2 = 0)) && decide (e.f0 + e.f1 + e.f2 ≤ 12))
theorem sExps_is {d : Int} {e : S64} (hd : 1 ≤ d ∧ d ≤ 3) (h : E8 e) (k : Nat) (hk : 5 < k) : spec_l01Exps.f k d e.f0 e.f1 e.f2 = some (exOK d e) := by
  obtain ⟨k, rfl⟩ := step_k hk
  obtain ⟨k, rfl⟩ := step_k (n := 4) (k := k) (by omega)
  obtain ⟨k, rfl⟩ := step_k (n := 3) (k := k) (by omega)
  unfold spec_l01Exps.f exOK
  have hs := sSum_is h
  have hd' : d = 1 ∨ d = 2 ∨ d = 3 := by omega
  rcases hd' with rfl | rfl | rfl
  · by_cases h1 : e.f1 = 0
    · by_cases h2 : e.f2 = 0
      · rw [h1, h2] at hs; simp [spec_l01Exps.l0, hs, h1, h2]
      · simp [spec_l01Exps.l0, h1, h2]
    · simp [spec_l01Exps.l0, h1]
  · by_cases h2 : e.f2 = 0
    · rw [h2] at hs; simp [spec_l01Exps.l0, hs, h2]
    · simp [spec_l01Exps.l0, h2]
  · simp [spec_l01Exps.l0, hs]
/-- the order of monomials -/
def bef (a b : S64) : Bool := if a.f0 + a.f1 + a.f2 = b.f0 + b.f1 + b.f2 then (if a.f0 = b.f0 then decide (a.f1 > b.f1) else decide (a.f0 > b.f0)) else decide (a.f0 + a.f1 + a.f2 < b.f0 + b.f1 + b.f2)
theorem sBefore_is {a b : S64} (ha : E8 a) (hb : E8 b) : spec_l01Before.f a.f0 a.f1 a.f2 b.f0 b.f1 b.f2 = some (bef a b) := by
  unfold spec_l01Before.f bef
  rw [sSum_is ha, sSum_is hb, bnd, bnd]
  by_cases h : a.f0 + a.f1 + a.f2 = b.f0 + b.f1 + b.f2
  · rw [if_pos h, if_pos h]; by_cases h2 : a.f0 = b.f0
    · rw [if_pos h2, if_pos h2]
    · rw [if_neg h2, if_neg h2]
  · rw [if_neg h, if_neg h, bnd, bnd]
theorem iCompare_is {a b : S64} (ha : E8 a) (hb : E8 b) : ∃ c, impl_compareExps.f a.f0 a.f1 a.f2 b.f0 b.f1 b.f2 = some c ∧ decide (c ≥ 0) = !(bef a b) := by
  unfold impl_compareExps.f bef
  obtain ⟨a1, a2, a3⟩ := ha
  obtain ⟨b1, b2, b3⟩ := hb
  rw [iDeg_is ⟨a1, a2, a3⟩, iDeg_is ⟨b1, b2, b3⟩, bnd, bnd, wrap_in (x := _ - _) (by omega) (by omega)]
  by_cases h : a.f0 + a.f1 + a.f2 = b.f0 + b.f1 + b.f2
  · rw [if_pos (by omega), if_pos h]; by_cases h2 : a.f0 = b.f0
    · rw [if_pos h2, if_pos h2, wrap_in (x := b.f1) (by omega) (by omega), wrap_in (x := a.f1) (by omega) (by omega), wrap_in (by omega) (by omega)]
      exact ⟨_, rfl, by rw [Bool.eq_iff_iff]; simp⟩
    · rw [if_neg h2, if_neg h2, wrap_in (x := b.f0) (by omega) (by omega), wrap_in (x := a.f0) (by omega) (by omega), wrap_in (by omega) (by omega)]
      exact ⟨_, rfl, by rw [Bool.eq_iff_iff]; simp⟩
  · rw [if_neg (by omega), if_neg h]
    exact ⟨_, rfl, by rw [Bool.eq_iff_iff]; simp⟩
/-! ### polynomials -/
def isPr (p : Int) : Bool := decide (p = 2) || (decide (p = 3) || (decide (p = 5) || (decide (p = 7) || (decide (p = 11) || decide (p = 13)))))
theorem sPrime_is (p : Int) : spec_l01Prime.f p = some (isPr p) := by
  unfold spec_l01Prime.f isPr
  by_cases h1 : p = 2 <;> by_cases h2 : p = 3 <;> by_cases h3 : p = 5 <;> by_cases h4 : p = 7 <;> by_cases h5 : p = 11 <;> simp [h1, h2, h3, h4, h5]
  rw [Bool.eq_iff_iff]; simp
theorem iPrime_is (p : Int) : impl_isPrime.f p = some (isPr p) := by
  unfold impl_isPrime.f isPr
  by_cases h1 : p = 2 <;> by_cases h2 : p = 3 <;> by_cases h3 : p = 5 <;> by_cases h4 : p = 7 <;> by_cases h5 : p = 11 <;> simp [h1, h2, h3, h4, h5]
  rw [Bool.eq_iff_iff]; simp
theorem isPr_range {p : Int} (h : isPr p = true) : 2 ≤ p ∧ p ≤ 13 := by simp [isPr] at h; omega
theorem sIn_is (x lo hi : Int) : spec_l01In.f x lo hi = some (decide (lo ≤ x) && decide (x ≤ hi)) := by
  unfold spec_l01In.f; by_cases h : x ≥ lo
  · rw [if_pos h]; simp only [ge_iff_le] at h; simp [h]
  · rw [if_neg h]; simp only [ge_iff_le] at h; simp [h]
theorem iVars_is (d : Int) : impl_isVars.f d = some (decide (1 ≤ d) && decide (d ≤ 3)) := by
  unfold impl_isVars.f; by_cases h : d ≥ 1
  · rw [if_pos h]; simp only [ge_iff_le] at h; simp [h]
  · rw [if_neg h]; simp only [ge_iff_le] at h; simp [h]
def at_ (l : List S66) (i : Nat) : S66 := l.getD i z66
theorem rdT_is (l : List S66) (i : Nat) : rd_T66 l (i : Int) = at_ l i := by unfold rd_T66 at_; rw [Int.toNat_natCast]
/-- the term at i is as it has to be -/
def okAt (p d : Int) (l : List S66) (i : Nat) : Bool := exOK d (at_ l i).f0 && ((decide (1 ≤ (at_ l i).f1) && decide ((at_ l i).f1 ≤ p - 1)) && (decide (i = 0) || bef (at_ l (i - 1)).f0 (at_ l i).f0))
def okFrom (p d : Int) (l : List S66) : Nat → Nat → Bool
  | 0, _ => true
  | m + 1, i => okAt p d l i && okFrom p d l m (i + 1)
def okPoly (p d : Int) (l : List S66) : Bool := (isPr p && (decide (1 ≤ d) && decide (d ≤ 3))) && okFrom p d l l.length 0
def T8 (l : List S66) : Prop := ∀ t ∈ l, E8 t.f0
theorem T8_at {l : List S66} (h : T8 l) (i : Nat) : E8 (at_ l i).f0 := by
  unfold at_
  by_cases hi : i < l.length
  · rw [List.getD_eq_getElem?_getD, List.getElem?_eq_getElem hi]; exact h _ (List.getElem_mem hi)
  · rw [List.getD_eq_getElem?_getD, List.getElem?_eq_none (by omega)]
    show E8 z66.f0
    refine ⟨⟨?_, ?_⟩, ⟨?_, ?_⟩, ⟨?_, ?_⟩⟩ <;> decide
theorem sIs_loop (p d : Int) (hp : 2 ≤ p ∧ p ≤ 13) (hd : 1 ≤ d ∧ d ≤ 3) (l : List S66) (h8 : T8 l) (hl : l.length ≤ 1048576) :
    ∀ (m i k : Nat), i + m = l.length → m + 8 < k → spec_l01Is.l0 k (i : Int) p d l = some (okFrom p d l m i) := by
  intro m
  induction m with
  | zero =>
    intro i k hi hk
    obtain ⟨k, rfl⟩ := step_k hk
    simp only [spec_l01Is.l0]; rw [if_neg (by omega)]; rfl
  | succ m ih =>
    intro i k hi hk
    obtain ⟨k, rfl⟩ := step_k hk
    have e2 : wrap64 ((i : Int) + 1) = ((i + 1 : Nat) : Int) := by rw [wrap_in (by omega) (by omega)]; simp
    have ep : wrap64 (p - 1) = p - 1 := wrap_in (by omega) (by omega)
    have hrec := ih (i + 1) k (by omega) (by omega)
    simp only [spec_l01Is.l0, okFrom]
    rw [if_pos (by omega), if_pos (by omega), rdT_is, sExps_is hd (T8_at h8 i) k (by omega), bnd]
    unfold okAt
    by_cases h1 : exOK d (at_ l i).f0 = true
    · rw [if_pos h1, ep, sIn_is, bnd]
      by_cases h2 : (decide (1 ≤ (at_ l i).f1) && decide ((at_ l i).f1 ≤ p - 1)) = true
      · rw [if_pos h2]
        by_cases h3 : i = 0
        · subst h3
          rw [if_neg (by omega), e2, hrec]; simp [h1, h2]
        · have e3 : wrap64 ((i : Int) - 1) = ((i - 1 : Nat) : Int) := by rw [wrap_in (by omega) (by omega)]; omega
          rw [if_pos (by omega), e3, if_pos (by omega), if_pos (by omega), rdT_is, sBefore_is (T8_at h8 _) (T8_at h8 _), bnd]
          by_cases h4 : bef (at_ l (i - 1)).f0 (at_ l i).f0 = true
          · rw [if_pos h4, e2, hrec]; simp [h1, h2, h4]
          · rw [if_neg h4]; simp [h3, h4]
      · rw [if_neg h2]; simp only [Bool.not_eq_true] at h2; rw [h2]; simp
    · rw [if_neg h1]; simp [h1]
theorem sIs_is (p d : Int) (l : List S66) (h8 : T8 l) (hl : l.length ≤ 1048576) (k : Nat) (hk : l.length + 9 < k) : spec_l01Is.f k p d l = some (okPoly p d l) := by
  unfold spec_l01Is.f okPoly
  rw [sPrime_is, bnd]
  by_cases h1 : isPr p = true
  · rw [if_pos h1, sIn_is, bnd]
    obtain ⟨k, rfl⟩ := step_k hk
    simp only [spec_l01Is.j0]
    by_cases h2 : (decide (1 ≤ d) && decide (d ≤ 3)) = true
    · rw [h2, if_neg (by simp)]
      have := sIs_loop p d (isPr_range h1) (by simpa using h2) l h8 hl l.length 0 k (by omega) (by omega)
      rw [show ((0 : Nat) : Int) = 0 from rfl] at this
      rw [this]; simp [h1]
    · simp only [Bool.not_eq_true] at h2; rw [h2, if_pos (by simp)]; simp
  · rw [if_neg h1]
    obtain ⟨k, rfl⟩ := step_k hk
    simp only [spec_l01Is.j0]; rw [if_pos trivial]; simp only [Bool.not_eq_true] at h1; rw [h1]; simp
theorem iIs_inner (p d : Int) (hd : 1 ≤ d ∧ d ≤ 3) (l : List S66) (x17 : List S66) (x18 i : Int) (e : S64) (v : Int) (k : Nat) (hk : 6 < k) :
    ∃ j, k - 5 ≤ j ∧ j < k ∧ impl_IsPoly.l1 k d x17 x18 i p d l e.f0 e.f1 e.f2 v = if ((decide (2 ≤ d) || decide (e.f1 = 0)) && (decide (3 ≤ d) || decide (e.f2 = 0))) = true then impl_IsPoly.l0 j x17 x18 (wrap64 (i + 1)) p d l else some false := by
  obtain ⟨k, rfl⟩ := step_k hk
  obtain ⟨k, rfl⟩ := step_k (n := 5) (k := k) (by omega)
  obtain ⟨k, rfl⟩ := step_k (n := 4) (k := k) (by omega)
  have hd' : d = 1 ∨ d = 2 ∨ d = 3 := by omega
  rcases hd' with rfl | rfl | rfl
  · refine ⟨k, by omega, by omega, ?_⟩
    by_cases h1 : e.f1 = 0
    · by_cases h2 : e.f2 = 0
      · simp [impl_IsPoly.l1, h1, h2]
      · simp [impl_IsPoly.l1, h1, h2]
    · simp [impl_IsPoly.l1, h1]
  · refine ⟨k + 1, by omega, by omega, ?_⟩
    by_cases h2 : e.f2 = 0
    · simp [impl_IsPoly.l1, h2]
    · simp [impl_IsPoly.l1, h2]
  · exact ⟨k + 2, by omega, by omega, by simp [impl_IsPoly.l1]⟩
theorem iIs_loop (p d : Int) (hd : 1 ≤ d ∧ d ≤ 3) (l : List S66) (h8 : T8 l) (hl : l.length ≤ 1048576) :
    ∀ (m i k : Nat), i + m = l.length → m * 10 + 10 < k → impl_IsPoly.l0 k l l.length (i : Int) p d l = some (okFrom p d l m i) := by
  intro m
  induction m with
  | zero =>
    intro i k hi hk
    obtain ⟨k, rfl⟩ := step_k hk
    simp only [impl_IsPoly.l0]; rw [if_neg (by omega)]; rfl
  | succ m ih =>
    intro i k hi hk
    obtain ⟨k, rfl⟩ := step_k hk
    obtain ⟨k, rfl⟩ := step_k (n := m * 10 + 10) (k := k) (by omega)
    have e2 : wrap64 ((i : Int) + 1) = ((i + 1 : Nat) : Int) := by rw [wrap_in (by omega) (by omega)]; simp
    obtain ⟨j, hj1, hj2, hin⟩ := iIs_inner p d hd l l l.length i (at_ l i).f0 (at_ l i).f1 k (by omega)
    rw [e2, ih (i + 1) j (by omega) (by omega)] at hin
    simp only [impl_IsPoly.l0, okFrom]
    rw [if_pos (by omega), if_pos (by omega), if_pos (by omega), rdT_is, iDeg_is (T8_at h8 i), bnd]
    unfold okAt exOK
    by_cases h1 : (at_ l i).f0.f0 + (at_ l i).f0.f1 + (at_ l i).f0.f2 > 12
    · rw [if_pos h1]; simp only [impl_IsPoly.j2]; rw [if_pos trivial, decide_eq_false (p := _ ≤ (12 : Int)) (by omega)]; simp
    · rw [if_neg h1, decide_eq_true (p := _ ≤ (12 : Int)) (by omega)]
      by_cases h2 : (at_ l i).f1 < 1
      · rw [if_pos h2]; simp only [impl_IsPoly.j2]; rw [if_pos trivial, decide_eq_false (p := 1 ≤ _) (by omega)]; simp
      · rw [if_neg h2, decide_eq_true (p := 1 ≤ _) (by omega)]
        by_cases h3 : (at_ l i).f1 ≥ p
        · rw [if_pos h3]; simp only [impl_IsPoly.j2]; rw [if_pos trivial, decide_eq_false (p := _ ≤ p - 1) (by omega)]; simp
        · rw [if_neg h3, decide_eq_true (p := _ ≤ p - 1) (by omega)]
          by_cases h4 : i = 0
          · subst h4
            rw [if_neg (by omega)]; simp only [impl_IsPoly.j2]; rw [if_neg (by simp), hin]
            by_cases h5 : ((decide (2 ≤ d) || decide ((at_ l 0).f0.f1 = 0)) && (decide (3 ≤ d) || decide ((at_ l 0).f0.f2 = 0))) = true
            · rw [if_pos h5]; simp only [Bool.and_eq_true] at h5; rw [h5.1, h5.2]; simp
            · rw [if_neg h5]; simp only [Bool.not_eq_true] at h5; rw [Bool.and_true, h5]; simp
          · have e3 : wrap64 ((i : Int) - 1) = ((i - 1 : Nat) : Int) := by rw [wrap_in (by omega) (by omega)]; omega
            obtain ⟨c, hc, hc2⟩ := iCompare_is (T8_at h8 (i - 1)) (T8_at h8 i)
            rw [if_pos (by omega), e3, if_pos (by omega), if_pos (by omega), rdT_is, hc, bnd, hc2]
            by_cases h6 : bef (at_ l (i - 1)).f0 (at_ l i).f0 = true
            · rw [h6]; simp only [impl_IsPoly.j2]; rw [if_neg (by simp), hin]
              by_cases h5 : ((decide (2 ≤ d) || decide ((at_ l i).f0.f1 = 0)) && (decide (3 ≤ d) || decide ((at_ l i).f0.f2 = 0))) = true
              · rw [if_pos h5]; simp only [Bool.and_eq_true] at h5; rw [h5.1, h5.2]; simp
              · rw [if_neg h5]; simp only [Bool.not_eq_true] at h5; rw [Bool.and_true, h5]; simp
            · simp only [Bool.not_eq_true] at h6; rw [h6]; simp only [impl_IsPoly.j2]; rw [if_pos (by simp)]; simp [h4]
theorem iIs_is (p d : Int) (l : List S66) (h8 : T8 l) (hl : l.length ≤ 1048576) (k : Nat) (hk : l.length * 10 + 12 < k) : impl_IsPoly.f k p d l = some (okPoly p d l) := by
  unfold impl_IsPoly.f okPoly
  rw [iPrime_is, bnd]
  by_cases h1 : isPr p = true
  · rw [if_pos h1, iVars_is, bnd]
    obtain ⟨k, rfl⟩ := step_k hk
    simp only [impl_IsPoly.j0]
    by_cases h2 : (decide (1 ≤ d) && decide (d ≤ 3)) = true
    · rw [h2, if_neg (by simp)]
      have := iIs_loop p d (by simpa using h2) l h8 hl l.length 0 k (by omega) (by omega)
      rw [show ((0 : Nat) : Int) = 0 from rfl] at this
      rw [this]; simp [h1]
    · simp only [Bool.not_eq_true] at h2; rw [h2, if_pos (by simp)]; simp
  · rw [if_neg h1]
    obtain ⟨k, rfl⟩ := step_k hk
    simp only [impl_IsPoly.j0]; rw [if_pos trivial]; simp only [Bool.not_eq_true] at h1; rw [h1]; simp
theorem okPoly_spec {p d : Int} {l : List S66} (h : okPoly p d l = true) : (2 ≤ p ∧ p ≤ 13) ∧ (1 ≤ d ∧ d ≤ 3) := by
  simp only [okPoly, Bool.and_eq_true, decide_eq_true_eq] at h
  exact ⟨isPr_range h.1.1, h.1.2⟩
theorem rdT_mid (pre suf : List S66) (a : S66) : rd_T66 (pre ++ a :: suf) (pre.length : Int) = a := by simp [rd_T66]
/-! ### the law's own helpers over polynomials -/
theorem rdL_mid (pre suf : List S70) (a : S70) : rd_T70 (pre ++ a :: suf) (pre.length : Int) = a := by simp [rd_T70]
def cvE (e : S63) : S64 := ⟨e.f0, e.f1, e.f2⟩
def cvT (t : S70) : S66 := ⟨cvE t.f0, t.f1⟩
theorem toExps_is (a b c : Int) (k : Nat) (hk : 4 < k) : laws_toExps.f k a b c = some (a, b, c) := by
  obtain ⟨k, rfl⟩ := step_k hk
  obtain ⟨k, rfl⟩ := step_k (n := 3) (k := k) (by omega)
  obtain ⟨k, rfl⟩ := step_k (n := 2) (k := k) (by omega)
  obtain ⟨k, rfl⟩ := step_k (n := 1) (k := k) (by omega)
  simp [laws_toExps.f, laws_toExps.l0]
theorem toTerm_is (a b c v : Int) (k : Nat) (hk : 4 < k) : laws_toTerm.f k a b c v = some (a, b, c, v) := by
  unfold laws_toTerm.f; rw [toExps_is a b c k hk, bnd]
theorem toT_loop : ∀ (suf pre : List S70) (rest : List S66) (k : Nat), rest.length = suf.length → suf.length + 5 < k → (pre ++ suf).length ≤ 1048576 →
    laws_toTermS.l0 k (pre ++ suf) (pre.map cvT ++ rest) pre.length = some ((pre ++ suf).map cvT) := by
  intro suf
  induction suf with
  | nil =>
    intro pre rest k hr hk _
    obtain ⟨k, rfl⟩ := step_k hk
    have : rest = [] := List.eq_nil_of_length_eq_zero hr
    subst this
    simp only [laws_toTermS.l0]; rw [if_neg (by simp)]; simp
  | cons a suf ih =>
    intro pre rest k hr hk hl
    obtain ⟨k, rfl⟩ := step_k hk
    cases rest with
    | nil => simp at hr
    | cons b rest =>
      simp only [List.length_append, List.length_cons] at hl hk hr
      have e1 : (pre.map cvT ++ b :: rest).set (pre.length : Int).toNat (cvT a) = (pre ++ [a]).map cvT ++ rest := by
        rw [Int.toNat_natCast, List.set_append_right (h := by simp)]; simp
      have e2 : wrap64 ((pre.length : Int) + 1) = ((pre ++ [a]).length : Int) := by rw [wrap_in (by omega) (by omega)]; simp
      simp only [laws_toTermS.l0]
      rw [if_pos (by simp only [List.length_append, List.length_cons]; omega), if_pos (by omega), rdL_mid, toTerm_is _ _ _ _ k (by omega), bnd, if_pos (by simp only [List.length_append, List.length_cons, List.length_map]; omega)]
      have := ih (pre ++ [a]) rest k (by omega) (by omega) (by simp; omega)
      rw [show (⟨⟨(a.f0.f0, a.f0.f1, a.f0.f2, a.f1).1, (a.f0.f0, a.f0.f1, a.f0.f2, a.f1).2.1, (a.f0.f0, a.f0.f1, a.f0.f2, a.f1).2.2.1⟩, (a.f0.f0, a.f0.f1, a.f0.f2, a.f1).2.2.2⟩ : S66) = cvT a from rfl, e1, e2]
      simpa using this
theorem toT_is (l : List S70) (k : Nat) (hk : l.length + 5 < k) (hl : l.length ≤ 1048576) : laws_toTermS.f k l = some (l.map cvT) := by
  unfold laws_toTermS.f
  rw [if_pos (by omega), if_pos (by simp; omega)]
  have := toT_loop l [] (List.replicate ((l.length : Int)).toNat z66) k (by simp) hk (by simpa using hl)
  simpa using this
theorem toP_is (p d : Int) (l : List S70) (k : Nat) (hk : l.length + 5 < k) (hl : l.length ≤ 1048576) : laws_toPoly.f k p d l = some (p, d, l.map cvT) := by
  unfold laws_toPoly.f; rw [toT_is l k hk hl, bnd]
theorem eqE_is (a b c : Int) (k : Nat) (hk : 4 < k) : laws_eqExps.f k a b c a b c = some true := by
  obtain ⟨k, rfl⟩ := step_k hk
  obtain ⟨k, rfl⟩ := step_k (n := 3) (k := k) (by omega)
  obtain ⟨k, rfl⟩ := step_k (n := 2) (k := k) (by omega)
  obtain ⟨k, rfl⟩ := step_k (n := 1) (k := k) (by omega)
  simp [laws_eqExps.f, laws_eqExps.l0]
theorem eqT1_is (a b c v : Int) (k : Nat) (hk : 4 < k) : laws_eqTerm.f k a b c v a b c v = some true := by
  unfold laws_eqTerm.f; rw [eqE_is a b c k hk, bnd, if_pos rfl, if_pos rfl]
theorem eqT_loop : ∀ (suf pre : List S66) (k : Nat), suf.length + 5 < k → (pre ++ suf).length ≤ 1048576 → laws_eqTermS.l0 k (pre ++ suf) (pre ++ suf) pre.length = some true := by
  intro suf
  induction suf with
  | nil =>
    intro pre k hk _
    obtain ⟨k, rfl⟩ := step_k hk
    simp only [laws_eqTermS.l0]; rw [if_neg (by simp)]
  | cons a suf ih =>
    intro pre k hk hl
    obtain ⟨k, rfl⟩ := step_k hk
    simp only [List.length_append, List.length_cons] at hl hk
    have e2 : wrap64 ((pre.length : Int) + 1) = ((pre ++ [a]).length : Int) := by rw [wrap_in (by omega) (by omega)]; simp
    simp only [laws_eqTermS.l0]
    rw [if_pos (by simp only [List.length_append, List.length_cons]; omega), if_pos (by omega), if_pos (by simp only [List.length_append, List.length_cons]; omega), rdT_mid, eqT1_is _ _ _ _ k (by omega), bnd, if_pos rfl, e2]
    have := ih (pre ++ [a]) k (by omega) (by simp; omega)
    simpa using this
theorem eqT_is (l : List S66) (k : Nat) (hk : l.length + 5 < k) (hl : l.length ≤ 1048576) : laws_eqTermS.f k l l = some true := by
  unfold laws_eqTermS.f; rw [if_pos rfl]; exact eqT_loop l [] k hk (by simpa using hl)
theorem eqP_is (p d : Int) (l : List S66) (k : Nat) (hk : l.length + 5 < k) (hl : l.length ≤ 1048576) : laws_eqPoly.f k p d l p d l = some true := by
  unfold laws_eqPoly.f; rw [if_pos rfl, if_pos rfl, eqT_is l k hk hl, bnd, if_pos rfl]
theorem szP_is (p d : Int) (l : List S70) (m : Int) (hm : 0 ≤ m ∧ m ≤ 1048576) (hl : l.length ≤ 9223372036854775807) : ∃ r, laws_szPoly.f p d l m = some r ∧ (r < 0 ↔ (l.length : Int) > m) ∧ r ≤ m := by
  unfold laws_szPoly.f laws_szTermS.f
  rw [wrap_in (x := m - _) (by omega) (by omega)]
  by_cases h : m - (l.length : Int) < 0
  · rw [if_pos h, bnd, if_pos (by omega)]; exact ⟨_, rfl, by omega, by omega⟩
  · rw [if_neg h, bnd, if_neg h]; exact ⟨_, rfl, by omega, by omega⟩
theorem u8_range {n : Int} (h : (Lit.int .u8 n).wf = true) : 0 ≤ n ∧ n ≤ 255 := by
  simp [Lit.wf, IntKind.min, IntKind.max, IntKind.signed, IntKind.bits] at h; omega
theorem T8_cv {l : List S70} (h : ∀ y ∈ l, good70 y) : T8 (l.map cvT) := by
  intro t ht
  obtain ⟨y, hy, rfl⟩ := List.mem_map.1 ht
  obtain ⟨⟨h0, h1, h2⟩, _⟩ := h y hy
  exact ⟨u8_range h0, u8_range h1, u8_range h2⟩
/-! ### lists of polynomials -/
def pat (L : List S44) (i : Nat) : S44 := L.getD i z44
theorem rdP_is (L : List S44) (i : Nat) : rd_T44 L (i : Int) = pat L i := by unfold rd_T44 pat; rw [Int.toNat_natCast]
theorem rdP0_is (L : List S44) : rd_T44 L 0 = pat L 0 := rdP_is L 0
def okP (q : S44) : Bool := okPoly q.f0 q.f1 q.f2
def small (L : List S44) : Prop := L.length ≤ 1048576 ∧ ∀ q ∈ L, T8 q.f2 ∧ q.f2.length ≤ 1048576
theorem small_at {L : List S44} (h : small L) (i : Nat) : T8 (pat L i).f2 ∧ (pat L i).f2.length ≤ 1048576 := by
  unfold pat
  by_cases hi : i < L.length
  · rw [List.getD_eq_getElem?_getD, List.getElem?_eq_getElem hi]; exact h.2 _ (List.getElem_mem hi)
  · rw [List.getD_eq_getElem?_getD, List.getElem?_eq_none (by omega)]
    refine ⟨fun t ht => ?_, ?_⟩
    · exact absurd ht (by show ¬ t ∈ ([] : List S66); simp)
    · show ([] : List S66).length ≤ _; simp
def sm (e : S64) : Int := e.f0 + e.f1 + e.f2
def dgT (l : List S66) : Int := if l.length = 0 then -1 else sm (at_ l (l.length - 1)).f0
def evT (l : List S66) : Bool := if l.length = 0 then true else (sm (at_ l 0).f0 == dgT l)
theorem sDegree_is (p d : Int) (l : List S66) (h8 : T8 l) (hl : l.length ≤ 1048576) : spec_l01Degree.f p d l = some (dgT l) := by
  unfold spec_l01Degree.f dgT
  by_cases h : l.length = 0
  · rw [if_pos (by omega), if_pos h]
  · have e1 : wrap64 ((l.length : Int) - 1) = ((l.length - 1 : Nat) : Int) := by rw [wrap_in (by omega) (by omega)]; omega
    rw [if_neg (by omega), if_neg h, e1, if_pos (by omega), if_pos (by omega), rdT_is, sSum_is (T8_at h8 _), bnd]; rfl
theorem iDegP_is (p d : Int) (l : List S66) (h8 : T8 l) (hl : l.length ≤ 1048576) : impl_degree.f p d l = some (dgT l) := by
  unfold impl_degree.f dgT
  by_cases h : l.length = 0
  · rw [if_pos (by omega), if_pos h]
  · have e1 : wrap64 ((l.length : Int) - 1) = ((l.length - 1 : Nat) : Int) := by rw [wrap_in (by omega) (by omega)]; omega
    rw [if_neg (by omega), if_neg h, e1, if_pos (by omega), if_pos (by omega), rdT_is, iDeg_is (T8_at h8 _), bnd]; rfl
theorem rdT0_is (l : List S66) : rd_T66 l 0 = at_ l 0 := rdT_is l 0
theorem sEven_is (p d : Int) (l : List S66) (h8 : T8 l) (hl : l.length ≤ 1048576) : spec_l01Even.f p d l = some (evT l) := by
  unfold spec_l01Even.f evT
  by_cases h : l.length = 0
  · rw [if_pos (by omega), if_pos h]
  · rw [if_neg (by omega), if_neg h, if_pos (by omega), rdT0_is, sSum_is (T8_at h8 _), bnd, sDegree_is p d l h8 hl, bnd]; rfl
theorem iHom_is (p d : Int) (l : List S66) (h8 : T8 l) (hl : l.length ≤ 1048576) : impl_homogeneous.f p d l = some (evT l) := by
  unfold impl_homogeneous.f impl_isZero.f evT
  rw [bnd]
  by_cases h : l.length = 0
  · rw [if_pos (by rw [h]; rfl), if_pos h]
  · rw [if_neg (by simp only [beq_iff_eq]; omega), if_neg h, if_pos (by omega), rdT0_is, iDeg_is (T8_at h8 _), bnd, iDegP_is p d l h8 hl, bnd]; rfl
def lkP (q h : S44) : Bool := decide (q.f0 = h.f0) && (decide (q.f1 = h.f1) && (decide (1 ≤ dgT q.f2) && evT q.f2))
def allFrom (f : Nat → Bool) : Nat → Nat → Bool
  | 0, _ => true
  | m + 1, i => f i && allFrom f m (i + 1)
theorem allFrom_succ (f : Nat → Bool) (m i : Nat) : allFrom f (m + 1) i = (f i && allFrom f m (i + 1)) := rfl
theorem allFrom_zero (f : Nat → Bool) (i : Nat) : allFrom f 0 i = true := rfl
theorem allFrom_at {f : Nat → Bool} : ∀ (m i : Nat), allFrom f m i = true → ∀ j, i ≤ j → j < i + m → f j = true := by
  intro m
  induction m with
  | zero => intro i _ j h1 h2; omega
  | succ m ih =>
    intro i h j h1 h2
    simp only [allFrom, Bool.and_eq_true] at h
    by_cases hj : j = i
    · subst hj; exact h.1
    · exact ih (i + 1) h.2 j (by omega) (by omega)
def okA (L : List S44) (i : Nat) : Bool := okP (pat L i)
def lkA (L : List S44) (i : Nat) : Bool := lkP (pat L i) (pat L 0)
def allOk (L : List S44) : Bool := allFrom (okA L) L.length 0
def allLk (L : List S44) : Bool := allFrom (lkA L) L.length 0
theorem lkA_no (L : List S44) (i : Nat) (h : ¬ ((pat L i).f0 = (pat L 0).f0 ∧ (pat L i).f1 = (pat L 0).f1 ∧ 1 ≤ dgT (pat L i).f2 ∧ evT (pat L i).f2 = true)) : lkA L i = false := by
  rw [Bool.eq_false_iff]; intro h2; unfold lkA lkP at h2
  simp only [Bool.and_eq_true, decide_eq_true_eq] at h2; exact h h2
theorem lkA_yes (L : List S44) (i : Nat) (h : (pat L i).f0 = (pat L 0).f0 ∧ (pat L i).f1 = (pat L 0).f1 ∧ 1 ≤ dgT (pat L i).f2 ∧ evT (pat L i).f2 = true) : lkA L i = true := by
  unfold lkA lkP; simp only [Bool.and_eq_true, decide_eq_true_eq]; exact h
def codeL (L : List S44) : Int := if allOk L = true then (if L.length = 0 then 2 else if L.length ≤ 8 then (if allLk L = true then 0 else 2) else 2) else 1
theorem sList1 (L : List S44) (hs : small L) : ∀ (m i k : Nat), i + m = L.length → m < k →
    spec_l05List.l1 k L i = some (if allFrom (lkA L) m i = true then 0 else 2) := by
  intro m
  induction m with
  | zero =>
    intro i k h1 hk
    obtain ⟨k, rfl⟩ := step_k hk
    simp only [spec_l05List.l1]; rw [if_neg (by omega), allFrom_zero]; try rw [if_pos rfl]
  | succ m ih =>
    intro i k h1 hk
    obtain ⟨k, rfl⟩ := step_k hk
    have hl := hs.1
    have e2 : wrap64 ((i : Int) + 1) = ((i + 1 : Nat) : Int) := by rw [wrap_in (by omega) (by omega)]; simp
    obtain ⟨h8, h9⟩ := small_at hs i
    have hrec := ih (i + 1) k (by omega) (by omega)
    simp only [spec_l05List.l1]
    rw [if_pos (by omega), if_pos (by omega), if_pos (by omega), rdP_is, rdP0_is]
    rw [allFrom_succ]
    by_cases c1 : (pat L i).f0 = (pat L 0).f0
    · rw [if_pos c1]
      by_cases c2 : (pat L i).f1 = (pat L 0).f1
      · rw [if_pos c2, sDegree_is _ _ _ h8 h9, bnd]
        by_cases c3 : dgT (pat L i).f2 < 1
        · rw [if_pos c3, lkA_no L i (fun h => by have := h.2.2.1; omega), Bool.false_and, if_neg (by decide)]
        · rw [if_neg c3, sEven_is _ _ _ h8 h9, bnd]
          by_cases c4 : evT (pat L i).f2 = true
          · rw [if_pos c4, e2, hrec, lkA_yes L i ⟨c1, c2, by omega, c4⟩, Bool.true_and]
          · rw [if_neg c4, lkA_no L i (fun h => c4 h.2.2.2), Bool.false_and, if_neg (by decide)]
      · rw [if_neg c2, lkA_no L i (fun h => c2 h.2.1), Bool.false_and, if_neg (by decide)]
    · rw [if_neg c1, lkA_no L i (fun h => c1 h.1), Bool.false_and, if_neg (by decide)]
theorem sList0 (L : List S44) (hs : small L) : ∀ (m i k : Nat), i + m = L.length → m + L.length + 11000000 < k →
    spec_l05List.l0 k L i = some (if allFrom (okA L) m i = true then (if L.length ≤ 8 then (if allLk L = true then 0 else 2) else 2) else 1) := by
  intro m
  induction m with
  | zero =>
    intro i k h1 hk
    obtain ⟨k, rfl⟩ := step_k hk
    simp only [spec_l05List.l0]; rw [if_neg (by omega), allFrom_zero, if_pos rfl]
    by_cases h : L.length ≤ 8
    · rw [if_neg (by omega), if_pos h]
      exact sList1 L hs L.length 0 k (by omega) (by omega)
    · rw [if_pos (by omega), if_neg h]
  | succ m ih =>
    intro i k h1 hk
    obtain ⟨k, rfl⟩ := step_k hk
    have hl := hs.1
    have e2 : wrap64 ((i : Int) + 1) = ((i + 1 : Nat) : Int) := by rw [wrap_in (by omega) (by omega)]; simp
    obtain ⟨h8, h9⟩ := small_at hs i
    have hrec := ih (i + 1) k (by omega) (by omega)
    simp only [spec_l05List.l0]
    rw [if_pos (by omega), if_pos (by omega), rdP_is, sIs_is _ _ _ h8 h9 k (by omega), bnd]
    rw [allFrom_succ]
    by_cases c : okPoly (pat L i).f0 (pat L i).f1 (pat L i).f2 = true
    · rw [if_pos c, e2, hrec, show okA L i = true from c, Bool.true_and]
    · rw [if_neg c, if_neg (by intro h; rw [Bool.and_eq_true] at h; exact c h.1)]
theorem sSome_is (L : List S44) (hs : small L) (n : Int) (k : Nat) (hk : 14000000 < k) :
    spec_l05Some.f k L n = some (if codeL L = 0 then (if (decide (0 ≤ n) && decide (n ≤ 12)) = true then 0 else 2) else codeL L) := by
  have hl := hs.1
  unfold spec_l05Some.f spec_l05List.f
  have h0 := sList0 L hs L.length 0 k (by omega) (by omega)
  rw [show ((0 : Nat) : Int) = 0 from rfl] at h0
  rw [h0, bnd]
  unfold codeL
  rw [show allFrom (okA L) L.length 0 = allOk L from rfl]
  by_cases c1 : allOk L = true
  · rw [if_pos c1, if_pos c1]
    by_cases c2 : L.length = 0
    · have hlk : allLk L = true := by unfold allLk; rw [c2]; rfl
      rw [if_pos (by omega : L.length ≤ 8), if_pos c2, if_pos hlk, if_pos rfl, if_pos (by omega), if_neg (by omega)]
    · rw [if_neg c2]
      by_cases c3 : L.length ≤ 8
      · rw [if_pos c3]
        by_cases c4 : allLk L = true
        · rw [if_pos c4, if_pos rfl, if_pos rfl, if_neg (by omega), sIn_is, bnd]; split <;> rfl
        · rw [if_neg c4, if_neg (by omega), if_neg (by omega)]
      · rw [if_neg c3, if_neg (by omega), if_neg (by omega)]
  · rw [if_neg c1, if_neg c1, if_neg (by omega), if_neg (by omega)]
theorem iAre_is (L : List S44) (hs : small L) : ∀ (m i k : Nat), i + m = L.length → m + 11000000 < k →
    impl_arePolys.l0 k L L.length i = some (allFrom (okA L) m i) := by
  intro m
  induction m with
  | zero =>
    intro i k h1 hk
    obtain ⟨k, rfl⟩ := step_k hk
    simp only [impl_arePolys.l0]; rw [if_neg (by omega), allFrom_zero]; try rw [if_pos rfl]
  | succ m ih =>
    intro i k h1 hk
    obtain ⟨k, rfl⟩ := step_k hk
    have hl := hs.1
    have e2 : wrap64 ((i : Int) + 1) = ((i + 1 : Nat) : Int) := by rw [wrap_in (by omega) (by omega)]; simp
    obtain ⟨h8, h9⟩ := small_at hs i
    have hrec := ih (i + 1) k (by omega) (by omega)
    simp only [impl_arePolys.l0]
    rw [if_pos (by omega), if_pos (by omega), if_pos (by omega), rdP_is, iIs_is _ _ _ h8 h9 k (by omega), bnd]
    rw [allFrom_succ]
    by_cases c : okPoly (pat L i).f0 (pat L i).f1 (pat L i).f2 = true
    · rw [if_pos c, e2, hrec, show okA L i = true from c, Bool.true_and]
    · rw [if_neg c, show okA L i = false from by rw [Bool.eq_false_iff]; exact c, Bool.false_and]
theorem iLst_is (L : List S44) (hs : small L) : ∀ (m i k : Nat), i + m = L.length → m < k →
    impl_isList.l0 k L L L.length i = some (allFrom (lkA L) m i && decide (L.length ≤ 8)) := by
  intro m
  induction m with
  | zero =>
    intro i k h1 hk
    obtain ⟨k, rfl⟩ := step_k hk
    simp only [impl_isList.l0]; rw [if_neg (by omega), allFrom_zero, Bool.true_and]; congr 1; rw [decide_eq_decide]; omega
  | succ m ih =>
    intro i k h1 hk
    obtain ⟨k, rfl⟩ := step_k hk
    have hl := hs.1
    have e2 : wrap64 ((i : Int) + 1) = ((i + 1 : Nat) : Int) := by rw [wrap_in (by omega) (by omega)]; simp
    obtain ⟨h8, h9⟩ := small_at hs i
    have hrec := ih (i + 1) k (by omega) (by omega)
    simp only [impl_isList.l0]
    rw [if_pos (by omega), if_pos (by omega), if_pos (by omega), if_pos (by omega), rdP_is, rdP0_is]
    rw [allFrom_succ]
    unfold impl_alike.f
    by_cases c1 : (pat L i).f0 = (pat L 0).f0
    · rw [if_pos c1, bnd]
      by_cases c2 : (pat L i).f1 = (pat L 0).f1
      · rw [if_pos (beq_iff_eq.2 c2), iHom_is _ _ _ h8 h9, bnd]
        by_cases c4 : evT (pat L i).f2 = true
        · rw [if_pos c4, iDegP_is _ _ _ h8 h9, bnd]
          by_cases c3 : dgT (pat L i).f2 < 1
          · rw [if_pos c3, lkA_no L i (fun h => by have := h.2.2.1; omega), Bool.false_and, Bool.false_and]
          · rw [if_neg c3, e2, hrec, lkA_yes L i ⟨c1, c2, by omega, c4⟩, Bool.true_and]
        · rw [if_neg c4, lkA_no L i (fun h => c4 h.2.2.2), Bool.false_and, Bool.false_and]
      · rw [if_neg (fun h => c2 (beq_iff_eq.1 h)), lkA_no L i (fun h => c2 h.2.1), Bool.false_and, Bool.false_and]
    · rw [if_neg c1, bnd, if_neg (by decide), lkA_no L i (fun h => c1 h.1), Bool.false_and, Bool.false_and]
theorem iCode_is (L : List S44) (hs : small L) (k : Nat) (hk : 14000000 < k) : impl_listCode.f k L = some (codeL L) := by
  have hl := hs.1
  unfold impl_listCode.f impl_arePolys.f impl_isList.f codeL
  have h0 := iAre_is L hs L.length 0 k (by omega) (by omega)
  have h1 := iLst_is L hs L.length 0 k (by omega) (by omega)
  rw [show ((0 : Nat) : Int) = 0 from rfl] at h0 h1
  rw [h0, bnd, h1]
  rw [show allFrom (okA L) L.length 0 = allOk L from rfl, show allFrom (lkA L) L.length 0 = allLk L from rfl]
  by_cases c1 : allOk L = true
  · rw [if_pos c1, if_pos c1]
    by_cases c2 : L.length = 0
    · rw [if_pos (by omega), if_pos c2]
    · rw [if_neg (by omega), if_neg c2, bnd]
      by_cases c3 : L.length ≤ 8
      · by_cases c4 : allLk L = true
        · rw [if_pos (by simp [c3, c4]), if_pos c3, if_pos c4]
        · rw [if_neg (by simp [c4]), if_pos c3, if_neg c4]
      · rw [if_neg (by simp [c3]), if_neg c3]
  · rw [if_neg c1, if_neg c1]
theorem okAt_of {p d : Int} {l : List S66} : ∀ (m i : Nat), okFrom p d l m i = true → ∀ j, i ≤ j → j < i + m → okAt p d l j = true := by
  intro m
  induction m with
  | zero => intro i _ j h1 h2; omega
  | succ m ih =>
    intro i h j h1 h2
    simp only [okFrom, Bool.and_eq_true] at h
    by_cases hj : j = i
    · subst hj; exact h.1
    · exact ih (i + 1) h.2 j (by omega) (by omega)
theorem dg_le {p d : Int} {l : List S66} (h : okPoly p d l = true) : dgT l ≤ 12 := by
  unfold dgT
  by_cases hl : l.length = 0
  · rw [if_pos hl]; omega
  · rw [if_neg hl]
    unfold okPoly at h
    rw [Bool.and_eq_true] at h
    have h1 := okAt_of _ _ h.2 (l.length - 1) (by omega) (by omega)
    unfold okAt exOK at h1
    simp only [Bool.and_eq_true, decide_eq_true_eq] at h1
    have := h1.1.2.2
    unfold sm; omega
/-- what a list has to be -/
theorem code_spec {L : List S44} (h : codeL L = 0) : 1 ≤ L.length ∧ L.length ≤ 8 ∧ (∀ i, i < L.length → okP (pat L i) = true) ∧ (∀ i, i < L.length → lkP (pat L i) (pat L 0) = true) ∧ ∀ i, i < L.length → 1 ≤ dgT (pat L i).f2 ∧ dgT (pat L i).f2 ≤ 12 := by
  unfold codeL at h
  by_cases c1 : allOk L = true
  · rw [if_pos c1] at h
    by_cases c2 : L.length = 0
    · rw [if_pos c2] at h; omega
    · rw [if_neg c2] at h
      by_cases c3 : L.length ≤ 8
      · rw [if_pos c3] at h
        by_cases c4 : allLk L = true
        · have g1 : ∀ i, i < L.length → okP (pat L i) = true := fun i hi => allFrom_at _ _ c1 i (by omega) (by omega)
          have g2 : ∀ i, i < L.length → lkP (pat L i) (pat L 0) = true := fun i hi => allFrom_at _ _ c4 i (by omega) (by omega)
          refine ⟨by omega, c3, g1, g2, fun i hi => ⟨?_, dg_le (g1 i hi)⟩⟩
          have := g2 i hi
          unfold lkA lkP at this
          simp only [Bool.and_eq_true, decide_eq_true_eq] at this
          exact this.2.2.1
        · rw [if_neg c4] at h; omega
      · rw [if_neg c3] at h; omega
  · rw [if_neg c1] at h; omega
/-! ### the law's own helpers over lists of polynomials -/
theorem rdLP_mid (pre suf : List S39) (a : S39) : rd_T39 (pre ++ a :: suf) (pre.length : Int) = a := by simp [rd_T39]
theorem rdIP_mid (pre suf : List S44) (a : S44) : rd_T44 (pre ++ a :: suf) (pre.length : Int) = a := by simp [rd_T44]
def cvP (q : S39) : S44 := ⟨q.f0, q.f1, q.f2.map cvT⟩
theorem toPS_loop : ∀ (suf pre : List S39) (rest : List S44) (k : Nat), rest.length = suf.length → suf.length + 1048590 < k → (pre ++ suf).length ≤ 1048576 → (∀ q ∈ suf, q.f2.length ≤ 1048576) →
    laws_toPolyS.l0 k (pre ++ suf) (pre.map cvP ++ rest) pre.length = some ((pre ++ suf).map cvP) := by
  intro suf
  induction suf with
  | nil =>
    intro pre rest k hr hk _ _
    obtain ⟨k, rfl⟩ := step_k hk
    have : rest = [] := List.eq_nil_of_length_eq_zero hr
    subst this
    simp only [laws_toPolyS.l0]; rw [if_neg (by simp)]; simp
  | cons a suf ih =>
    intro pre rest k hr hk hl hq
    obtain ⟨k, rfl⟩ := step_k hk
    cases rest with
    | nil => simp at hr
    | cons b rest =>
      simp only [List.length_append, List.length_cons] at hl hk hr
      have e1 : (pre.map cvP ++ b :: rest).set (pre.length : Int).toNat (cvP a) = (pre ++ [a]).map cvP ++ rest := by
        rw [Int.toNat_natCast, List.set_append_right (h := by simp)]; simp
      have e2 : wrap64 ((pre.length : Int) + 1) = ((pre ++ [a]).length : Int) := by rw [wrap_in (by omega) (by omega)]; simp
      have ha := hq a (by simp)
      simp only [laws_toPolyS.l0]
      rw [if_pos (by simp only [List.length_append, List.length_cons]; omega), if_pos (by omega), rdLP_mid, toP_is _ _ _ k (by omega) ha, bnd, if_pos (by simp only [List.length_append, List.length_cons, List.length_map]; omega)]
      have := ih (pre ++ [a]) rest k (by omega) (by omega) (by simp; omega) (fun q h => hq q (by simp [h]))
      rw [show (⟨(a.f0, a.f1, a.f2.map cvT).1, (a.f0, a.f1, a.f2.map cvT).2.1, (a.f0, a.f1, a.f2.map cvT).2.2⟩ : S44) = cvP a from rfl, e1, e2]
      simpa using this
theorem toPS_is (l : List S39) (k : Nat) (hk : 2200000 < k) (hl : l.length ≤ 1048576) (hq : ∀ q ∈ l, q.f2.length ≤ 1048576) : laws_toPolyS.f k l = some (l.map cvP) := by
  unfold laws_toPolyS.f
  rw [if_pos (by omega), if_pos (by simp; omega)]
  have := toPS_loop l [] (List.replicate ((l.length : Int)).toNat z44) k (by simp) (by omega) (by simpa using hl) hq
  simpa using this
theorem eqPS_loop : ∀ (suf pre : List S44) (k : Nat), suf.length + 1048590 < k → (pre ++ suf).length ≤ 1048576 → (∀ q ∈ suf, q.f2.length ≤ 1048576) → laws_eqPolyS.l0 k (pre ++ suf) (pre ++ suf) pre.length = some true := by
  intro suf
  induction suf with
  | nil =>
    intro pre k hk _ _
    obtain ⟨k, rfl⟩ := step_k hk
    simp only [laws_eqPolyS.l0]; rw [if_neg (by simp)]
  | cons a suf ih =>
    intro pre k hk hl hq
    obtain ⟨k, rfl⟩ := step_k hk
    simp only [List.length_append, List.length_cons] at hl hk
    have e2 : wrap64 ((pre.length : Int) + 1) = ((pre ++ [a]).length : Int) := by rw [wrap_in (by omega) (by omega)]; simp
    have ha := hq a (by simp)
    simp only [laws_eqPolyS.l0]
    rw [if_pos (by simp only [List.length_append, List.length_cons]; omega), if_pos (by omega), if_pos (by simp only [List.length_append, List.length_cons]; omega), rdIP_mid, eqP_is _ _ _ k (by omega) ha, bnd, if_pos rfl, e2]
    have := ih (pre ++ [a]) k (by omega) (by simp; omega) (fun q h => hq q (by simp [h]))
    simpa using this
theorem eqPS_is (l : List S44) (k : Nat) (hk : 2200000 < k) (hl : l.length ≤ 1048576) (hq : ∀ q ∈ l, q.f2.length ≤ 1048576) : laws_eqPolyS.f k l l = some true := by
  unfold laws_eqPolyS.f; rw [if_pos rfl]; exact eqPS_loop l [] k (by omega) (by simpa using hl) hq
theorem szPS_loop : ∀ (suf pre : List S39) (k : Nat) (m : Int), suf.length < k → (pre ++ suf).length ≤ 1048576 → (∀ q ∈ suf, q.f2.length ≤ 9223372036854775807) → (0 ≤ m ∧ m ≤ 1048576) →
    ∃ r, laws_szPolyS.l0 k (pre ++ suf) m pre.length = some r ∧ (0 ≤ r → ∀ q ∈ suf, q.f2.length ≤ 1048576) := by
  intro suf
  induction suf with
  | nil =>
    intro pre k m hk _ _ _
    obtain ⟨k, rfl⟩ := step_k hk
    refine ⟨m, ?_, fun _ q hq => absurd hq (by simp)⟩
    simp only [laws_szPolyS.l0]; rw [if_neg (by simp)]
  | cons a suf ih =>
    intro pre k m hk hl hq hm
    obtain ⟨k, rfl⟩ := step_k hk
    simp only [List.length_append, List.length_cons] at hl hk
    have e2 : wrap64 ((pre.length : Int) + 1) = ((pre ++ [a]).length : Int) := by rw [wrap_in (by omega) (by omega)]; simp
    obtain ⟨t, ht, ht2, ht3⟩ := szP_is a.f0 a.f1 a.f2 m hm (hq a (by simp))
    by_cases hneg : t < 0
    · refine ⟨-1, ?_, fun h => absurd h (by omega)⟩
      simp only [laws_szPolyS.l0]
      rw [if_pos (by simp only [List.length_append, List.length_cons]; omega), if_pos (by omega), rdLP_mid, ht, bnd, if_pos hneg]
    · obtain ⟨r, hr, hr2⟩ := ih (pre ++ [a]) k t (by omega) (by simp; omega) (fun q h => hq q (by simp [h])) (by omega)
      refine ⟨r, ?_, fun h q hqm => ?_⟩
      · simp only [laws_szPolyS.l0]
        rw [if_pos (by simp only [List.length_append, List.length_cons]; omega), if_pos (by omega), rdLP_mid, ht, bnd, if_neg hneg, e2]
        simpa using hr
      · rcases List.mem_cons.1 hqm with rfl | h2
        · have := mt ht2.2 hneg; omega
        · exact hr2 h q h2
theorem szPS_is (l : List S39) (k : Nat) (hk : 1048580 < k) (hl : l.length ≤ 9223372036854775807) (hq : ∀ q ∈ l, q.f2.length ≤ 9223372036854775807) :
    ∃ r, laws_szPolyS.f k l 1048576 = some r ∧ (0 ≤ r → l.length ≤ 1048576 ∧ ∀ q ∈ l, q.f2.length ≤ 1048576) := by
  unfold laws_szPolyS.f
  rw [wrap_in (x := 1048576 - _) (by omega) (by omega)]
  by_cases h : (1048576 : Int) - (l.length : Int) < 0
  · rw [if_pos h]; exact ⟨-1, rfl, fun h => absurd h (by omega)⟩
  · rw [if_neg h]
    obtain ⟨r, hr, hr2⟩ := szPS_loop l [] k (1048576 - l.length) (by omega) (by simp; omega) hq (by omega)
    exact ⟨r, by simpa using hr, fun h2 => ⟨by omega, hr2 h2⟩⟩
theorem small_cv {l : List S39} (hl : l.length ≤ 1048576) (hq : ∀ q ∈ l, q.f2.length ≤ 1048576) (hg : ∀ q ∈ l, good39 q) : small (l.map cvP) := by
  refine ⟨by simpa using hl, fun q hqm => ?_⟩
  obtain ⟨y, hy, rfl⟩ := List.mem_map.1 hqm
  exact ⟨T8_cv (hg y hy).2.2.2, by simpa [cvP] using hq y hy⟩
def okD (x : Int) : Bool := decide (1 ≤ x) && decide (x ≤ 40)
theorem okD_at {l : List Int} (h : l.all okD = true) (i : Nat) (hi : i < l.length) : 1 ≤ l.getD i 0 ∧ l.getD i 0 ≤ 40 := by
  have := List.all_eq_true.mp h _ (List.getElem_mem hi)
  simp only [okD, Bool.and_eq_true, decide_eq_true_eq] at this
  simpa [List.getD_eq_getElem?_getD, List.getElem?_eq_getElem hi] using this
/-- what one degree takes away -/
def back (y : List Int) (d j : Nat) : Int := if d ≤ j then y.getD (j - d) 0 else 0
def new (y : List Int) (d j : Nat) : Int := y.getD j 0 - back y d j
def news (y : List Int) (d : Nat) : List Int := (List.range y.length).map (new y d)
theorem news_at (y : List Int) (d j : Nat) (h : j < y.length) : (news y d).getD j 0 = new y d j := by
  simp [news, List.getD_eq_getElem?_getD, h]
theorem news_len (y : List Int) (d : Nat) : (news y d).length = y.length := by simp [news]
/-! the reference's own counting loop, as the print tells it elsewhere: beside it the code's own is known -/
mutual
def spec_l04Of.l0 : Nat → List Int → Int → List Int → Int → Option (List Int)
  | 0, _, _, _, _ => none
  | k + 1, x0, x1, x5, x6 => if x6 < (x0.length : Int) then (if 0 ≤ x6 then (spec_l04Of.l1 k x0 x1 x5 x6 (rd x0 x6)) else (none)) else (some x5)
def spec_l04Of.l1 : Nat → List Int → Int → List Int → Int → Int → Option (List Int)
  | 0, _, _, _, _, _ => none
  | k + 1, x0, x1, x5, x6, x7 => if x7 ≤ x1 then (if 0 ≤ x7 then (if x7 < (x5.length : Int) then (if 0 ≤ x6 then (if x6 < (x0.length : Int) then (if 0 ≤ (wrap64 (x7 - (rd x0 x6))) then (if (wrap64 (x7 - (rd x0 x6))) < (x5.length : Int) then (spec_l04Of.l1 k x0 x1 (x5.set (x7 : Int).toNat (wrap64 ((rd x5 x7) + (rd x5 (wrap64 (x7 - (rd x0 x6))))))) x6 (wrap64 (x7 + 1))) else (none)) else (none)) else (none)) else (none)) else (none)) else (none)) else (spec_l04Of.l0 k x0 x1 x5 (wrap64 (x6 + 1)))
end
def spec_l04Of.f (k : Nat) (l0 : List Int) (a1 : Int) : Option (List Int) := if 0 ≤ (wrap64 (a1 + 1)) then (if (wrap64 (a1 + 1) : Int).toNat ≤ 35184372088832 then ((some (List.replicate (wrap64 (a1 + 1) : Int).toNat 0 : List Int)).bind fun y338 => (if 0 < (y338.length : Int) then (spec_l04Of.l0 k l0 a1 (y338.set (0 : Int).toNat 1) 0) else (none))) else (none)) else (none)
/-- what is known of a row in the making: its length, and that no number is below 0 or above B -/
def Bd (B : Int) (n : Nat) (y : List Int) : Prop := y.length = n ∧ ∀ i, 0 ≤ y.getD i 0 ∧ y.getD i 0 ≤ B
/-- one degree, from i on: the numbers from place i on have been left at most B, those ahead of i may be up to (i + 1) B -/
theorem getD_set (y : List Int) (i j : Nat) (v : Int) (hi : i < y.length) : (y.set i v).getD j 0 = if j = i then v else y.getD j 0 := by
  simp only [List.getD_eq_getElem?_getD, List.getElem?_set]
  by_cases h : i = j
  · subst h; simp [hi]
  · rw [if_neg h, if_neg (fun e => h e.symm)]
/-- behind a degree's round at place i: at most B times (place + 1) ahead of i, at most B from i on -/
def Mid (B : Int) (n i : Nat) (y : List Int) : Prop :=
  y.length = n ∧ ∀ j : Nat, 0 ≤ y.getD j 0 ∧ (j < i → y.getD j 0 ≤ B * ((j : Int) + 1)) ∧ (i ≤ j → y.getD j 0 ≤ B)
/-- one degree's round, under whatever is kept of the row -/
theorem ways_deg (l : List Int) (kk : Nat) (hkk : kk ≤ 40) (q : Nat) (d : Nat) (hd1 : 1 ≤ d) (hq : q < l.length) (hdl : l.getD q 0 = (d : Int)) (Q : Nat → List Int → Prop)
    (hlen : ∀ i y, Q i y → y.length = kk + 1) (hin : ∀ i y, Q i y → d ≤ i → i ≤ kk → wrap64 (y.getD i 0 + y.getD (i - d) 0) = y.getD i 0 + y.getD (i - d) 0)
    (hst : ∀ i y, Q i y → d ≤ i → i ≤ kk → Q (i + 1) (y.set i (y.getD i 0 + y.getD (i - d) 0))) :
    ∀ (m : Nat) (i : Nat) (y : List Int), d ≤ i → i ≤ kk + 1 → kk + 1 - i = m → Q i y →
      ∃ z, Q (kk + 1) z ∧
        (∀ k, m < k → spec_l04Of.l1 k l kk y q i = spec_l04Of.l0 (k - m - 1) l kk z (wrap64 ((q : Int) + 1))) ∧
        (∀ k, m < k → impl_ways.l1 k kk y d i l l.length q = impl_ways.l0 (k - m - 1) kk z l l.length (wrap64 ((q : Int) + 1))) := by
  intro m
  induction m with
  | zero =>
    intro i y h1 h2 h3 hM
    have hi : i = kk + 1 := by omega
    subst hi
    refine ⟨y, hM, ?_, ?_⟩
    · intro k hk; obtain ⟨k, rfl⟩ := step_k hk
      simp only [spec_l04Of.l1]; rw [if_neg (by omega)]; simp
    · intro k hk; obtain ⟨k, rfl⟩ := step_k hk
      simp only [impl_ways.l1]; rw [if_neg (by omega)]; simp
  | succ m ih =>
    intro i y h1 h2 h3 hM
    have hy := hlen i y hM
    have e2 : wrap64 ((i : Int) + 1) = ((i + 1 : Nat) : Int) := by rw [wrap_in (by omega) (by omega)]; simp
    have e3 : wrap64 ((i : Int) - d) = ((i - d : Nat) : Int) := by rw [wrap_in (by omega) (by omega)]; omega
    have e4 : wrap64 (rd y i + rd y ((i - d : Nat) : Int)) = y.getD i 0 + y.getD (i - d) 0 := by
      simp only [rd, Int.toNat_natCast]; exact hin i y hM h1 (by omega)
    have hrd : rd l (q : Int) = (d : Int) := by simp only [rd, Int.toNat_natCast]; exact hdl
    obtain ⟨z, hz, g1, g2⟩ := ih (i + 1) _ (by omega) (by omega) (by omega) (hst i y hM h1 (by omega))
    refine ⟨z, hz, ?_, ?_⟩
    · intro k hk; obtain ⟨k, rfl⟩ := step_k hk
      simp only [spec_l04Of.l1]
      rw [if_pos (by omega), if_pos (by omega), if_pos (by omega), if_pos (by omega), if_pos (by omega), hrd, e3, if_pos (by omega), if_pos (by omega), e4, e2, Int.toNat_natCast]
      rw [g1 k (by omega)]; congr 1; omega
    · intro k hk; obtain ⟨k, rfl⟩ := step_k hk
      simp only [impl_ways.l1]
      rw [if_pos (by omega), if_pos (by omega), if_pos (by omega), e3, if_pos (by omega), if_pos (by omega), e4, e2, Int.toNat_natCast]
      rw [g2 k (by omega)]; congr 1; omega
theorem mid_sum {B : Int} {n i d : Nat} {y : List Int} (hB0 : 0 ≤ B) (h : Mid B n i y) (hd1 : 1 ≤ d) (h1 : d ≤ i) :
    0 ≤ y.getD i 0 + y.getD (i - d) 0 ∧ y.getD i 0 + y.getD (i - d) 0 ≤ B * ((i : Int) + 1) := by
  have ha := h.2 i
  have hb := h.2 (i - d)
  have hb2 := hb.2.1 (by omega)
  have hBi : B * (((i - d : Nat) : Int) + 1) ≤ B * (i : Int) := Int.mul_le_mul_of_nonneg_left (by omega) hB0
  have hBs : B * ((i : Int) + 1) = B * i + B := by rw [Int.mul_add, Int.mul_one]
  have ha3 := ha.2.2 (Nat.le_refl _)
  omega
theorem ways_mid (l : List Int) (kk : Nat) (hkk : kk ≤ 40) (B : Int) (hB0 : 0 ≤ B) (hB : B ≤ 1000000000000) (q : Nat) (d : Nat) (hd1 : 1 ≤ d) (hq : q < l.length) (hdl : l.getD q 0 = (d : Int)) :
    ∀ (m : Nat) (i : Nat) (y : List Int), d ≤ i → i ≤ kk + 1 → kk + 1 - i = m → Mid B (kk + 1) i y →
      ∃ z, Mid B (kk + 1) (kk + 1) z ∧
        (∀ k, m < k → spec_l04Of.l1 k l kk y q i = spec_l04Of.l0 (k - m - 1) l kk z (wrap64 ((q : Int) + 1))) ∧
        (∀ k, m < k → impl_ways.l1 k kk y d i l l.length q = impl_ways.l0 (k - m - 1) kk z l l.length (wrap64 ((q : Int) + 1))) :=
  ways_deg l kk hkk q d hd1 hq hdl (Mid B (kk + 1)) (fun _ _ h => h.1)
    (fun i y h h1 h2 => by
      have := mid_sum hB0 h hd1 h1
      have hBm : B * ((i : Int) + 1) ≤ B * 41 := Int.mul_le_mul_of_nonneg_left (by omega) hB0
      exact wrap_in (by omega) (by omega))
    (fun i y h h1 h2 => by
      have hs := mid_sum hB0 h hd1 h1
      refine ⟨by simpa using h.1, fun j => ?_⟩
      rw [getD_set _ _ _ _ (by rw [h.1]; omega)]
      have hj := h.2 j
      by_cases hji : j = i
      · subst hji; rw [if_pos rfl]; refine ⟨hs.1, fun _ => hs.2, fun h => by omega⟩
      · rw [if_neg hji]; exact ⟨hj.1, fun h => hj.2.1 (by omega), fun h => hj.2.2 (by omega)⟩)
/-- the first degree's round: 0 and 1 -/
def Fst (n i : Nat) (y : List Int) : Prop := y.length = n ∧ ∀ j : Nat, 0 ≤ y.getD j 0 ∧ y.getD j 0 ≤ 1 ∧ (i ≤ j → 1 ≤ j → y.getD j 0 = 0)
theorem ways_fst (l : List Int) (kk : Nat) (hkk : kk ≤ 40) (q : Nat) (d : Nat) (hd1 : 1 ≤ d) (hq : q < l.length) (hdl : l.getD q 0 = (d : Int)) :
    ∀ (m : Nat) (i : Nat) (y : List Int), d ≤ i → i ≤ kk + 1 → kk + 1 - i = m → Fst (kk + 1) i y →
      ∃ z, Fst (kk + 1) (kk + 1) z ∧
        (∀ k, m < k → spec_l04Of.l1 k l kk y q i = spec_l04Of.l0 (k - m - 1) l kk z (wrap64 ((q : Int) + 1))) ∧
        (∀ k, m < k → impl_ways.l1 k kk y d i l l.length q = impl_ways.l0 (k - m - 1) kk z l l.length (wrap64 ((q : Int) + 1))) :=
  ways_deg l kk hkk q d hd1 hq hdl (Fst (kk + 1)) (fun _ _ h => h.1)
    (fun i y h h1 h2 => by have a := h.2 i; have b := h.2 (i - d); exact wrap_in (by omega) (by omega))
    (fun i y h h1 h2 => by
      refine ⟨by simpa using h.1, fun j => ?_⟩
      rw [getD_set _ _ _ _ (by rw [h.1]; omega)]
      have hj := h.2 j
      have a := h.2 i
      have a3 := a.2.2 (Nat.le_refl _) (by omega)
      have b := h.2 (i - d)
      by_cases hji : j = i
      · subst hji; rw [if_pos rfl]; refine ⟨by omega, by omega, fun h => by omega⟩
      · rw [if_neg hji]; exact ⟨hj.1, hj.2.1, fun h => hj.2.2 (by omega)⟩)
/-- the numbers behind one more degree are at most 41 times as great -/
theorem mid_bd {B : Int} {n : Nat} {z : List Int} (hB : 0 ≤ B) (hn : n ≤ 41) (h : Mid B n n z) : Bd (B * 41) n z := by
  refine ⟨h.1, fun i => ⟨(h.2 i).1, ?_⟩⟩
  by_cases hi : i < n
  · have h1 := (h.2 i).2.1 hi
    have h2 : B * ((i : Int) + 1) ≤ B * 41 := Int.mul_le_mul_of_nonneg_left (by omega) hB
    omega
  · have h1 := (h.2 i).2.2 (by omega)
    have : B * 1 ≤ B * 41 := Int.mul_le_mul_of_nonneg_left (by omega) hB
    omega
theorem bd_mid {B : Int} {n i : Nat} {y : List Int} (hB : 0 ≤ B) (h : Bd B n y) : Mid B n i y := by
  refine ⟨h.1, fun j => ⟨(h.2 j).1, fun _ => ?_, fun _ => (h.2 j).2⟩⟩
  have h1 := (h.2 j).2
  have : B * 1 ≤ B * ((j : Int) + 1) := Int.mul_le_mul_of_nonneg_left (by omega) hB
  omega
def up : Int → Nat → Int
  | B, 0 => B
  | B, m + 1 => up (B * 41) m
theorem up_ge : ∀ (m : Nat) (B : Int), 0 ≤ B → B ≤ up B m
  | 0, B, _ => Int.le_refl _
  | m + 1, B, h => by have := up_ge m (B * 41) (by omega); simp only [up]; omega
theorem ways_all (l : List Int) (kk : Nat) (hkk : kk ≤ 40) (hl : l.all okD = true) (hn : l.length ≤ 6) :
    ∀ (m : Nat) (q : Nat) (B : Int) (y : List Int), q ≤ l.length → l.length - q = m → 0 ≤ B → up B m ≤ 1000000000000 → Bd B (kk + 1) y →
      ∃ z, Bd (up B m) (kk + 1) z ∧ (∀ k, m * 44 < k → spec_l04Of.l0 k l kk y q = some z) ∧ (∀ k, m * 44 < k → impl_ways.l0 k kk y l l.length q = some z) := by
  intro m
  induction m with
  | zero =>
    intro q B y h1 h2 hB0 hB hy
    have hq : q = l.length := by omega
    subst hq
    refine ⟨y, hy, ?_, ?_⟩
    · intro k hk; obtain ⟨k, rfl⟩ := step_k hk
      simp only [spec_l04Of.l0]; rw [if_neg (by omega)]
    · intro k hk; obtain ⟨k, rfl⟩ := step_k hk
      simp only [impl_ways.l0]; rw [if_neg (by omega)]
  | succ m ih =>
    intro q B y h1 h2 hB0 hB hy
    have hq : q < l.length := by omega
    obtain ⟨d1, d2⟩ := okD_at hl q hq
    obtain ⟨d, hd⟩ : ∃ d : Nat, l.getD q 0 = (d : Int) := ⟨(l.getD q 0).toNat, by omega⟩
    simp only [up] at hB ⊢
    have hp2 := up_ge m (B * 41) (by omega)
    have e2 : wrap64 ((q : Int) + 1) = ((q + 1 : Nat) : Int) := by rw [wrap_in (by omega) (by omega)]; simp
    have hrd : rd l (q : Int) = (d : Int) := by simp only [rd, Int.toNat_natCast]; exact hd
    by_cases hdk : d ≤ kk + 1
    · obtain ⟨z1, hz1, g1, g2⟩ := ways_mid l kk hkk B hB0 (by omega) q d (by omega) hq hd (kk + 1 - d) d y (Nat.le_refl _) hdk rfl (bd_mid hB0 hy)
      obtain ⟨z, hz, f1, f2⟩ := ih (q + 1) (B * 41) z1 (by omega) (by omega) (by omega) (by omega) (mid_bd hB0 (by omega) hz1)
      refine ⟨z, hz, ?_, ?_⟩
      · intro k hk; obtain ⟨k, rfl⟩ := step_k hk
        simp only [spec_l04Of.l0]; rw [if_pos (by omega), if_pos (by omega), hrd, g1 k (by omega), e2]
        exact f1 _ (by omega)
      · intro k hk; obtain ⟨k, rfl⟩ := step_k hk
        simp only [impl_ways.l0]; rw [if_pos (by omega), if_pos (by omega), if_pos (by omega), hrd, g2 k (by omega), e2]
        exact f2 _ (by omega)
    · obtain ⟨z, hz, f1, f2⟩ := ih (q + 1) (B * 41) y (by omega) (by omega) (by omega) (by omega) (mid_bd hB0 (by omega) (bd_mid hB0 hy))
      refine ⟨z, hz, ?_, ?_⟩
      · intro k hk; obtain ⟨k, rfl⟩ := step_k hk
        simp only [spec_l04Of.l0]; rw [if_pos (by omega), if_pos (by omega), hrd]
        obtain ⟨k, rfl⟩ := step_k (n := m * 44) (k := k) (by omega)
        simp only [spec_l04Of.l1]; rw [if_neg (by omega), e2]
        exact f1 _ (by omega)
      · intro k hk; obtain ⟨k, rfl⟩ := step_k hk
        simp only [impl_ways.l0]; rw [if_pos (by omega), if_pos (by omega), if_pos (by omega), hrd]
        obtain ⟨k, rfl⟩ := step_k (n := m * 44) (k := k) (by omega)
        simp only [impl_ways.l1]; rw [if_neg (by omega), e2]
        exact f2 _ (by omega)
theorem start_is (kk : Nat) : Fst (kk + 1) 1 ((List.replicate (kk + 1) (0 : Int)).set 0 1) := by
  refine ⟨by simp, fun i => ?_⟩
  rw [getD_set _ _ _ _ (by simp)]
  by_cases h : i = 0
  · rw [if_pos h]; omega
  · rw [if_neg h]; simp only [List.getD_eq_getElem?_getD, List.getElem?_replicate]; split <;> simp
theorem fst_bd {n i : Nat} {y : List Int} (h : Fst n i y) : Bd 1 n y := ⟨h.1, fun j => ⟨(h.2 j).1, (h.2 j).2.1⟩⟩
theorem fst_later {n i j : Nat} {y : List Int} (h : Fst n i y) (hij : i ≤ j) : Fst n j y := ⟨h.1, fun p => ⟨(h.2 p).1, (h.2 p).2.1, fun hp => (h.2 p).2.2 (by omega)⟩⟩
theorem up5 : ∀ m, m ≤ 5 → up 1 m ≤ 115856201 := by decide
/-- one degree's round at place i, over what it began with -/
def Ch (y0 : List Int) (d n i : Nat) (y : List Int) : Prop := ∀ j, j < n → (j < i → y.getD j 0 = y0.getD j 0 + back y d j) ∧ (i ≤ j → y.getD j 0 = y0.getD j 0)
theorem ch_start (y0 : List Int) (d n : Nat) : Ch y0 d n d y0 := by
  intro j _
  refine ⟨fun h => ?_, fun _ => rfl⟩
  unfold back; rw [if_neg (by omega)]; simp
theorem ch_step {y0 : List Int} {d n i : Nat} {y : List Int} (hd : 1 ≤ d) (hl : i < y.length) (h1 : d ≤ i) (h : Ch y0 d n i y) :
    Ch y0 d n (i + 1) (y.set i (y.getD i 0 + y.getD (i - d) 0)) := by
  intro j hj
  have hbk : ∀ j, j ≤ i → back (y.set i (y.getD i 0 + y.getD (i - d) 0)) d j = back y d j := by
    intro j hj
    unfold back
    by_cases hh : d ≤ j
    · rw [if_pos hh, if_pos hh, getD_put _ _ _ _ hl, if_neg (by omega)]
    · rw [if_neg hh, if_neg hh]
  refine ⟨fun hji => ?_, fun hji => ?_⟩
  · rw [hbk j (by omega), getD_put _ _ _ _ hl]
    by_cases hh : i = j
    · subst hh; rw [if_pos rfl, (h i hj).2 (Nat.le_refl _)]; unfold back; rw [if_pos h1]
    · rw [if_neg hh]; exact (h j hj).1 (by omega)
  · rw [getD_put _ _ _ _ hl, if_neg (by omega)]; exact (h j hj).2 (by omega)
theorem ch_end {y0 : List Int} {d n : Nat} {y : List Int} (h0 : y0.length = n) (hy : y.length = n) (h : Ch y0 d n n y) : news y d = y0 := by
  refine ext_getD (by rw [news_len]; omega) (fun j hj => ?_)
  rw [news_len] at hj
  rw [news_at _ _ _ hj]; unfold new
  have := (h j (by omega)).1 (by omega)
  omega
theorem news_low (y : List Int) (d : Nat) (h : y.length ≤ d) : news y d = y := by
  refine ext_getD (news_len _ _) (fun j hj => ?_)
  rw [news_len] at hj
  rw [news_at _ _ _ hj]; unfold new back; rw [if_neg (by omega)]; simp
theorem ways_mid2 (l : List Int) (kk : Nat) (hkk : kk ≤ 40) (B : Int) (hB0 : 0 ≤ B) (hB : B ≤ 1000000000000) (q : Nat) (d : Nat) (hd1 : 1 ≤ d) (hq : q < l.length) (hdl : l.getD q 0 = (d : Int)) (y0 : List Int) :
    ∀ (m : Nat) (i : Nat) (y : List Int), d ≤ i → i ≤ kk + 1 → kk + 1 - i = m → Mid B (kk + 1) i y ∧ Ch y0 d (kk + 1) i y →
      ∃ z, (Mid B (kk + 1) (kk + 1) z ∧ Ch y0 d (kk + 1) (kk + 1) z) ∧
        (∀ k, m < k → spec_l04Of.l1 k l kk y q i = spec_l04Of.l0 (k - m - 1) l kk z (wrap64 ((q : Int) + 1))) ∧
        (∀ k, m < k → impl_ways.l1 k kk y d i l l.length q = impl_ways.l0 (k - m - 1) kk z l l.length (wrap64 ((q : Int) + 1))) :=
  ways_deg l kk hkk q d hd1 hq hdl (fun i y => Mid B (kk + 1) i y ∧ Ch y0 d (kk + 1) i y) (fun _ _ h => h.1.1)
    (fun i y h h1 h2 => by
      have := mid_sum hB0 h.1 hd1 h1
      have hBm : B * ((i : Int) + 1) ≤ B * 41 := Int.mul_le_mul_of_nonneg_left (by omega) hB0
      exact wrap_in (by omega) (by omega))
    (fun i y hh h1 h2 => by
      have h := hh.1
      have hs := mid_sum hB0 h hd1 h1
      refine ⟨⟨by simpa using h.1, fun j => ?_⟩, ch_step hd1 (by rw [h.1]; omega) h1 hh.2⟩
      rw [getD_set _ _ _ _ (by rw [h.1]; omega)]
      have hj := h.2 j
      by_cases hji : j = i
      · subst hji; rw [if_pos rfl]; refine ⟨hs.1, fun _ => hs.2, fun h => by omega⟩
      · rw [if_neg hji]; exact ⟨hj.1, fun h => hj.2.1 (by omega), fun h => hj.2.2 (by omega)⟩)
theorem ways_fst2 (l : List Int) (kk : Nat) (hkk : kk ≤ 40) (q : Nat) (d : Nat) (hd1 : 1 ≤ d) (hq : q < l.length) (hdl : l.getD q 0 = (d : Int)) (y0 : List Int) :
    ∀ (m : Nat) (i : Nat) (y : List Int), d ≤ i → i ≤ kk + 1 → kk + 1 - i = m → Fst (kk + 1) i y ∧ Ch y0 d (kk + 1) i y →
      ∃ z, (Fst (kk + 1) (kk + 1) z ∧ Ch y0 d (kk + 1) (kk + 1) z) ∧
        (∀ k, m < k → spec_l04Of.l1 k l kk y q i = spec_l04Of.l0 (k - m - 1) l kk z (wrap64 ((q : Int) + 1))) ∧
        (∀ k, m < k → impl_ways.l1 k kk y d i l l.length q = impl_ways.l0 (k - m - 1) kk z l l.length (wrap64 ((q : Int) + 1))) :=
  ways_deg l kk hkk q d hd1 hq hdl (fun i y => Fst (kk + 1) i y ∧ Ch y0 d (kk + 1) i y) (fun _ _ h => h.1.1)
    (fun i y h h1 h2 => by have a := h.1.2 i; have b := h.1.2 (i - d); exact wrap_in (by omega) (by omega))
    (fun i y hh h1 h2 => by
      have h := hh.1
      refine ⟨⟨by simpa using h.1, fun j => ?_⟩, ch_step hd1 (by rw [h.1]; omega) h1 hh.2⟩
      rw [getD_set _ _ _ _ (by rw [h.1]; omega)]
      have hj := h.2 j
      have a := h.2 i
      have a3 := a.2.2 (Nat.le_refl _) (by omega)
      have b := h.2 (i - d)
      by_cases hji : j = i
      · subst hji; rw [if_pos rfl]; refine ⟨by omega, by omega, fun h => by omega⟩
      · rw [if_neg hji]; exact ⟨hj.1, hj.2.1, fun h => hj.2.2 (by omega)⟩)
/-- degree after degree taken out -/
def fd (l : List Int) (y : List Int) : List Int := l.foldl (fun y d => news y d.toNat) y
theorem fd_cons (d : Int) (l y : List Int) : fd (d :: l) y = fd l (news y d.toNat) := rfl
theorem fd_snoc (d : Int) (l y : List Int) : fd (l ++ [d]) y = news (fd l y) d.toNat := by simp [fd]
theorem back_at (y : List Int) (d e j : Nat) (hj : j < y.length) : back (news y d) e j = if e ≤ j then new y d (j - e) else 0 := by
  unfold back
  by_cases h : e ≤ j
  · rw [if_pos h, if_pos h, news_at _ _ _ (by omega)]
  · rw [if_neg h, if_neg h]
theorem news_comm (y : List Int) (d e : Nat) : news (news y d) e = news (news y e) d := by
  refine ext_getD (by simp [news_len]) (fun j hj => ?_)
  simp only [news_len] at hj
  rw [news_at _ _ _ (by rw [news_len]; exact hj), news_at _ _ _ (by rw [news_len]; exact hj)]
  simp only [new]
  rw [back_at _ _ _ _ hj, back_at _ _ _ _ hj, news_at _ _ _ hj, news_at _ _ _ hj]
  simp only [new, back]
  by_cases h1 : e ≤ j <;> by_cases h2 : d ≤ j <;> simp only [h1, h2, if_true, if_false]
  · by_cases h3 : d ≤ j - e
    · rw [if_pos h3, if_pos (by omega), show j - e - d = j - d - e by omega]; omega
    · rw [if_neg h3, if_neg (by omega)]; omega
  · rw [if_neg (by omega)]; omega
  · rw [if_neg (by omega)]; omega
theorem fd_news (l : List Int) : ∀ (y : List Int) (d : Nat), fd l (news y d) = news (fd l y) d := by
  induction l with
  | nil => intro y d; rfl
  | cons e l ih => intro y d; rw [fd_cons, fd_cons, news_comm, ih]
theorem fd_rev (l : List Int) : ∀ y, fd l.reverse y = fd l y := by
  induction l with
  | nil => intro y; rfl
  | cons e l ih => intro y; rw [List.reverse_cons, fd_snoc, fd_cons, fd_news, ih]
theorem fd_len (l : List Int) : ∀ y, (fd l y).length = y.length := by
  induction l with
  | nil => intro y; rfl
  | cons e l ih => intro y; rw [fd_cons, ih, news_len]
theorem drop_at (l : List Int) (q : Nat) (hq : q < l.length) : l.drop q = l.getD q 0 :: l.drop (q + 1) := by
  rw [List.drop_eq_getElem_cons hq]; simp [List.getD_eq_getElem?_getD, List.getElem?_eq_getElem hq]
theorem ways_all2 (l : List Int) (kk : Nat) (hkk : kk ≤ 40) (hl : l.all okD = true) (hn : l.length ≤ 8) :
    ∀ (m : Nat) (q : Nat) (B : Int) (y : List Int), q ≤ l.length → l.length - q = m → 0 ≤ B → up B m ≤ 1000000000000 → Bd B (kk + 1) y →
      ∃ z, (Bd (up B m) (kk + 1) z ∧ fd (l.drop q) z = y) ∧ (∀ k, m * 44 < k → spec_l04Of.l0 k l kk y q = some z) ∧ (∀ k, m * 44 < k → impl_ways.l0 k kk y l l.length q = some z) := by
  intro m
  induction m with
  | zero =>
    intro q B y h1 h2 hB0 hB hy
    have hq : q = l.length := by omega
    subst hq
    refine ⟨y, ⟨hy, by simp [fd]⟩, ?_, ?_⟩
    · intro k hk; obtain ⟨k, rfl⟩ := step_k hk
      simp only [spec_l04Of.l0]; rw [if_neg (by omega)]
    · intro k hk; obtain ⟨k, rfl⟩ := step_k hk
      simp only [impl_ways.l0]; rw [if_neg (by omega)]
  | succ m ih =>
    intro q B y h1 h2 hB0 hB hy
    have hq : q < l.length := by omega
    obtain ⟨d1, d2⟩ := okD_at hl q hq
    obtain ⟨d, hd⟩ : ∃ d : Nat, l.getD q 0 = (d : Int) := ⟨(l.getD q 0).toNat, by omega⟩
    simp only [up] at hB ⊢
    have hp2 := up_ge m (B * 41) (by omega)
    have e2 : wrap64 ((q : Int) + 1) = ((q + 1 : Nat) : Int) := by rw [wrap_in (by omega) (by omega)]; simp
    have hrd : rd l (q : Int) = (d : Int) := by simp only [rd, Int.toNat_natCast]; exact hd
    have hdr := drop_at l q hq
    rw [hd] at hdr
    by_cases hdk : d ≤ kk + 1
    · obtain ⟨z1, ⟨hz1, hc1⟩, g1, g2⟩ := ways_mid2 l kk hkk B hB0 (by omega) q d (by omega) hq hd y (kk + 1 - d) d y (Nat.le_refl _) hdk rfl ⟨bd_mid hB0 hy, ch_start _ _ _⟩
      obtain ⟨z, ⟨hz, hf⟩, f1, f2⟩ := ih (q + 1) (B * 41) z1 (by omega) (by omega) (by omega) (by omega) (mid_bd hB0 (by omega) hz1)
      refine ⟨z, ⟨hz, ?_⟩, ?_, ?_⟩
      · rw [hdr, fd_cons, fd_news, hf, Int.toNat_natCast]; exact ch_end hy.1 hz1.1 hc1
      · intro k hk; obtain ⟨k, rfl⟩ := step_k hk
        simp only [spec_l04Of.l0]; rw [if_pos (by omega), if_pos (by omega), hrd, g1 k (by omega), e2]
        exact f1 _ (by omega)
      · intro k hk; obtain ⟨k, rfl⟩ := step_k hk
        simp only [impl_ways.l0]; rw [if_pos (by omega), if_pos (by omega), if_pos (by omega), hrd, g2 k (by omega), e2]
        exact f2 _ (by omega)
    · obtain ⟨z, ⟨hz, hf⟩, f1, f2⟩ := ih (q + 1) (B * 41) y (by omega) (by omega) (by omega) (by omega) (mid_bd hB0 (by omega) (bd_mid hB0 hy))
      refine ⟨z, ⟨hz, ?_⟩, ?_, ?_⟩
      · rw [hdr, fd_cons, fd_news, hf, Int.toNat_natCast]; exact news_low _ _ (by have := hy.1; omega)
      · intro k hk; obtain ⟨k, rfl⟩ := step_k hk
        simp only [spec_l04Of.l0]; rw [if_pos (by omega), if_pos (by omega), hrd]
        obtain ⟨k, rfl⟩ := step_k (n := m * 44) (k := k) (by omega)
        simp only [spec_l04Of.l1]; rw [if_neg (by omega), e2]
        exact f1 _ (by omega)
      · intro k hk; obtain ⟨k, rfl⟩ := step_k hk
        simp only [impl_ways.l0]; rw [if_pos (by omega), if_pos (by omega), if_pos (by omega), hrd]
        obtain ⟨k, rfl⟩ := step_k (n := m * 44) (k := k) (by omega)
        simp only [impl_ways.l1]; rw [if_neg (by omega), e2]
        exact f2 _ (by omega)
def one (kk : Nat) : List Int := (List.replicate (kk + 1) (0 : Int)).set 0 1
theorem up7 : ∀ m, m ≤ 7 → up 1 m ≤ 1000000000000 := by decide
theorem up_le : ∀ n, n ≤ 7 → ∀ m, m ≤ n → up 1 m ≤ up 1 n := by decide
theorem up5e : up 1 5 = 115856201 := by decide
/-- what both compute from the start on -/
theorem ways_both2 (l : List Int) (kk : Nat) (hkk : kk ≤ 40) (b : Nat) (hb : b ≤ 7) (hl : l.all okD = true) (hn : l.length ≤ b + 1) :
    ∃ z, (Bd (up 1 b) (kk + 1) z ∧ fd l z = one kk) ∧ (∀ k, 400 < k → spec_l04Of.f k l kk = some z) ∧ (∀ k, 400 < k → impl_ways.f k l kk = some z) := by
  have e1 : wrap64 ((kk : Int) + 1) = ((kk + 1 : Nat) : Int) := by rw [wrap_in (by omega) (by omega)]; simp
  suffices h : ∃ z, (Bd (up 1 b) (kk + 1) z ∧ fd l z = one kk) ∧ (∀ k, 400 < k → spec_l04Of.l0 k l kk (one kk) ((0 : Nat) : Int) = some z) ∧
      (∀ k, 400 < k → impl_ways.l0 k kk (one kk) l l.length ((0 : Nat) : Int) = some z) by
    obtain ⟨z, hz, h1, h2⟩ := h
    refine ⟨z, hz, fun k hk => ?_, fun k hk => ?_⟩
    · unfold spec_l04Of.f; rw [e1, if_pos (by omega), if_pos (by simp; omega)]; simp only [Option.bind_some]
      rw [if_pos (by simp only [List.length_replicate, Int.toNat_natCast]; omega)]; exact h1 k hk
    · unfold impl_ways.f; rw [e1, if_pos (by omega), if_pos (by simp; omega)]; simp only [Option.bind_some]
      rw [if_pos (by simp only [List.length_replicate, Int.toNat_natCast]; omega)]; exact h2 k hk
  by_cases h0 : l.length = 0
  · have hl0 : l = [] := List.eq_nil_of_length_eq_zero h0
    subst hl0
    refine ⟨_, ⟨⟨(start_is kk).1, fun i => ?_⟩, rfl⟩, fun k hk => ?_, fun k hk => ?_⟩
    · have := (start_is kk).2 i; have := up_ge b 1 (by omega); omega
    · obtain ⟨k, rfl⟩ := step_k hk; simp only [spec_l04Of.l0]; rw [if_neg (by simp)]; rfl
    · obtain ⟨k, rfl⟩ := step_k hk; simp only [impl_ways.l0]; rw [if_neg (by simp)]; rfl
  · obtain ⟨d1, d2⟩ := okD_at hl 0 (by omega)
    obtain ⟨d, hd⟩ : ∃ d : Nat, l.getD 0 0 = (d : Int) := ⟨(l.getD 0 0).toNat, by omega⟩
    have hrd : rd l ((0 : Nat) : Int) = (d : Int) := by simp only [rd, Int.toNat_natCast]; exact hd
    have e2 : wrap64 (((0 : Nat) : Int) + 1) = ((1 : Nat) : Int) := by rw [wrap_in (by omega) (by omega)]; simp
    have hdr := drop_at l 0 (by omega)
    rw [hd, List.drop_zero] at hdr
    by_cases hdk : d ≤ kk + 1
    · obtain ⟨z1, ⟨hz1, hc1⟩, g1, g2⟩ := ways_fst2 l kk hkk 0 d (by omega) (by omega) hd (one kk) (kk + 1 - d) d (one kk) (Nat.le_refl _) hdk rfl ⟨fst_later (start_is kk) (by omega), ch_start _ _ _⟩
      obtain ⟨z, ⟨hz, hf⟩, f1, f2⟩ := ways_all2 l kk hkk hl (by omega) (l.length - 1) 1 1 z1 (by omega) (by omega) (by omega) (up7 _ (by omega)) (fst_bd hz1)
      refine ⟨z, ⟨⟨hz.1, fun i => ⟨(hz.2 i).1, ?_⟩⟩, ?_⟩, ?_, ?_⟩
      · have h1 := (hz.2 i).2
        have := up_le b hb (l.length - 1) (by omega)
        omega
      · rw [hdr, fd_cons, fd_news, hf, Int.toNat_natCast]; exact ch_end (start_is kk).1 hz1.1 hc1
      · intro k hk; obtain ⟨k, rfl⟩ := step_k hk
        simp only [spec_l04Of.l0]; rw [if_pos (by omega), if_pos (by omega), hrd, g1 k (by omega), e2]
        exact f1 _ (by omega)
      · intro k hk; obtain ⟨k, rfl⟩ := step_k hk
        simp only [impl_ways.l0]; rw [if_pos (by omega), if_pos (by omega), if_pos (by omega), hrd, g2 k (by omega), e2]
        exact f2 _ (by omega)
    · obtain ⟨z, ⟨hz, hf⟩, f1, f2⟩ := ways_all2 l kk hkk hl (by omega) (l.length - 1) 1 1 (one kk) (by omega) (by omega) (by omega) (up7 _ (by omega)) (fst_bd (start_is kk))
      refine ⟨z, ⟨⟨hz.1, fun i => ⟨(hz.2 i).1, ?_⟩⟩, ?_⟩, ?_, ?_⟩
      · have h1 := (hz.2 i).2
        have := up_le b hb (l.length - 1) (by omega)
        omega
      · rw [hdr, fd_cons, fd_news, hf, Int.toNat_natCast]; exact news_low _ _ (by have := (start_is kk).1; unfold one; omega)
      · intro k hk; obtain ⟨k, rfl⟩ := step_k hk
        simp only [spec_l04Of.l0]; rw [if_pos (by omega), if_pos (by omega), hrd]
        obtain ⟨k, rfl⟩ := step_k (n := 300) (k := k) (by omega)
        simp only [spec_l04Of.l1]; rw [if_neg (by omega), e2]
        exact f1 _ (by omega)
      · intro k hk; obtain ⟨k, rfl⟩ := step_k hk
        simp only [impl_ways.l0]; rw [if_pos (by omega), if_pos (by omega), if_pos (by omega), hrd]
        obtain ⟨k, rfl⟩ := step_k (n := 300) (k := k) (by omega)
        simp only [impl_ways.l1]; rw [if_neg (by omega), e2]
        exact f2 _ (by omega)
/-- nothing below 0 behind what all degrees take out: nothing below 0 ahead of it -/
theorem news_nn (y : List Int) (d : Nat) (hd : 1 ≤ d) (h : ∀ j, 0 ≤ (news y d).getD j 0) : ∀ j, 0 ≤ y.getD j 0 := by
  intro j
  induction j using Nat.strongRecOn with
  | ind j ih =>
    by_cases hj : j < y.length
    · have h1 := h j
      rw [news_at _ _ _ hj] at h1
      unfold new back at h1
      by_cases hh : d ≤ j
      · rw [if_pos hh] at h1; have := ih (j - d) (by omega); omega
      · rw [if_neg hh] at h1; omega
    · rw [List.getD_eq_getElem?_getD, List.getElem?_eq_none (by omega)]; simp
theorem fd_nn (l : List Int) (hl : l.all okD = true) : ∀ y, (∀ j, 0 ≤ (fd l y).getD j 0) → ∀ j, 0 ≤ y.getD j 0 := by
  induction l with
  | nil => intro y h; exact h
  | cons e l ih =>
    intro y h
    simp only [List.all_cons, Bool.and_eq_true] at hl
    rw [fd_cons] at h
    refine news_nn y e.toNat ?_ (ih hl.2 _ h)
    have := hl.1; simp only [okD, Bool.and_eq_true, decide_eq_true_eq] at this; omega
theorem wrap_nat {a : Nat} (h : a ≤ 9223372036854775807) : wrap64 (a : Int) = (a : Int) := wrap_in (by omega) (by omega)
/-! ### how many products there are -/
def sumTo (f : Nat → Nat) : Nat → Nat
  | 0 => 0
  | m + 1 => sumTo f m + f m
def cnt : List Nat → Nat → Nat
  | [], n => if n = 0 then 1 else 0
  | d :: ds, n => sumTo (fun j => cnt ds (n - j * d)) (n / d + 1)
theorem sumTo_front (f : Nat → Nat) : ∀ m, sumTo f (m + 1) = f 0 + sumTo (fun j => f (j + 1)) m := by
  intro m
  induction m with
  | zero => simp [sumTo]
  | succ m ih => rw [sumTo, ih]; simp only [sumTo]; omega
theorem sumTo_le (f : Nat → Nat) (B : Nat) (h : ∀ j, f j ≤ B) : ∀ m, sumTo f m ≤ m * B := by
  intro m
  induction m with
  | zero => simp [sumTo]
  | succ m ih => have := h m; simp only [sumTo]; rw [Nat.succ_mul]; omega
theorem sumTo_congr (f g : Nat → Nat) (h : ∀ j, f j = g j) : ∀ m, sumTo f m = sumTo g m := by
  intro m
  induction m with
  | zero => rfl
  | succ m ih => simp only [sumTo]; rw [ih, h m]
theorem cnt_le (ds : List Nat) : ∀ n, n ≤ 12 → cnt ds n ≤ 13 ^ ds.length := by
  induction ds with
  | nil => intro n _; simp only [cnt]; split <;> simp
  | cons d ds ih =>
    intro n hn
    have h1 := sumTo_le (fun j => cnt ds (n - j * d)) (13 ^ ds.length) (fun j => ih _ (by omega)) (n / d + 1)
    have h2 : n / d ≤ n := Nat.div_le_self _ _
    have h3 : (n / d + 1) * 13 ^ ds.length ≤ 13 * 13 ^ ds.length := Nat.mul_le_mul_right _ (by omega)
    simp only [cnt, List.length_cons, Nat.pow_succ]
    omega
theorem cnt_back (d : Nat) (hd : 1 ≤ d) (ds : List Nat) (n : Nat) : cnt (d :: ds) n = cnt ds n + if d ≤ n then cnt (d :: ds) (n - d) else 0 := by
  simp only [cnt]
  by_cases h : d ≤ n
  · rw [if_pos h, sumTo_front, Nat.zero_mul, Nat.sub_zero]
    have e : n / d = (n - d) / d + 1 := by
      rw [← Nat.add_div_right _ (by omega : 0 < d), Nat.sub_add_cancel h]
    rw [e]
    congr 1
    refine sumTo_congr _ _ (fun j => ?_) _
    rw [show n - (j + 1) * d = n - d - j * d by rw [Nat.succ_mul]; omega]
  · rw [if_neg h, Nat.div_eq_of_lt (by omega)]
    simp [sumTo]
/-- the counts up to n -/
def cs (ds : List Nat) (n : Nat) : List Int := (List.range (n + 1)).map (fun j => (cnt ds j : Int))
theorem cs_at (ds : List Nat) (n j : Nat) (h : j ≤ n) : (cs ds n).getD j 0 = (cnt ds j : Int) := by
  have : j < n + 1 := by omega
  simp [cs, List.getD_eq_getElem?_getD, this]
theorem cs_len (ds : List Nat) (n : Nat) : (cs ds n).length = n + 1 := by simp [cs]
theorem cs_news (d : Nat) (hd : 1 ≤ d) (ds : List Nat) (n : Nat) : news (cs (d :: ds) n) d = cs ds n := by
  refine ext_getD (by rw [news_len, cs_len, cs_len]) (fun j hj => ?_)
  rw [news_len, cs_len] at hj
  rw [news_at _ _ _ (by rw [cs_len]; exact hj), cs_at _ _ _ (by omega)]
  unfold new back
  rw [cs_at _ _ _ (by omega), cnt_back d hd ds j]
  by_cases h : d ≤ j
  · rw [if_pos h, if_pos h, cs_at _ _ _ (by omega)]; omega
  · rw [if_neg h, if_neg h]; omega
theorem one_at (kk j : Nat) : (one kk).getD j 0 = if j = 0 then 1 else 0 := by
  unfold one
  rw [getD_set _ _ _ _ (by simp)]
  by_cases h : j = 0
  · rw [if_pos h, if_pos h]
  · rw [if_neg h, if_neg h]; simp only [List.getD_eq_getElem?_getD, List.getElem?_replicate]; split <;> simp
theorem cs_fd (ds : List Nat) (n : Nat) (h : ∀ d ∈ ds, 1 ≤ d) : fd (ds.map Int.ofNat) (cs ds n) = one n := by
  induction ds with
  | nil =>
    show cs [] n = one n
    refine ext_getD (by rw [cs_len]; simp [one]) (fun j hj => ?_)
    rw [cs_len] at hj
    rw [cs_at _ _ _ (by omega), one_at]
    simp only [cnt]; split <;> rfl
  | cons d ds ih =>
    rw [List.map_cons, fd_cons, show (Int.ofNat d).toNat = d from rfl, cs_news d (h d (by simp)) ds n]
    exact ih (fun e he => h e (by simp [he]))
theorem news_inj {y y' : List Int} {d : Nat} (hd : 1 ≤ d) (hl : y.length = y'.length) (h : news y d = news y' d) : y = y' := by
  have key : ∀ j, j < y.length → y.getD j 0 = y'.getD j 0 := by
    intro j
    induction j using Nat.strongRecOn with
    | ind j ih =>
      intro hj
      have h1 : (news y d).getD j 0 = (news y' d).getD j 0 := by rw [h]
      rw [news_at _ _ _ hj, news_at _ _ _ (by omega)] at h1
      unfold new back at h1
      by_cases hh : d ≤ j
      · rw [if_pos hh, if_pos hh, ih (j - d) (by omega) (by omega)] at h1; omega
      · rw [if_neg hh, if_neg hh] at h1; omega
  exact ext_getD hl key
theorem fd_inj (l : List Int) (hl : l.all okD = true) : ∀ y y' : List Int, y.length = y'.length → fd l y = fd l y' → y = y' := by
  induction l with
  | nil => intro y y' _ h; exact h
  | cons e l ih =>
    intro y y' h1 h2
    simp only [List.all_cons, Bool.and_eq_true] at hl
    rw [fd_cons, fd_cons] at h2
    refine news_inj (d := e.toNat) ?_ h1 (ih hl.2 _ _ (by rw [news_len, news_len]; exact h1) h2)
    have := hl.1; simp only [okD, Bool.and_eq_true, decide_eq_true_eq] at this; omega
/-- the code's own count -/
theorem ways_cnt (ds : List Nat) (n : Nat) (hn : n ≤ 12) (h : ∀ d ∈ ds, 1 ≤ d ∧ d ≤ 12) (hl : ds.length ≤ 8) :
    ∀ k, 400 < k → impl_ways.f k (ds.map Int.ofNat) n = some (cs ds n) := by
  have hD : (ds.map Int.ofNat).all okD = true := by
    rw [List.all_eq_true]
    intro x hx
    obtain ⟨d, hd, rfl⟩ := List.mem_map.1 hx
    have := h d hd
    simp only [okD, Bool.and_eq_true, decide_eq_true_eq, Int.ofNat_eq_natCast]; omega
  obtain ⟨z, ⟨hz, hf⟩, _, f2⟩ := ways_both2 (ds.map Int.ofNat) n (by omega) 7 (by omega) hD (by rw [List.length_map]; omega)
  have : z = cs ds n := fd_inj _ hD _ _ (by rw [cs_len]; exact hz.1) (by rw [hf, cs_fd ds n (fun d hd => (h d hd).1)])
  rw [← this]; exact f2
/-! ### the reference's lists of exponents -/
def dgs (L : List S44) : List Nat := L.map (fun q => (dgT q.f2).toNat)
theorem ex_l1 (X : List S44) (n d x xj : Int) (b : Nat) (hb : b ≤ 8) (rest : List (List Int)) (r2 : ∀ i, (rest.getD i []).length ≤ b) (hrl : rest.length ≤ 1000000000) (hxj : wrap64 (x - 1) = xj) : ∀ (mm i : Nat) (out : List (List Int)), i + mm = rest.length → out.length + mm ≤ 2000000000 → (∀ i, (out.getD i []).length ≤ b + 1) →
    ∃ out', out'.length = out.length + mm ∧ (∀ i, (out'.getD i []).length ≤ b + 1) ∧
      ∀ k, mm < k → spec_l05Exponents.l1 k X n out d x rest i = spec_l05Exponents.l0 (k - mm - 1) X n out' d xj := by
  intro mm
  induction mm with
  | zero =>
    intro i out h1 _ h4
    refine ⟨out, rfl, h4, fun k hk => ?_⟩
    obtain ⟨k, rfl⟩ := step_k hk
    simp only [spec_l05Exponents.l1]; rw [if_neg (by omega), hxj]; simp
  | succ mm ihmm =>
    intro i out h1 h3 h4
    have e2 : wrap64 ((i : Int) + 1) = ((i + 1 : Nat) : Int) := by rw [wrap_in (by omega) (by omega)]; simp
    have hri := r2 i
    have hnew : ∀ j, ((out ++ [[x] ++ rest.getD i []]).getD j []).length ≤ b + 1 := by
      intro q
      by_cases hq : q < out.length
      · rw [List.getD_eq_getElem?_getD, List.getElem?_append_left hq, ← List.getD_eq_getElem?_getD]; exact h4 q
      · rw [List.getD_eq_getElem?_getD, List.getElem?_append_right (by omega)]
        by_cases hq2 : q - out.length = 0
        · rw [hq2]; simp only [List.getElem?_cons_zero, Option.getD_some, List.length_append, List.length_cons, List.length_nil]; omega
        · rw [List.getElem?_eq_none (by simp only [List.length_cons, List.length_nil]; omega)]; simp
    obtain ⟨out', g1, g2, g3⟩ := ihmm (i + 1) (out ++ [[x] ++ rest.getD i []]) (by omega) (by rw [List.length_append]; simp only [List.length_cons, List.length_nil]; omega) hnew
    rw [List.length_append] at g1
    simp only [List.length_cons, List.length_nil] at g1
    refine ⟨out', by omega, g2, fun k hk => ?_⟩
    obtain ⟨k, rfl⟩ := step_k hk
    have hrd : rd_L10 rest (i : Int) = rest.getD i [] := by unfold rd_L10; rw [Int.toNat_natCast]
    simp only [spec_l05Exponents.l1]
    rw [if_pos (by omega), bnd, if_pos (by omega), hrd, if_pos (by simp only [List.length_cons, List.length_nil]; omega), if_pos (by omega), e2, g3 k (by omega)]
    congr 1; omega
set_option maxHeartbeats 1600000 in
theorem ex_is : ∀ (L : List S44), small L → (∀ i, i < L.length → 1 ≤ dgT (pat L i).f2 ∧ dgT (pat L i).f2 ≤ 12) → L.length ≤ 8 → ∀ n : Nat, n ≤ 12 →
    ∃ r K, r.length = cnt (dgs L) n ∧ (∀ i, (r.getD i []).length ≤ 100) ∧ ∀ k, K < k → spec_l05Exponents.f k L n = some r := by
  suffices h : ∀ (L : List S44), small L → (∀ i, i < L.length → 1 ≤ dgT (pat L i).f2 ∧ dgT (pat L i).f2 ≤ 12) → L.length ≤ 8 → ∀ n : Nat, n ≤ 12 →
    ∃ r K, r.length = cnt (dgs L) n ∧ (∀ i, (r.getD i []).length ≤ L.length) ∧ ∀ k, K < k → spec_l05Exponents.f k L n = some r by
    intro L h1 h2 h3 n h4
    obtain ⟨r, K, g1, g2, g3⟩ := h L h1 h2 h3 n h4
    exact ⟨r, K, g1, fun i => by have := g2 i; omega, g3⟩
  intro L
  induction L with
  | nil =>
    intro _ _ _ n _
    by_cases hn : n = 0
    · refine ⟨[[]], 0, by subst hn; rfl, fun i => ?_, fun k hk => ?_⟩
      · cases i <;> simp
      · obtain ⟨k, rfl⟩ := step_k hk
        rw [spec_l05Exponents.f, if_pos (by simp), if_pos (by omega)]
    · refine ⟨[], 0, by simp [dgs, cnt, hn], fun i => by simp, fun k hk => ?_⟩
      obtain ⟨k, rfl⟩ := step_k hk
      rw [spec_l05Exponents.f, if_pos (by simp), if_neg (by omega)]
  | cons q L ih =>
    intro hs hd h8 n hn
    have hs' : small L := ⟨by have := hs.1; simp at this; omega, fun x hx => hs.2 x (by simp [hx])⟩
    have hpat : ∀ i, pat (q :: L) (i + 1) = pat L i := fun i => by simp [pat]
    have ih' := ih hs' (fun i hi => by have := hd (i + 1) (by simp; omega); rwa [hpat] at this) (by simp at h8; omega)
    obtain ⟨d1, d2⟩ := hd 0 (by simp)
    have hq0 : pat (q :: L) 0 = q := rfl
    rw [hq0] at d1 d2
    obtain ⟨d, hdd⟩ : ∃ d : Nat, dgT q.f2 = (d : Int) := ⟨(dgT q.f2).toNat, by omega⟩
    have hdg : dgs (q :: L) = d :: dgs L := by simp [dgs, hdd]
    obtain ⟨t8, tl⟩ := hs.2 q (by simp)
    have hlen : (dgs L).length ≤ 7 := by simp [dgs]; simp at h8; omega
    have hcl : ∀ m, m ≤ 12 → cnt (dgs L) m ≤ 62748517 := fun m hm => by
      have h1 := cnt_le (dgs L) m hm
      have h2 : 13 ^ (dgs L).length ≤ 13 ^ 7 := Nat.pow_le_pow_right (by omega) hlen
      have h3 : (13 : Nat) ^ 7 = 62748517 := by decide
      omega
    have hnd : n / d ≤ n := Nat.div_le_self _ _
    have key : ∀ (m : Nat) (out : List (List Int)), m ≤ n / d + 1 → out.length + m * 62748517 ≤ 1000000000 → (∀ i, (out.getD i []).length ≤ L.length + 1) →
        ∃ r K, r.length = out.length + sumTo (fun j => cnt (dgs L) (n - j * d)) m ∧ (∀ i, (r.getD i []).length ≤ L.length + 1) ∧
          ∀ k, K < k → spec_l05Exponents.l0 k (q :: L) n out d ((m : Int) - 1) = some r := by
      intro m
      induction m with
      | zero =>
        intro out _ _ ho
        refine ⟨out, 0, by simp [sumTo], ho, fun k hk => ?_⟩
        obtain ⟨k, rfl⟩ := step_k hk
        simp only [spec_l05Exponents.l0]; rw [if_neg (by omega)]
      | succ m ihm =>
        intro out hm hb ho
        have hmd : m * d ≤ n := Nat.le_trans (Nat.mul_le_mul_right d (by omega : m ≤ n / d)) (Nat.div_mul_le_self n d)
        obtain ⟨rest, K1, r1, r2, r3⟩ := ih' (n - m * d) (by omega)
        have hcl' := hcl (n - m * d) (by omega)
        have e0 : ((m + 1 : Nat) : Int) - 1 = (m : Int) := by omega
        have em : wrap64 ((m : Int) * (d : Int)) = ((m * d : Nat) : Int) := by rw [← Int.natCast_mul]; exact wrap_nat (Nat.le_trans hmd (by omega))
        have en : wrap64 ((n : Int) - ((m * d : Nat) : Int)) = ((n - m * d : Nat) : Int) := by
          rw [← Int.natCast_sub hmd]; exact wrap_nat (Nat.le_trans (Nat.sub_le _ _) (by omega))
        have ej : wrap64 ((m : Int) - 1) = (m : Int) - 1 := wrap_in (by omega) (by omega)
        obtain ⟨out', o1, o2, o3⟩ := ex_l1 (q :: L) n d m ((m : Int) - 1) L.length (by simp at h8; omega) rest r2 (by omega) ej rest.length 0 out (by omega) (by omega) ho
        obtain ⟨r, K2, s1, s2, s3⟩ := ihm out' (by omega) (by omega) o2
        refine ⟨r, K1 + K2 + rest.length + 3, ?_, s2, fun k hk => ?_⟩
        · rw [s1, o1, r1]; simp only [sumTo]; omega
        · obtain ⟨k, rfl⟩ := step_k hk
          rw [e0]
          simp only [spec_l05Exponents.l0]
          rw [if_pos (by omega), if_pos (by simp only [List.length_cons]; omega), em, en, List.drop_one, List.tail_cons, r3 k (by omega), bnd]
          have := o3 k (by omega)
          rw [show ((0 : Nat) : Int) = 0 from rfl] at this
          rw [this]
          exact s3 _ (by omega)
    have hn12 : (n / d + 1) * 62748517 ≤ 13 * 62748517 := Nat.mul_le_mul_right _ (by omega)
    obtain ⟨r, K, k1, k2, k3⟩ := key (n / d + 1) [] (Nat.le_refl _) (by simp; omega) (by intro i; simp)
    refine ⟨r, K + 1, by rw [k1, hdg]; simp [cnt], k2, fun k hk => ?_⟩
    obtain ⟨k, rfl⟩ := step_k hk
    have et : wrap64 (Int.tdiv (n : Int) (d : Int)) = ((n / d + 1 : Nat) : Int) - 1 := by
      rw [Int.tdiv_eq_ediv_of_nonneg (by omega), ← Int.natCast_ediv, wrap_in (by omega) (by omega)]; omega
    rw [spec_l05Exponents.f, if_neg (by rw [List.length_cons]; omega), if_pos (by rw [List.length_cons]; omega), rdP0_is, hq0, sDegree_is _ _ _ t8 tl, bnd, hdd, if_neg (by omega), et]
    exact k3 k (by omega)
/-- what is told with enough rounds is told with more -/
theorem more {α : Type} {f : Nat → Option α} (hm : ∀ k, LeO (f k) (f (k + 1))) {n : Nat} {v : α} (h : f n = some v) : ∀ k, n ≤ k → f k = some v := by
  intro k hk
  obtain ⟨d, rfl⟩ : ∃ d, k = n + d := ⟨k - n, by omega⟩
  clear hk
  induction d with
  | zero => exact h
  | succ d ih => exact hm _ _ ih
theorem sCode7_is (L : List S44) (hs : small L) (n low : Int) (k : Nat) (hk : 14000000 < k) :
    spec_l07Code.f k L n low = some (if codeL L = 0 then (if (decide (low ≤ n) && decide (n ≤ 12)) = true then 0 else 2) else codeL L) := by
  unfold spec_l07Code.f
  rw [sSome_is L hs 0 k hk, bnd]
  by_cases c : codeL L = 0
  · rw [if_pos c, if_pos c, if_pos (show (if (decide ((0 : Int) ≤ 0) && decide ((0 : Int) ≤ 12)) = true then (0 : Int) else 2) = 0 from rfl), sIn_is, bnd, show (if (decide ((0 : Int) ≤ 0) && decide ((0 : Int) ≤ 12)) = true then (0 : Int) else 2) = 0 from rfl]
    split <;> rfl
  · rw [if_neg c, if_neg c, if_neg c]
theorem iBound_is (L : List S44) (hs : small L) (n : Int) (k : Nat) (hk : 14000000 < k) :
    impl_boundCode.f k L n = some (if codeL L = 0 then (if (decide (0 ≤ n) && decide (n ≤ 12)) = true then 0 else 2) else codeL L) := by
  unfold impl_boundCode.f impl_isBound.f
  rw [iCode_is L hs k hk, bnd]
  by_cases c : codeL L = 0
  · rw [if_pos c, if_pos c]
    by_cases h0 : n ≥ 0
    · rw [if_pos h0, bnd]; simp only [ge_iff_le] at h0; simp [h0]; split <;> rfl
    · rw [if_neg h0, bnd]; simp only [ge_iff_le] at h0; simp [h0]
  · rw [if_neg c, if_neg c]
theorem iDegs_loop (L : List S44) (hs : small L) (hd : ∀ i, i < L.length → 1 ≤ dgT (pat L i).f2) : ∀ (m i : Nat) (out : List Int), i + m = L.length → out = ((dgs L).map Int.ofNat).take i → ∀ k, m < k →
    impl_degreesOf.l0 k out L L.length i = some ((dgs L).map Int.ofNat) := by
  intro m
  have hdl : (dgs L).length = L.length := by simp [dgs]
  induction m with
  | zero =>
    intro i out h1 h2 k hk
    obtain ⟨k, rfl⟩ := step_k hk
    simp only [impl_degreesOf.l0]; rw [if_neg (by omega), h2, List.take_of_length_le (by simp; omega)]
  | succ m ih =>
    intro i out h1 h2 k hk
    obtain ⟨k, rfl⟩ := step_k hk
    have hl := hs.1
    have e2 : wrap64 ((i : Int) + 1) = ((i + 1 : Nat) : Int) := by rw [wrap_in (by omega) (by omega)]; simp
    obtain ⟨h8, h9⟩ := small_at hs i
    have hol : out.length ≤ i := by rw [h2]; simp; omega
    simp only [impl_degreesOf.l0]
    rw [if_pos (by omega), if_pos (by omega), if_pos (by omega), rdP_is, iDegP_is _ _ _ h8 h9, bnd, if_pos (by omega), e2]
    refine ih (i + 1) _ (by omega) ?_ k (by omega)
    have hi : i < ((dgs L).map Int.ofNat).length := by simp; omega
    rw [h2, List.take_succ_eq_append_getElem hi]
    congr 2
    have hdi := hd i (by omega)
    have hp : pat L i = L[i] := by unfold pat; rw [List.getD_eq_getElem?_getD, List.getElem?_eq_getElem (by omega)]; rfl
    rw [hp] at hdi ⊢
    simp [dgs]; omega
theorem same (L : List S44) (hs : small L) (n : Int) : ∃ r c K, ∀ k, K < k → spec_FreeNumber.f k L n = some (r, c) ∧ impl_FreeNumber.f k L n = some (r, c) := by
  by_cases c : codeL L = 0
  · by_cases hn : (decide (0 ≤ n) && decide (n ≤ 12)) = true
    · have hn2 := hn
      simp only [Bool.and_eq_true, decide_eq_true_eq] at hn2
      obtain ⟨m, rfl⟩ : ∃ m : Nat, n = (m : Int) := ⟨n.toNat, by omega⟩
      obtain ⟨s1, s2, s3, s4, s5⟩ := code_spec c
      obtain ⟨r, K, r1, r2, r3⟩ := ex_is L hs s5 s2 m (by omega)
      have hds : ∀ d ∈ dgs L, 1 ≤ d ∧ d ≤ 12 := by
        intro d hd
        obtain ⟨q, hq, rfl⟩ := List.mem_map.1 hd
        obtain ⟨i, hi, rfl⟩ := List.getElem_of_mem hq
        have := s5 i hi
        have hp : pat L i = L[i] := by unfold pat; rw [List.getD_eq_getElem?_getD, List.getElem?_eq_getElem (by omega)]; rfl
        rw [hp] at this
        omega
      have hw := ways_cnt (dgs L) m (by omega) hds (by simp [dgs]; omega)
      refine ⟨(cnt (dgs L) m : Int), 0, K + 15000000, fun k hk => ⟨?_, ?_⟩⟩
      · unfold spec_FreeNumber.f
        rw [sCode7_is L hs _ _ k (by omega), bnd, if_pos c, if_pos hn, if_pos rfl, r3 k (by omega), bnd, r1]
      · unfold impl_FreeNumber.f impl_degreesOf.f
        have hdeg := iDegs_loop L hs (fun i hi => (s5 i hi).1) L.length 0 [] (by omega) (by simp) k (by omega)
        rw [show ((0 : Nat) : Int) = 0 from rfl] at hdeg
        rw [iBound_is L hs _ k (by omega), bnd, if_pos c, if_pos hn, if_pos rfl, hdeg, bnd, hw k (by omega), bnd, if_pos (by omega), if_pos (by rw [cs_len]; omega)]
        simp only [rd, Int.toNat_natCast]
        rw [cs_at _ _ _ (Nat.le_refl _)]
    · refine ⟨0, 2, 15000000, fun k hk => ⟨?_, ?_⟩⟩
      · unfold spec_FreeNumber.f; rw [sCode7_is L hs _ _ k (by omega), bnd, if_pos c, if_neg hn, if_neg (by omega)]
      · unfold impl_FreeNumber.f; rw [iBound_is L hs _ k (by omega), bnd, if_pos c, if_neg hn, if_neg (by omega)]
  · refine ⟨0, codeL L, 15000000, fun k hk => ⟨?_, ?_⟩⟩
    · unfold spec_FreeNumber.f; rw [sCode7_is L hs _ _ k (by omega), bnd, if_neg c, if_neg c]
    · unfold impl_FreeNumber.f; rw [iBound_is L hs _ k (by omega), bnd, if_neg c, if_neg c]
theorem FnExactFreeNumber : laws_FnExactFreeNumber.Pure := by
  intro l n hl _
  obtain ⟨hlen, hg⟩ := hl
  have hterms : ∀ q ∈ l, q.f2.length ≤ 9223372036854775807 := fun q hq => (hg q hq).2.2.1
  obtain ⟨r0, h0, h0b⟩ := szPS_is l 1048581 (by omega) hlen hterms
  by_cases hneg : r0 < 0
  · exact ⟨1048581, by unfold laws_FnExactFreeNumber.f; rw [h0, bnd, if_pos hneg]⟩
  · obtain ⟨hl1, hq1⟩ := h0b (by omega)
    have hs := small_cv hl1 hq1 hg
    obtain ⟨r, c, K, hrc⟩ := same (l.map cvP) hs n
    obtain ⟨k, hk⟩ : ∃ k, k = K + 20000000 := ⟨_, rfl⟩
    obtain ⟨r1, h1, h1b⟩ := szPS_is l (k + 1) (by omega) hlen hterms
    have hneg1 : ¬ r1 < 0 := by
      intro hlt
      have := more (laws_szPolyS.mono l 1048576) h0 (k + 1) (by omega)
      rw [h1] at this
      simp only [Option.some.injEq] at this
      omega
    refine ⟨k + 1, ?_⟩
    obtain ⟨hs1, hi1⟩ := hrc (k + 1) (by omega)
    unfold laws_FnExactFreeNumber.f
    rw [h1, bnd, if_neg hneg1, toPS_is l _ (by omega) hl1 hq1, bnd, hs1, bnd, bnd, hi1, bnd, if_pos rfl, bne_self_eq_false, laws_FnExactFreeNumber.j0, if_neg (by simp), toPS_is l _ (by omega) hl1 hq1, bnd,
      eqPS_is _ _ (by omega) hs.1 (fun q hq => (hs.2 q hq).2), bnd, if_pos rfl]

end Go.Proofs.Ytpeihdjefpnoaaa.Pure
