/- FnExactNumeratorOf: what the program computes is what the reference computes, for all arguments. -/
import Derived.Test.YtdnpenpfadfehaaEFnExactNumeratorOfx5
namespace Go.Proofs.Ytdnpenpfadfehaa.Pure
open Go.RowKit Go.Proofs.Ytdnpenpfadfehaa.EFnExactNumeratorOf Go.Proofs.YtdnpenpfadfehaaW.PrintWords Go.Proofs.YtdnpenpfadfehaaW.PrintLast

/-- no definitional step: the kernel is never asked to compute what follows -/
theorem bnd {α β : Type} (a : α) (f : α → Option β) : (some a).bind f = f a := by
  have h : ∀ o : Option α, o = some a → o.bind f = f a := fun o h => by subst h; rfl
  exact h _ rfl
theorem wrap_in {x : Int} (h0 : -9223372036854775808 ≤ x) (h1 : x ≤ 9223372036854775807) : wrap64 x = x := by unfold wrap64; omega
theorem rd_mid (pre suf : List Int) (a : Int) : rd (pre ++ a :: suf) (pre.length : Int) = a := by simp [rd]
theorem step_k {n k : Nat} (h : n < k) : ∃ m, k = m + 1 := ⟨k - 1, by omega⟩
theorem eqI_loop : ∀ (suf pre : List Int) (k : Nat), suf.length < k → (pre ++ suf).length ≤ 1048576 →
    laws_eqInt64S.l0 k (pre ++ suf) (pre ++ suf) pre.length = some true := by
  intro suf
  induction suf with
  | nil =>
    intro pre k hk _
    obtain ⟨k, rfl⟩ := step_k hk
    simp only [laws_eqInt64S.l0]; rw [if_neg (by simp)]
  | cons a suf ih =>
    intro pre k hk hl
    obtain ⟨k, rfl⟩ := step_k hk
    simp only [List.length_append, List.length_cons] at hl hk
    have e2 : wrap64 ((pre.length : Int) + 1) = ((pre ++ [a]).length : Int) := by rw [wrap_in (by omega) (by omega)]; simp
    simp only [laws_eqInt64S.l0]
    rw [if_pos (by simp only [List.length_append, List.length_cons]; omega), if_pos (by omega), if_pos (by simp only [List.length_append, List.length_cons]; omega), if_pos trivial, e2]
    have := ih (pre ++ [a]) k (by omega) (by simp; omega)
    simpa using this
theorem eqI_is (l : List Int) (k : Nat) (hk : l.length < k) (hl : l.length ≤ 1048576) : laws_eqInt64S.f k l l = some true := by
  unfold laws_eqInt64S.f; rw [if_pos rfl]; exact eqI_loop l [] k hk (by simpa using hl)
/-- the marks from m on, n of them -/
def marks : Nat → Int → List Int
  | 0, _ => []
  | n + 1, m => m :: marks n (m + 1)
theorem marks_length : ∀ (n : Nat) (m : Int), (marks n m).length = n
  | 0, _ => rfl
  | n + 1, m => by simp [marks, marks_length n]
theorem mark_loop : ∀ (suf pre : List Int) (k : Nat) (m : Int), suf.length < k → (pre ++ suf).length ≤ 1048576 → 0 ≤ m → m + suf.length ≤ 9000000000 →
    laws_markInt64S.l0 k (pre ++ suf) m pre.length = some (m + suf.length, pre ++ marks suf.length m) := by
  intro suf
  induction suf with
  | nil =>
    intro pre k m hk _ _ _
    obtain ⟨k, rfl⟩ := step_k hk
    simp only [laws_markInt64S.l0]; rw [if_neg (by simp)]; simp [marks]
  | cons a suf ih =>
    intro pre k m hk hl h0 h1
    obtain ⟨k, rfl⟩ := step_k hk
    simp only [List.length_append, List.length_cons] at hl hk h1
    have e1 : (pre ++ a :: suf).set (pre.length : Int).toNat m = (pre ++ [m]) ++ suf := by
      rw [Int.toNat_natCast, List.set_append_right (h := Nat.le_refl _)]; simp
    have e2 : wrap64 ((pre.length : Int) + 1) = ((pre ++ [m]).length : Int) := by rw [wrap_in (by omega) (by omega)]; simp
    have e3 : wrap64 (m + 1) = m + 1 := wrap_in (by omega) (by omega)
    simp only [laws_markInt64S.l0]
    rw [if_pos (by simp only [List.length_append, List.length_cons]; omega), if_pos (by omega), e1, e2, e3]
    have := ih (pre ++ [m]) k (m + 1) (by omega) (by simp; omega) (by omega) (by omega)
    rw [this]; simp only [List.append_assoc, List.singleton_append, marks, List.length_cons]
    congr 2; omega
theorem mark_is (l : List Int) (k : Nat) (m : Int) (hk : l.length < k) (hl : l.length ≤ 1048576) (h0 : 0 ≤ m) (h1 : m ≤ 8000000000) :
    laws_markInt64S.f k l m = some (m + l.length, marks l.length m) := by
  unfold laws_markInt64S.f; exact mark_loop l [] k m hk (by simpa using hl) h0 (by omega)
theorem held_loop : ∀ (n : Nat) (pre : List Int) (k : Nat) (m : Int), n < k → pre.length + n ≤ 1048576 → 0 ≤ m → m + n ≤ 9000000000 →
    laws_heldInt64S.l0 k (pre ++ marks n m) m pre.length = some (m + n) := by
  intro n
  induction n with
  | zero =>
    intro pre k m hk _ _ _
    obtain ⟨k, rfl⟩ := step_k hk
    simp only [laws_heldInt64S.l0]; rw [if_neg (by simp [marks])]; simp
  | succ n ih =>
    intro pre k m hk hl h0 h1
    obtain ⟨k, rfl⟩ := step_k hk
    have e2 : wrap64 ((pre.length : Int) + 1) = ((pre ++ [m]).length : Int) := by rw [wrap_in (by omega) (by omega)]; simp
    have e3 : wrap64 (m + 1) = m + 1 := wrap_in (by omega) (by omega)
    rw [show marks (n + 1) m = m :: marks n (m + 1) from rfl]
    simp only [laws_heldInt64S.l0]
    rw [if_pos (by simp only [List.length_append, List.length_cons]; omega), if_pos (by omega), if_pos (rd_mid _ _ _), e2, e3]
    have := ih (pre ++ [m]) k (m + 1) (by omega) (by simp; omega) (by omega) (by omega)
    simp only [List.append_assoc, List.singleton_append] at this
    rw [this]; congr 1; omega
theorem held_is (n k : Nat) (m : Int) (hk : n < k) (hl : n ≤ 1048576) (h0 : 0 ≤ m) (h1 : m ≤ 8000000000) :
    laws_heldInt64S.f k (marks n m) m = some (m + n) := by
  unfold laws_heldInt64S.f
  exact held_loop n [] k m hk (by simpa using hl) h0 (by omega)
theorem toI_loop : ∀ (suf pre rest : List Int) (k : Nat), rest.length = suf.length → suf.length < k → (pre ++ suf).length ≤ 1048576 →
    laws_toInt64S.l0 k (pre ++ suf) (pre ++ rest) pre.length = some (pre ++ suf) := by
  intro suf
  induction suf with
  | nil =>
    intro pre rest k hr hk _
    obtain ⟨k, rfl⟩ := step_k hk
    have : rest = [] := List.eq_nil_of_length_eq_zero hr
    subst this
    simp only [laws_toInt64S.l0]; rw [if_neg (by simp)]
  | cons a suf ih =>
    intro pre rest k hr hk hl
    obtain ⟨k, rfl⟩ := step_k hk
    cases rest with
    | nil => simp at hr
    | cons b rest =>
      have e1 : (pre ++ b :: rest).set (pre.length : Int).toNat (rd (pre ++ a :: suf) (pre.length : Int)) = (pre ++ [a]) ++ rest := by
        rw [rd_mid, Int.toNat_natCast, List.set_append_right (h := Nat.le_refl _)]; simp
      simp only [List.length_append, List.length_cons] at hl hk hr
      have e2 : wrap64 ((pre.length : Int) + 1) = ((pre ++ [a]).length : Int) := by rw [wrap_in (by omega) (by omega)]; simp
      simp only [laws_toInt64S.l0]
      rw [if_pos (by simp only [List.length_append, List.length_cons]; omega), if_pos (by omega), if_pos (by simp only [List.length_append, List.length_cons]; omega), e1, e2]
      have := ih (pre ++ [a]) rest k (by omega) (by omega) (by simp; omega)
      simpa using this
theorem toI_is (l : List Int) (k : Nat) (hk : l.length < k) (hl : l.length ≤ 1048576) : laws_toInt64S.f k l = some l := by
  unfold laws_toInt64S.f
  rw [if_pos (by omega), if_pos (by simp; omega)]
  exact toI_loop l [] _ k (by simp) hk (by simpa using hl)
def okN (x : Int) : Bool := decide (-1000000000 ≤ x) && decide (x ≤ 1000000000)
def okS (l : List Int) : Bool := l.all okN && (decide (1 ≤ l.length) && decide (l.length ≤ 41))
theorem in_is (x : Int) : spec_l01In.f x (-1000000000) 1000000000 = some (okN x) := by
  unfold spec_l01In.f okN; by_cases h : x ≥ -1000000000
  · rw [if_pos h]; simp only [ge_iff_le] at h; simp [h]
  · rw [if_neg h]; simp only [ge_iff_le] at h; simp [h]
theorem count_is (x : Int) : impl_isCount.f x = some (okN x) := by
  unfold impl_isCount.f okN; by_cases h : x ≥ -1000000000
  · rw [if_pos h]; simp only [ge_iff_le] at h; simp [h]
  · rw [if_neg h]; simp only [ge_iff_le] at h; simp [h]
theorem len_is (n : Nat) : (if (n : Int) ≥ 1 then (some (decide ((n : Int) ≤ 41))) else (some false)) = some (decide (1 ≤ n) && decide (n ≤ 41)) := by
  by_cases h : 1 ≤ n
  · rw [if_pos (by omega)]; simp [h]; constructor <;> intro <;> omega
  · rw [if_neg (by omega)]; simp [h]
theorem isS_loop : ∀ (suf pre : List Int) (k : Nat), suf.length < k → (pre ++ suf).length ≤ 1048576 →
    spec_l04Is.l0 k (pre ++ suf) pre.length = some (suf.all okN && (decide (1 ≤ (pre ++ suf).length) && decide ((pre ++ suf).length ≤ 41))) := by
  intro suf
  induction suf with
  | nil =>
    intro pre k hk _
    obtain ⟨k, rfl⟩ := step_k hk
    simp only [spec_l04Is.l0]; rw [if_neg (by simp), len_is]; simp
  | cons a suf ih =>
    intro pre k hk hl
    obtain ⟨k, rfl⟩ := step_k hk
    simp only [List.length_append, List.length_cons] at hl hk
    have e2 : wrap64 ((pre.length : Int) + 1) = ((pre ++ [a]).length : Int) := by rw [wrap_in (by omega) (by omega)]; simp
    simp only [spec_l04Is.l0]
    rw [if_pos (by simp only [List.length_append, List.length_cons]; omega), if_pos (by omega), rd_mid, in_is]; simp only [Option.bind_some]
    by_cases h : okN a = true
    · rw [if_pos h, e2]
      have := ih (pre ++ [a]) k (by omega) (by simp; omega)
      simp only [List.append_assoc, List.singleton_append] at this
      rw [this]; simp [h]
    · rw [if_neg h]; simp [h]
theorem isS_is (l : List Int) (k : Nat) (hk : l.length < k) (hl : l.length ≤ 1048576) : spec_l04Is.f k l = some (okS l) := by
  unfold spec_l04Is.f okS; exact isS_loop l [] k hk (by simpa using hl)
theorem isI_loop : ∀ (suf pre : List Int) (k : Nat), suf.length < k → (pre ++ suf).length ≤ 1048576 →
    impl_isSeries.l0 k (pre ++ suf) (pre ++ suf) ((pre ++ suf).length : Int) pre.length = some (suf.all okN && (decide (1 ≤ (pre ++ suf).length) && decide ((pre ++ suf).length ≤ 41))) := by
  intro suf
  induction suf with
  | nil =>
    intro pre k hk _
    obtain ⟨k, rfl⟩ := step_k hk
    simp only [impl_isSeries.l0]; rw [if_neg (by simp), len_is]; simp
  | cons a suf ih =>
    intro pre k hk hl
    obtain ⟨k, rfl⟩ := step_k hk
    simp only [List.length_append, List.length_cons] at hl hk
    have e2 : wrap64 ((pre.length : Int) + 1) = ((pre ++ [a]).length : Int) := by rw [wrap_in (by omega) (by omega)]; simp
    simp only [impl_isSeries.l0]
    rw [if_pos (by simp only [List.length_append, List.length_cons]; omega), if_pos (by omega), if_pos (by simp only [List.length_append, List.length_cons]; omega), rd_mid, count_is]; simp only [Option.bind_some]
    by_cases h : okN a = true
    · rw [if_pos h, e2]
      have := ih (pre ++ [a]) k (by omega) (by simp; omega)
      simp only [List.append_assoc, List.singleton_append] at this
      rw [this]; simp [h]
    · rw [if_neg h]; simp [h]
theorem isI_is (l : List Int) (k : Nat) (hk : l.length < k) (hl : l.length ≤ 1048576) : impl_isSeries.f k l = some (okS l) := by
  unfold impl_isSeries.f okS; exact isI_loop l [] k hk (by simpa using hl)
theorem okS_len {l : List Int} (h : okS l = true) : 1 ≤ l.length ∧ l.length ≤ 41 := by
  simp [okS] at h; omega
def okD (x : Int) : Bool := decide (1 ≤ x) && decide (x ≤ 40)
theorem okd (x : Int) : spec_l01In.f x 1 40 = some (okD x) := by
  unfold spec_l01In.f okD; by_cases h : x ≥ 1
  · rw [if_pos h]; simp only [ge_iff_le] at h; simp [h]
  · rw [if_neg h]; simp only [ge_iff_le] at h; simp [h]
def okDs (l : List Int) : Bool := l.all okD && decide (l.length ≤ 6)
theorem dS_loop : ∀ (suf pre : List Int) (k : Nat), suf.length < k → (pre ++ suf).length ≤ 1048576 →
    spec_l04Degrees.l0 k (pre ++ suf) pre.length = some (suf.all okD && decide ((pre ++ suf).length ≤ 6)) := by
  intro suf
  induction suf with
  | nil =>
    intro pre k hk _
    obtain ⟨k, rfl⟩ := step_k hk
    simp only [spec_l04Degrees.l0]; rw [if_neg (by simp)]; simp; omega
  | cons a suf ih =>
    intro pre k hk hl
    obtain ⟨k, rfl⟩ := step_k hk
    simp only [List.length_append, List.length_cons] at hl hk
    have e2 : wrap64 ((pre.length : Int) + 1) = ((pre ++ [a]).length : Int) := by rw [wrap_in (by omega) (by omega)]; simp
    simp only [spec_l04Degrees.l0]
    rw [if_pos (by simp only [List.length_append, List.length_cons]; omega), if_pos (by omega), rd_mid, okd]; simp only [Option.bind_some]
    by_cases h : okD a = true
    · rw [if_pos h, e2]
      have := ih (pre ++ [a]) k (by omega) (by simp; omega)
      simp only [List.append_assoc, List.singleton_append] at this
      rw [this]; simp [h]
    · rw [if_neg h]; simp [h]
theorem dS_is (l : List Int) (k : Nat) (hk : l.length < k) (hl : l.length ≤ 1048576) : spec_l04Degrees.f k l = some (okDs l) := by
  unfold spec_l04Degrees.f okDs; exact dS_loop l [] k hk (by simpa using hl)
theorem dI_loop : ∀ (suf pre : List Int) (k : Nat), suf.length < k → (pre ++ suf).length ≤ 1048576 →
    impl_areDegrees.l0 k (pre ++ suf) (pre ++ suf) ((pre ++ suf).length : Int) pre.length = some (suf.all okD && decide ((pre ++ suf).length ≤ 6)) := by
  intro suf
  induction suf with
  | nil =>
    intro pre k hk _
    obtain ⟨k, rfl⟩ := step_k hk
    simp only [impl_areDegrees.l0]; rw [if_neg (by simp)]; simp; omega
  | cons a suf ih =>
    intro pre k hk hl
    obtain ⟨k, rfl⟩ := step_k hk
    simp only [List.length_append, List.length_cons] at hl hk
    have e2 : wrap64 ((pre.length : Int) + 1) = ((pre ++ [a]).length : Int) := by rw [wrap_in (by omega) (by omega)]; simp
    simp only [impl_areDegrees.l0]
    rw [if_pos (by simp only [List.length_append, List.length_cons]; omega), if_pos (by omega), if_pos (by simp only [List.length_append, List.length_cons]; omega), rd_mid]
    by_cases h0 : a < 1
    · rw [if_pos h0]; simp [okD]; omega
    · rw [if_neg h0]
      by_cases h1 : a > 40
      · rw [if_pos h1]; simp [okD]; omega
      · rw [if_neg h1, e2]
        have := ih (pre ++ [a]) k (by omega) (by simp; omega)
        simp only [List.append_assoc, List.singleton_append] at this
        have ha : okD a = true := by simp [okD]; omega
        rw [this]; simp [ha]
theorem dI_is (l : List Int) (k : Nat) (hk : l.length < k) (hl : l.length ≤ 1048576) : impl_areDegrees.f k l = some (okDs l) := by
  unfold impl_areDegrees.f okDs; exact dI_loop l [] k hk (by simpa using hl)
theorem own_is (l : List Int) (h : l.length ≤ 1048576) : spec_l01Own.f l = some l := by
  unfold spec_l01Own.f; rw [bnd, if_pos (by simp only [List.length_nil]; omega)]; simp
theorem clone_is (l : List Int) (h : l.length ≤ 1048576) : slices_Clone_int64_int64.f l = some l := by
  unfold slices_Clone_int64_int64.f; rw [if_pos (by omega)]
theorem getD_put (l : List Int) (i j : Nat) (v : Int) (h : i < l.length) : (l.set i v).getD j 0 = if i = j then v else l.getD j 0 := by
  simp only [List.getD_eq_getElem?_getD, List.getElem?_set]
  by_cases h1 : i = j
  · subst h1; simp [h]
  · simp [h1]
theorem ext_getD {l l' : List Int} (h : l.length = l'.length) (h2 : ∀ j, j < l.length → l.getD j 0 = l'.getD j 0) : l = l' := by
  apply List.ext_getElem h
  intro j h3 h4
  have := h2 j h3
  simpa [List.getD_eq_getElem?_getD, List.getElem?_eq_getElem h3, List.getElem?_eq_getElem h4] using this
/-- what one degree takes away -/
def back (y : List Int) (d j : Nat) : Int := if d ≤ j then y.getD (j - d) 0 else 0
def new (y : List Int) (d j : Nat) : Int := y.getD j 0 - back y d j
def news (y : List Int) (d : Nat) : List Int := (List.range y.length).map (new y d)
theorem news_at (y : List Int) (d j : Nat) (h : j < y.length) : (news y d).getD j 0 = new y d j := by
  simp [news, List.getD_eq_getElem?_getD, h]
theorem news_len (y : List Int) (d : Nat) : (news y d).length = y.length := by simp [news]
theorem shf_loop (y : List Int) (d : Nat) (hy : y.length ≤ 41) (hd : d ≤ 40) : ∀ (m i : Nat) (x : List Int), d ≤ i → y.length - i = m → x.length = y.length →
    (∀ j, j < i → j < y.length → x.getD j 0 = back y d j) →
    ∃ r, r.length = y.length ∧ (∀ j, j < y.length → r.getD j 0 = back y d j) ∧ ∀ k, m < k → spec_l04Shift.l0 k y d x i = some r := by
  intro m
  induction m with
  | zero =>
    intro i x h1 h2 h3 h4
    refine ⟨x, h3, fun j hj => h4 j (by omega) hj, fun k hk => ?_⟩
    obtain ⟨k, rfl⟩ := step_k hk
    simp only [spec_l04Shift.l0]; rw [if_neg (by omega)]
  | succ m ih =>
    intro i x h1 h2 h3 h4
    have e2 : wrap64 ((i : Int) + 1) = ((i + 1 : Nat) : Int) := by rw [wrap_in (by omega) (by omega)]; simp
    have e3 : wrap64 ((i : Int) - d) = ((i - d : Nat) : Int) := by rw [wrap_in (by omega) (by omega)]; omega
    obtain ⟨r, hr, hr2, h5⟩ := ih (i + 1) (x.set i (y.getD (i - d) 0)) (by omega) (by omega) (by simpa using h3) (by
      intro j hj hj2
      rw [getD_put _ _ _ _ (by omega)]
      by_cases h : i = j
      · subst h; rw [if_pos rfl]; unfold back; rw [if_pos h1]
      · rw [if_neg h]; exact h4 j (by omega) hj2)
    refine ⟨r, hr, hr2, fun k hk => ?_⟩
    obtain ⟨k, rfl⟩ := step_k hk
    simp only [spec_l04Shift.l0]
    rw [if_pos (by omega), e3, if_pos (by omega), if_pos (by omega), if_pos (by omega), if_pos (by omega), e2]
    simp only [rd, Int.toNat_natCast]
    exact h5 k (by omega)
theorem shf_is (y : List Int) (d : Nat) (hy : y.length ≤ 41) (hd : d ≤ 40) :
    ∃ r, r.length = y.length ∧ (∀ j, j < y.length → r.getD j 0 = back y d j) ∧ ∀ k, 50 < k → spec_l04Shift.f k y d = some r := by
  obtain ⟨r, h1, h2, h3⟩ := shf_loop y d hy hd (y.length - d) d (List.replicate y.length 0) (Nat.le_refl _) rfl (by simp) (by
    intro j hj hj2
    unfold back; rw [if_neg (by omega)]; simp [List.getD_eq_getElem?_getD, hj2])
  refine ⟨r, h1, h2, fun k hk => ?_⟩
  unfold spec_l04Shift.f
  rw [if_pos (by omega), if_pos (by simp only [Int.toNat_natCast]; omega)]
  simp only [Int.toNat_natCast]
  exact h3 k (by omega)
theorem okN_bd {x : Int} (h : okN x = true) : -1000000000 ≤ x ∧ x ≤ 1000000000 := by
  simpa [okN] using h
theorem back_bd {y : List Int} (h : ∀ j, okN (y.getD j 0) = true) (d j : Nat) : -1000000000 ≤ back y d j ∧ back y d j ≤ 1000000000 := by
  unfold back; split
  · exact okN_bd (h _)
  · omega
theorem numS (D : List Int) (y b : List Int) (d ix : Nat) (hix : ix < 100) (hy : y.length ≤ 41) (hok : ∀ j, okN (y.getD j 0) = true) (hb : b.length = y.length) (hb2 : ∀ j, j < y.length → b.getD j 0 = back y d j) :
    ∀ (m i : Nat) (x : List Int), i + m = y.length → x.length = y.length → (∀ j, j < i → x.getD j 0 = new y d j) → (∀ j, i ≤ j → x.getD j 0 = y.getD j 0) → (∀ j, j < i → okN (new y d j) = true) →
      ((∀ j, j < y.length → okN (new y d j) = true) → ∀ k, m < k → spec_NumeratorOf.l1 k D x ix b i = spec_NumeratorOf.l0 (k - m - 1) D (news y d) ((ix + 1 : Nat) : Int)) ∧
      ((¬ ∀ j, j < y.length → okN (new y d j) = true) → ∀ k, m < k → spec_NumeratorOf.l1 k D x ix b i = some ([], 3)) := by
  intro m
  have e1 : wrap64 ((ix : Int) + 1) = ((ix + 1 : Nat) : Int) := by rw [wrap_in (by omega) (by omega)]; simp
  induction m with
  | zero =>
    intro i x h1 h2 h3 h4 h5
    refine ⟨fun h6 k hk => ?_, fun h6 => absurd (fun j hj => h5 j (by omega)) h6⟩
    obtain ⟨k, rfl⟩ := step_k hk
    have : x = news y d := ext_getD (by rw [h2, news_len]) (fun j hj => by rw [h3 j (by omega), news_at _ _ _ (by omega)])
    subst this
    simp only [spec_NumeratorOf.l1]; rw [if_neg (by omega), e1]; simp
  | succ m ih =>
    intro i x h1 h2 h3 h4 h5
    have e2 : wrap64 ((i : Int) + 1) = ((i + 1 : Nat) : Int) := by rw [wrap_in (by omega) (by omega)]; simp
    have hbd := back_bd hok d i
    have hyb := okN_bd (hok i)
    have e4 : wrap64 (rd x i - rd b i) = new y d i := by
      simp only [rd, Int.toNat_natCast]; rw [h4 i (Nat.le_refl _), hb2 i (by omega)]; exact wrap_in (by omega) (by omega)
    have step : ∀ k, spec_NumeratorOf.l1 (k + 1) D x ix b i = if okN (new y d i) = true then spec_NumeratorOf.l1 k D (x.set i (new y d i)) ix b ((i + 1 : Nat) : Int) else some ([], 3) := by
      intro k
      simp only [spec_NumeratorOf.l1]
      rw [if_pos (by omega), if_pos (by omega), if_pos (by omega), e4, in_is, bnd, e2]
      simp only [Int.toNat_natCast]
    by_cases hh : okN (new y d i) = true
    · have H := ih (i + 1) (x.set i (new y d i)) (by omega) (by simpa using h2) (by
        intro j hj; rw [getD_put _ _ _ _ (by omega)]
        by_cases h : i = j
        · subst h; rw [if_pos rfl]
        · rw [if_neg h]; exact h3 j (by omega)) (by
        intro j hj; rw [getD_put _ _ _ _ (by omega), if_neg (by omega)]; exact h4 j (by omega)) (by
        intro j hj
        by_cases h : j = i
        · subst h; exact hh
        · exact h5 j (by omega))
      refine ⟨fun h6 k hk => ?_, fun h6 k hk => ?_⟩
      · obtain ⟨k, rfl⟩ := step_k hk
        rw [step, if_pos hh, H.1 h6 k (by omega)]; congr 1; omega
      · obtain ⟨k, rfl⟩ := step_k hk
        rw [step, if_pos hh, H.2 h6 k (by omega)]
    · refine ⟨fun h6 => absurd (h6 i (by omega)) hh, fun h6 k hk => ?_⟩
      obtain ⟨k, rfl⟩ := step_k hk
      rw [step, if_neg hh]
theorem numI (D : List Int) (n : Int) (y : List Int) (d ix : Nat) (hd : 1 ≤ d) (hd2 : d ≤ 40) (hix : ix < 100) (hy : y.length ≤ 41) (hok : ∀ j, okN (y.getD j 0) = true) :
    ∀ (m p : Nat) (x : List Int), p ≤ y.length → p - d = m → x.length = y.length → (∀ j, p ≤ j → j < y.length → x.getD j 0 = new y d j) → (∀ j, j < p → x.getD j 0 = y.getD j 0) → (∀ j, p ≤ j → j < y.length → okN (new y d j) = true) →
      ((∀ j, j < y.length → okN (new y d j) = true) → ∀ k, m < k → impl_NumeratorOf.l1 k x d ((p : Int) - 1) D n ix = impl_NumeratorOf.l0 (k - m - 1) (news y d) D n ((ix + 1 : Nat) : Int)) ∧
      ((¬ ∀ j, j < y.length → okN (new y d j) = true) → ∀ k, m < k → impl_NumeratorOf.l1 k x d ((p : Int) - 1) D n ix = some ([], 3)) := by
  intro m
  have e1 : wrap64 ((ix : Int) + 1) = ((ix + 1 : Nat) : Int) := by rw [wrap_in (by omega) (by omega)]; simp
  have hlow : ∀ j, j < d → new y d j = y.getD j 0 := by intro j hj; unfold new back; rw [if_neg (by omega)]; simp
  induction m with
  | zero =>
    intro p x h0 h1 h2 h3 h4 h5
    refine ⟨fun h6 k hk => ?_, fun h6 => absurd (fun j hj => ?_) h6⟩
    · obtain ⟨k, rfl⟩ := step_k hk
      have : x = news y d := ext_getD (by rw [h2, news_len]) (fun j hj => by
        rw [news_at _ _ _ (by omega)]
        by_cases h : p ≤ j
        · exact h3 j h (by omega)
        · rw [h4 j (by omega), hlow j (by omega)])
      subst this
      simp only [impl_NumeratorOf.l1]; rw [if_neg (by omega), e1]; simp
    · by_cases h : p ≤ j
      · exact h5 j h hj
      · rw [hlow j (by omega)]; exact hok j
  | succ m ih =>
    intro p x h0 h1 h2 h3 h4 h5
    obtain ⟨i, rfl⟩ : ∃ i, p = i + 1 := ⟨p - 1, by omega⟩
    have e0 : ((i + 1 : Nat) : Int) - 1 = (i : Int) := by omega
    have e2 : wrap64 ((i : Int) - 1) = (i : Int) - 1 := wrap_in (by omega) (by omega)
    have e3 : wrap64 ((i : Int) - d) = ((i - d : Nat) : Int) := by rw [wrap_in (by omega) (by omega)]; omega
    have hbd := back_bd hok d i
    have hyb := okN_bd (hok i)
    have e4 : wrap64 (rd x i - rd x ((i - d : Nat) : Int)) = new y d i := by
      simp only [rd, Int.toNat_natCast]; rw [h4 i (by omega), h4 (i - d) (by omega)]
      have : new y d i = y.getD i 0 - y.getD (i - d) 0 := by unfold new back; rw [if_pos (by omega)]
      rw [← this]; unfold new; exact wrap_in (by omega) (by omega)
    have step : ∀ k, impl_NumeratorOf.l1 (k + 1) x d (i : Int) D n ix = if okN (new y d i) = true then impl_NumeratorOf.l1 k (x.set i (new y d i)) d ((i : Int) - 1) D n ix else some ([], 3) := by
      intro k
      simp only [impl_NumeratorOf.l1]
      rw [if_pos (by omega), if_pos (by omega), if_pos (by omega), e3, if_pos (by omega), if_pos (by omega), e4, count_is, bnd, e2]
      simp only [Int.toNat_natCast]
    rw [e0]
    by_cases hh : okN (new y d i) = true
    · have H := ih i (x.set i (new y d i)) (by omega) (by omega) (by simpa using h2) (by
        intro j hj hj2; rw [getD_put _ _ _ _ (by omega)]
        by_cases h : i = j
        · subst h; rw [if_pos rfl]
        · rw [if_neg h]; exact h3 j (by omega) hj2) (by
        intro j hj; rw [getD_put _ _ _ _ (by omega), if_neg (by omega)]; exact h4 j (by omega)) (by
        intro j hj hj2
        by_cases h : j = i
        · subst h; exact hh
        · exact h5 j (by omega) hj2)
      refine ⟨fun h6 k hk => ?_, fun h6 k hk => ?_⟩
      · obtain ⟨k, rfl⟩ := step_k hk
        rw [step, if_pos hh, H.1 h6 k (by omega)]; congr 1; omega
      · obtain ⟨k, rfl⟩ := step_k hk
        rw [step, if_pos hh, H.2 h6 k (by omega)]
    · refine ⟨fun h6 => absurd (h6 i (by omega)) hh, fun h6 k hk => ?_⟩
      obtain ⟨k, rfl⟩ := step_k hk
      rw [step, if_neg hh]
theorem okD_at {l : List Int} (h : l.all okD = true) (i : Nat) (hi : i < l.length) : 1 ≤ l.getD i 0 ∧ l.getD i 0 ≤ 40 := by
  have := List.all_eq_true.mp h _ (List.getElem_mem hi)
  simp only [okD, Bool.and_eq_true, decide_eq_true_eq] at this
  simpa [List.getD_eq_getElem?_getD, List.getElem?_eq_getElem hi] using this
theorem num_all (D : List Int) (hD : D.all okD = true) (hDl : D.length ≤ 6) : ∀ (m i : Nat) (y : List Int), i + m = D.length → y.length ≤ 41 → (∀ j, okN (y.getD j 0) = true) →
    ∃ r c, r.length ≤ 41 ∧ ∀ k, m * 60 + 60 < k → spec_NumeratorOf.l0 k D y i = some (r, c) ∧ impl_NumeratorOf.l0 k y D D.length i = some (r, c) := by
  intro m
  induction m with
  | zero =>
    intro i y h1 h2 h3
    refine ⟨y, 0, h2, fun k hk => ?_⟩
    obtain ⟨k, rfl⟩ := step_k hk
    simp only [spec_NumeratorOf.l0, impl_NumeratorOf.l0]
    exact ⟨by rw [if_neg (by omega)], by rw [if_neg (by omega)]⟩
  | succ m ih =>
    intro i y h1 h2 h3
    obtain ⟨hd1, hd2⟩ := okD_at hD i (by omega)
    obtain ⟨d, hd⟩ : ∃ d : Nat, D.getD i 0 = (d : Int) := ⟨(D.getD i 0).toNat, by omega⟩
    have hrd : rd D (i : Int) = (d : Int) := by simp only [rd, Int.toNat_natCast]; exact hd
    obtain ⟨b, hb, hb2, hsh⟩ := shf_is y d h2 (by omega)
    have HS := numS D y b d i (by omega) h2 h3 hb hb2 y.length 0 y (by omega) rfl (by intro j hj; omega) (fun _ _ => rfl) (by intro j hj; omega)
    have HI := numI D (D.length : Int) y d i (by omega) (by omega) (by omega) h2 h3 (y.length - d) y.length y (Nat.le_refl _) rfl rfl (by intro j hj hj2; omega) (fun _ _ => rfl) (by intro j hj hj2; omega)
    have e0 : wrap64 ((y.length : Int) - 1) = (y.length : Int) - 1 := wrap_in (by omega) (by omega)
    by_cases h6 : ∀ j, j < y.length → okN (new y d j) = true
    · obtain ⟨r, c, hr, hrc⟩ := ih (i + 1) (news y d) (by omega) (by rw [news_len]; exact h2) (by
        intro j
        by_cases hj : j < y.length
        · rw [news_at _ _ _ hj]; exact h6 j hj
        · rw [List.getD_eq_getElem?_getD, List.getElem?_eq_none (by rw [news_len]; omega)]; rfl)
      refine ⟨r, c, hr, fun k hk => ?_⟩
      obtain ⟨k, rfl⟩ := step_k hk
      constructor
      · simp only [spec_NumeratorOf.l0]
        rw [if_pos (by omega), if_pos (by omega), hrd, hsh k (by omega), bnd, show (0 : Int) = ((0 : Nat) : Int) from rfl, HS.1 h6 k (by omega)]
        exact (hrc _ (by omega)).1
      · simp only [impl_NumeratorOf.l0]
        rw [if_pos (by omega), if_pos (by omega), if_pos (by omega), hrd, e0, HI.1 h6 k (by omega)]
        exact (hrc _ (by omega)).2
    · refine ⟨[], 3, by simp, fun k hk => ?_⟩
      obtain ⟨k, rfl⟩ := step_k hk
      constructor
      · simp only [spec_NumeratorOf.l0]
        rw [if_pos (by omega), if_pos (by omega), hrd, hsh k (by omega), bnd, show (0 : Int) = ((0 : Nat) : Int) from rfl, HS.2 h6 k (by omega)]
      · simp only [impl_NumeratorOf.l0]
        rw [if_pos (by omega), if_pos (by omega), if_pos (by omega), hrd, e0, HI.2 h6 k (by omega)]
theorem okN_at {l : List Int} (h : l.all okN = true) (q : Nat) : okN (l.getD q 0) = true := by
  by_cases hq : q < l.length
  · rw [List.getD_eq_getElem?_getD, List.getElem?_eq_getElem hq]; exact List.all_eq_true.mp h _ (List.getElem_mem hq)
  · rw [List.getD_eq_getElem?_getD, List.getElem?_eq_none (by omega)]; rfl
theorem same (l l' : List Int) (k : Nat) (hk : l.length + l'.length + 3000 < k) (hl : l.length ≤ 1048576) (hl' : l'.length ≤ 1048576) :
    ∃ r c, r.length ≤ 41 ∧ spec_NumeratorOf.f k l l' = some (r, c) ∧ impl_NumeratorOf.f k l l' = some (r, c) := by
  obtain ⟨k, rfl⟩ := step_k hk
  unfold spec_NumeratorOf.f impl_NumeratorOf.f
  rw [isS_is l _ (by omega) hl, isI_is l _ (by omega) hl, bnd, bnd]
  by_cases h : okS l = true
  · rw [if_pos h, if_pos h, dS_is l' _ (by omega) hl', dI_is l' _ (by omega) hl', bnd, bnd]
    obtain ⟨h1, h2⟩ := okS_len h
    by_cases h' : okDs l' = true
    · have ha : l.all okN = true := by simp only [okS, Bool.and_eq_true] at h; exact h.1
      have h3 := h'
      simp only [okDs, Bool.and_eq_true, decide_eq_true_eq] at h3
      obtain ⟨r, c, hr, hrc⟩ := num_all l' h3.1 h3.2 l'.length 0 l (by omega) h2 (okN_at ha)
      have := hrc k (by omega)
      refine ⟨r, c, hr, ?_, ?_⟩
      · rw [h']; simp only [spec_NumeratorOf.j0]; rw [if_neg (by simp), own_is l hl, bnd]; exact this.1
      · rw [h']; simp only [impl_NumeratorOf.j0]; rw [if_neg (by simp), clone_is l hl, bnd]; exact this.2
    · refine ⟨[], 2, by simp, ?_, ?_⟩
      · simp only [Bool.not_eq_true] at h'; rw [h']; simp only [spec_NumeratorOf.j0]; rw [if_pos (by simp)]
      · simp only [Bool.not_eq_true] at h'; rw [h']; simp only [impl_NumeratorOf.j0]; rw [if_pos (by simp)]
  · rw [if_neg h, if_neg h]
    exact ⟨[], 2, by simp, by simp only [spec_NumeratorOf.j0, if_true], by simp only [impl_NumeratorOf.j0, if_true]⟩
theorem FnExactNumeratorOf : laws_FnExactNumeratorOf.Pure := by
  intro l l' _ _ _ _ _ _
  by_cases hl : (l.length : Int) > 1048576
  · exact ⟨1, by unfold laws_FnExactNumeratorOf.f; rw [if_pos hl]⟩
  · by_cases hm : (l'.length : Int) > 1048576
    · exact ⟨1, by unfold laws_FnExactNumeratorOf.f; rw [if_neg hl, if_pos hm]⟩
    · have hl' : l.length ≤ 1048576 := by omega
      have hm' : l'.length ≤ 1048576 := by omega
      refine ⟨l.length + l'.length + 5000, ?_⟩
      obtain ⟨r, c, hr, hs, hi⟩ := same l l' (l.length + l'.length + 5000) (by omega) hl' hm'
      obtain ⟨r2, c2, hr2, hs2, hi2⟩ := same l l' (l.length + l'.length + 4998) (by omega) hl' hm'
      have hsame : r2 = r ∧ c2 = c := by
        have h1 := impl_NumeratorOf.mono l l' _ _ hi2
        have h2 := impl_NumeratorOf.mono l l' _ _ h1
        rw [hi] at h2; simpa using h2.symm
      obtain ⟨rfl, rfl⟩ := hsame
      unfold laws_FnExactNumeratorOf.f
      rw [if_neg hl, if_neg hm, toI_is l _ (by omega) hl', bnd, toI_is l' _ (by omega) hm', bnd, hs, bnd, bnd, bnd, hi, bnd, eqI_is r2 _ (by omega) (by omega), bnd, if_pos rfl, bne_self_eq_false]
      simp only [laws_FnExactNumeratorOf.j0, Bool.false_eq_true, if_false]
      rw [toI_is l _ (by omega) hl', bnd, eqI_is l _ (by omega) hl', bnd, if_pos rfl, toI_is l' _ (by omega) hm', bnd, eqI_is l' _ (by omega) hm', bnd, if_pos rfl,
        mark_is l _ 1 (by omega) hl' (by omega) (by omega), bnd, mark_is l' _ _ (by omega) hm' (by omega) (by omega), bnd, if_neg (by omega), eqI_is r2 _ (by omega) (by omega), bnd, if_pos rfl, bne_self_eq_false]
      simp only [laws_FnExactNumeratorOf.j1, Bool.false_eq_true, if_false]
      rw [mark_is r2 _ 1 (by omega) (by omega) (by omega) (by omega), bnd, held_is r2.length _ 1 (by omega) (by omega) (by omega) (by omega), bnd, if_neg (by omega)]
      rw [if_pos rfl, toI_is l _ (by omega) hl', bnd, toI_is l' _ (by omega) hm', bnd, hi2, bnd, eqI_is r2 _ (by omega) (by omega), bnd, if_pos rfl, bne_self_eq_false]
      simp only [laws_FnExactNumeratorOf.j2, Bool.false_eq_true, if_false]
      rw [held_is r2.length _ 1 (by omega) (by omega) (by omega) (by omega), bnd, if_neg (by omega), if_pos rfl]

end Go.Proofs.Ytdnpenpfadfehaa.Pure
