/- FnExactShiftSeries: what the program computes is what the reference computes, for all arguments. -/
import Derived.Test.YtdnpenpfadfehaaPFnExactShiftSeriesx3
namespace Go.Proofs.Ytdnpenpfadfehaa.Pure
open Go.RowKit Go.Proofs.Ytdnpenpfadfehaa.PFnExactShiftSeries Go.Proofs.YtdnpenpfadfehaaW.PrintWords Go.Proofs.YtdnpenpfadfehaaW.PrintLast

theorem wrap_in {x : Int} (h0 : -9223372036854775808 ≤ x) (h1 : x ≤ 9223372036854775807) : wrap64 x = x := by unfold wrap64; omega
theorem rd_mid (pre suf : List Int) (a : Int) : rd (pre ++ a :: suf) (pre.length : Int) = a := by simp [rd]
theorem step_k {n k : Nat} (h : n < k) : ∃ m, k = m + 1 := ⟨k - 1, by omega⟩
theorem toI_loop : ∀ (suf pre rest : List Int) (k : Nat), rest.length = suf.length → suf.length < k → (pre ++ suf).length ≤ 1048576 →
    laws_toInt64S.l0 k (pre ++ suf) (pre ++ rest) pre.length = some (pre ++ suf) := by
  intro suf
  induction suf with
  | nil =>
    intro pre rest k hr hk _
    obtain ⟨k, rfl⟩ := step_k hk
    have : rest = [] := List.eq_nil_of_length_eq_zero hr
    subst this
    simp only [laws_toInt64S.l0]; rw [if_neg (by simp)]
  | cons a suf ih =>
    intro pre rest k hr hk hl
    obtain ⟨k, rfl⟩ := step_k hk
    cases rest with
    | nil => simp at hr
    | cons b rest =>
      have e1 : (pre ++ b :: rest).set (pre.length : Int).toNat (rd (pre ++ a :: suf) (pre.length : Int)) = (pre ++ [a]) ++ rest := by
        rw [rd_mid, Int.toNat_natCast, List.set_append_right (h := Nat.le_refl _)]; simp
      simp only [List.length_append, List.length_cons] at hl hk hr
      have e2 : wrap64 ((pre.length : Int) + 1) = ((pre ++ [a]).length : Int) := by rw [wrap_in (by omega) (by omega)]; simp
      simp only [laws_toInt64S.l0]
      rw [if_pos (by simp only [List.length_append, List.length_cons]; omega), if_pos (by omega), if_pos (by simp only [List.length_append, List.length_cons]; omega), e1, e2]
      have := ih (pre ++ [a]) rest k (by omega) (by omega) (by simp; omega)
      simpa using this
theorem toI_is (l : List Int) (k : Nat) (hk : l.length < k) (hl : l.length ≤ 1048576) : laws_toInt64S.f k l = some l := by
  unfold laws_toInt64S.f
  rw [if_pos (by omega), if_pos (by simp; omega)]
  exact toI_loop l [] _ k (by simp) hk (by simpa using hl)
theorem eqI_loop : ∀ (suf pre : List Int) (k : Nat), suf.length < k → (pre ++ suf).length ≤ 1048576 →
    laws_eqInt64S.l0 k (pre ++ suf) (pre ++ suf) pre.length = some true := by
  intro suf
  induction suf with
  | nil =>
    intro pre k hk _
    obtain ⟨k, rfl⟩ := step_k hk
    simp only [laws_eqInt64S.l0]; rw [if_neg (by simp)]
  | cons a suf ih =>
    intro pre k hk hl
    obtain ⟨k, rfl⟩ := step_k hk
    simp only [List.length_append, List.length_cons] at hl hk
    have e2 : wrap64 ((pre.length : Int) + 1) = ((pre ++ [a]).length : Int) := by rw [wrap_in (by omega) (by omega)]; simp
    simp only [laws_eqInt64S.l0]
    rw [if_pos (by simp only [List.length_append, List.length_cons]; omega), if_pos (by omega), if_pos (by simp only [List.length_append, List.length_cons]; omega), if_pos trivial, e2]
    have := ih (pre ++ [a]) k (by omega) (by simp; omega)
    simpa using this
theorem eqI_is (l : List Int) (k : Nat) (hk : l.length < k) (hl : l.length ≤ 1048576) : laws_eqInt64S.f k l l = some true := by
  unfold laws_eqInt64S.f; rw [if_pos rfl]; exact eqI_loop l [] k hk (by simpa using hl)
/-- the marks from m on, n of them -/
def marks : Nat → Int → List Int
  | 0, _ => []
  | n + 1, m => m :: marks n (m + 1)
theorem marks_length : ∀ (n : Nat) (m : Int), (marks n m).length = n
  | 0, _ => rfl
  | n + 1, m => by simp [marks, marks_length n]
theorem mark_loop : ∀ (suf pre : List Int) (k : Nat) (m : Int), suf.length < k → (pre ++ suf).length ≤ 1048576 → 0 ≤ m → m + suf.length ≤ 9000000000 →
    laws_markInt64S.l0 k (pre ++ suf) m pre.length = some (m + suf.length, pre ++ marks suf.length m) := by
  intro suf
  induction suf with
  | nil =>
    intro pre k m hk _ _ _
    obtain ⟨k, rfl⟩ := step_k hk
    simp only [laws_markInt64S.l0]; rw [if_neg (by simp)]; simp [marks]
  | cons a suf ih =>
    intro pre k m hk hl h0 h1
    obtain ⟨k, rfl⟩ := step_k hk
    simp only [List.length_append, List.length_cons] at hl hk h1
    have e1 : (pre ++ a :: suf).set (pre.length : Int).toNat m = (pre ++ [m]) ++ suf := by
      rw [Int.toNat_natCast, List.set_append_right (h := Nat.le_refl _)]; simp
    have e2 : wrap64 ((pre.length : Int) + 1) = ((pre ++ [m]).length : Int) := by rw [wrap_in (by omega) (by omega)]; simp
    have e3 : wrap64 (m + 1) = m + 1 := wrap_in (by omega) (by omega)
    simp only [laws_markInt64S.l0]
    rw [if_pos (by simp only [List.length_append, List.length_cons]; omega), if_pos (by omega), e1, e2, e3]
    have := ih (pre ++ [m]) k (m + 1) (by omega) (by simp; omega) (by omega) (by omega)
    rw [this]; simp only [List.append_assoc, List.singleton_append, marks, List.length_cons]
    congr 2; omega
theorem mark_is (l : List Int) (k : Nat) (m : Int) (hk : l.length < k) (hl : l.length ≤ 1048576) (h0 : 0 ≤ m) (h1 : m ≤ 8000000000) :
    laws_markInt64S.f k l m = some (m + l.length, marks l.length m) := by
  unfold laws_markInt64S.f; exact mark_loop l [] k m hk (by simpa using hl) h0 (by omega)
theorem held_loop : ∀ (n : Nat) (pre : List Int) (k : Nat) (m : Int), n < k → pre.length + n ≤ 1048576 → 0 ≤ m → m + n ≤ 9000000000 →
    laws_heldInt64S.l0 k (pre ++ marks n m) m pre.length = some (m + n) := by
  intro n
  induction n with
  | zero =>
    intro pre k m hk _ _ _
    obtain ⟨k, rfl⟩ := step_k hk
    simp only [laws_heldInt64S.l0]; rw [if_neg (by simp [marks])]; simp
  | succ n ih =>
    intro pre k m hk hl h0 h1
    obtain ⟨k, rfl⟩ := step_k hk
    have e2 : wrap64 ((pre.length : Int) + 1) = ((pre ++ [m]).length : Int) := by rw [wrap_in (by omega) (by omega)]; simp
    have e3 : wrap64 (m + 1) = m + 1 := wrap_in (by omega) (by omega)
    rw [show marks (n + 1) m = m :: marks n (m + 1) from rfl]
    simp only [laws_heldInt64S.l0]
    rw [if_pos (by simp only [List.length_append, List.length_cons]; omega), if_pos (by omega), if_pos (rd_mid _ _ _), e2, e3]
    have := ih (pre ++ [m]) k (m + 1) (by omega) (by simp; omega) (by omega) (by omega)
    simp only [List.append_assoc, List.singleton_append] at this
    rw [this]; congr 1; omega
theorem held_is (n k : Nat) (m : Int) (hk : n < k) (hl : n ≤ 1048576) (h0 : 0 ≤ m) (h1 : m ≤ 8000000000) :
    laws_heldInt64S.f k (marks n m) m = some (m + n) := by
  unfold laws_heldInt64S.f
  exact held_loop n [] k m hk (by simpa using hl) h0 (by omega)
def okN (x : Int) : Bool := decide (-1000000000 ≤ x) && decide (x ≤ 1000000000)
def okS (l : List Int) : Bool := l.all okN && (decide (1 ≤ l.length) && decide (l.length ≤ 41))
theorem in_is (x : Int) : spec_l01In.f x (-1000000000) 1000000000 = some (okN x) := by
  unfold spec_l01In.f okN; by_cases h : x ≥ -1000000000
  · rw [if_pos h]; simp only [ge_iff_le] at h; simp [h]
  · rw [if_neg h]; simp only [ge_iff_le] at h; simp [h]
theorem count_is (x : Int) : impl_isCount.f x = some (okN x) := by
  unfold impl_isCount.f okN; by_cases h : x ≥ -1000000000
  · rw [if_pos h]; simp only [ge_iff_le] at h; simp [h]
  · rw [if_neg h]; simp only [ge_iff_le] at h; simp [h]
theorem len_is (n : Nat) : (if (n : Int) ≥ 1 then (some (decide ((n : Int) ≤ 41))) else (some false)) = some (decide (1 ≤ n) && decide (n ≤ 41)) := by
  by_cases h : 1 ≤ n
  · rw [if_pos (by omega)]; simp [h]; constructor <;> intro <;> omega
  · rw [if_neg (by omega)]; simp [h]
theorem isS_loop : ∀ (suf pre : List Int) (k : Nat), suf.length < k → (pre ++ suf).length ≤ 1048576 →
    spec_l04Is.l0 k (pre ++ suf) pre.length = some (suf.all okN && (decide (1 ≤ (pre ++ suf).length) && decide ((pre ++ suf).length ≤ 41))) := by
  intro suf
  induction suf with
  | nil =>
    intro pre k hk _
    obtain ⟨k, rfl⟩ := step_k hk
    simp only [spec_l04Is.l0]; rw [if_neg (by simp), len_is]; simp
  | cons a suf ih =>
    intro pre k hk hl
    obtain ⟨k, rfl⟩ := step_k hk
    simp only [List.length_append, List.length_cons] at hl hk
    have e2 : wrap64 ((pre.length : Int) + 1) = ((pre ++ [a]).length : Int) := by rw [wrap_in (by omega) (by omega)]; simp
    simp only [spec_l04Is.l0]
    rw [if_pos (by simp only [List.length_append, List.length_cons]; omega), if_pos (by omega), rd_mid, in_is]; simp only [Option.bind_some]
    by_cases h : okN a = true
    · rw [if_pos h, e2]
      have := ih (pre ++ [a]) k (by omega) (by simp; omega)
      simp only [List.append_assoc, List.singleton_append] at this
      rw [this]; simp [h]
    · rw [if_neg h]; simp [h]
theorem isS_is (l : List Int) (k : Nat) (hk : l.length < k) (hl : l.length ≤ 1048576) : spec_l04Is.f k l = some (okS l) := by
  unfold spec_l04Is.f okS; exact isS_loop l [] k hk (by simpa using hl)
theorem isI_loop : ∀ (suf pre : List Int) (k : Nat), suf.length < k → (pre ++ suf).length ≤ 1048576 →
    impl_isSeries.l0 k (pre ++ suf) (pre ++ suf) ((pre ++ suf).length : Int) pre.length = some (suf.all okN && (decide (1 ≤ (pre ++ suf).length) && decide ((pre ++ suf).length ≤ 41))) := by
  intro suf
  induction suf with
  | nil =>
    intro pre k hk _
    obtain ⟨k, rfl⟩ := step_k hk
    simp only [impl_isSeries.l0]; rw [if_neg (by simp), len_is]; simp
  | cons a suf ih =>
    intro pre k hk hl
    obtain ⟨k, rfl⟩ := step_k hk
    simp only [List.length_append, List.length_cons] at hl hk
    have e2 : wrap64 ((pre.length : Int) + 1) = ((pre ++ [a]).length : Int) := by rw [wrap_in (by omega) (by omega)]; simp
    simp only [impl_isSeries.l0]
    rw [if_pos (by simp only [List.length_append, List.length_cons]; omega), if_pos (by omega), if_pos (by simp only [List.length_append, List.length_cons]; omega), rd_mid, count_is]; simp only [Option.bind_some]
    by_cases h : okN a = true
    · rw [if_pos h, e2]
      have := ih (pre ++ [a]) k (by omega) (by simp; omega)
      simp only [List.append_assoc, List.singleton_append] at this
      rw [this]; simp [h]
    · rw [if_neg h]; simp [h]
theorem isI_is (l : List Int) (k : Nat) (hk : l.length < k) (hl : l.length ≤ 1048576) : impl_isSeries.f k l = some (okS l) := by
  unfold impl_isSeries.f okS; exact isI_loop l [] k hk (by simpa using hl)
theorem okS_len {l : List Int} (h : okS l = true) : 1 ≤ l.length ∧ l.length ≤ 41 := by
  simp [okS] at h; omega
theorem sh_loop (l : List Int) (a : Nat) (hl : l.length ≤ 41) (ha : a ≤ 40) : ∀ (d k : Nat) (x : List Int) (i : Nat), a ≤ i → l.length - i = d → d < k → x.length = l.length →
    ∃ r, r.length = l.length ∧ spec_l04Shift.l0 k l a x i = some r ∧ impl_ShiftSeries.l0 k l a x i = some (r, 0) := by
  intro d
  induction d with
  | zero =>
    intro k x i h1 hd hk hx
    obtain ⟨k, rfl⟩ := step_k hk
    refine ⟨x, hx, ?_, ?_⟩
    · simp only [spec_l04Shift.l0]; rw [if_neg (by omega)]
    · simp only [impl_ShiftSeries.l0]; rw [if_neg (by omega)]
  | succ d ih =>
    intro k x i h1 hd hk hx
    obtain ⟨k, rfl⟩ := step_k hk
    have e2 : wrap64 ((i : Int) + 1) = ((i + 1 : Nat) : Int) := by rw [wrap_in (by omega) (by omega)]; simp
    have e3 : wrap64 ((i : Int) - a) = (i : Int) - a := wrap_in (by omega) (by omega)
    obtain ⟨r, hr, h2, h3⟩ := ih k (x.set (i : Int).toNat (rd l ((i : Int) - a))) (i + 1) (by omega) (by omega) (by omega) (by simpa using hx)
    refine ⟨r, hr, ?_, ?_⟩
    · simp only [spec_l04Shift.l0]; rw [if_pos (by omega), e3, if_pos (by omega), if_pos (by omega), if_pos (by omega), if_pos (by omega), e2]; exact h2
    · simp only [impl_ShiftSeries.l0]; rw [if_pos (by omega), e3, if_pos (by omega), if_pos (by omega), if_pos (by omega), if_pos (by omega), e2]; exact h3
theorem same (l : List Int) (a : Int) (k : Nat) (hk : l.length + 5 < k) (hl : l.length ≤ 1048576) : ∃ r c, r.length ≤ 41 ∧ spec_ShiftSeries.f k l a = some (r, c) ∧ impl_ShiftSeries.f k l a = some (r, c) := by
  obtain ⟨k, rfl⟩ := step_k hk
  unfold spec_ShiftSeries.f impl_ShiftSeries.f
  rw [isS_is l _ (by omega) hl, isI_is l _ (by omega) hl]
  simp only [Option.bind_some]
  by_cases h : okS l = true
  · rw [if_pos h, if_pos h]
    obtain ⟨hl1, hl2⟩ := okS_len h
    by_cases h0 : 0 ≤ a
    · by_cases h1 : a ≤ 40
      · have e : spec_l01In.f a 0 40 = some true := by unfold spec_l01In.f; rw [if_pos h0]; simp [h1]
        obtain ⟨r, hr, h2, _⟩ := sh_loop l a.toNat hl2 (by omega) (l.length - a.toNat) (k + 1) (List.replicate l.length 0) a.toNat (Nat.le_refl _) rfl (by omega) (by simp)
        obtain ⟨r', hr', h2', h3⟩ := sh_loop l a.toNat hl2 (by omega) (l.length - a.toNat) k (List.replicate l.length 0) a.toNat (Nat.le_refl _) rfl (by omega) (by simp)
        have ea : (a.toNat : Int) = a := by omega
        rw [ea] at h2 h2' h3
        have hrr : r = r' := by
          have := spec_l04Shift.mono_l k _ _ _ _ _ h2'
          rw [h2] at this; simpa using this
        subst hrr
        refine ⟨r, 0, by omega, ?_, ?_⟩
        · rw [e]; simp only [Option.bind_some, if_true]
          unfold spec_l04Shift.f; rw [if_pos (by omega), if_pos (by simp; omega)]; simp only [Int.toNat_natCast]; rw [h2]; rfl
        · rw [if_neg (by omega), decide_eq_false (by omega)]; simp only [impl_ShiftSeries.j0]; rw [if_neg (by simp), if_pos (by omega), if_pos (by simp; omega)]
          simp only [Int.toNat_natCast]; exact h3
      · have e : spec_l01In.f a 0 40 = some false := by unfold spec_l01In.f; rw [if_pos h0]; simp [h1]
        refine ⟨[], 2, by simp, ?_, ?_⟩
        · rw [e]; rfl
        · rw [if_neg (by omega), decide_eq_true (by omega)]; rfl
    · have e : spec_l01In.f a 0 40 = some false := by unfold spec_l01In.f; rw [if_neg h0]
      refine ⟨[], 2, by simp, ?_, ?_⟩
      · rw [e]; rfl
      · rw [if_pos (by omega)]; rfl
  · rw [if_neg h, if_neg h]
    exact ⟨[], 2, by simp, rfl, rfl⟩
theorem FnExactShiftSeries : laws_FnExactShiftSeries.Pure := by
  intro l a _ _ _ _
  by_cases hl : (l.length : Int) > 1048576
  · exact ⟨1, by unfold laws_FnExactShiftSeries.f; rw [if_pos hl]⟩
  · have hl' : l.length ≤ 1048576 := by omega
    refine ⟨l.length + 2000, ?_⟩
    obtain ⟨r, c, hr, hs, hi⟩ := same l a (l.length + 2000) (by omega) hl'
    obtain ⟨r2, c2, hr2, hs2, hi2⟩ := same l a (l.length + 1998) (by omega) hl'
    have hsame : r2 = r ∧ c2 = c := by
      have h1 := impl_ShiftSeries.mono l a _ _ hi2
      have h2 := impl_ShiftSeries.mono l a _ _ h1
      rw [hi] at h2; simpa using h2.symm
    obtain ⟨rfl, rfl⟩ := hsame
    unfold laws_FnExactShiftSeries.f
    rw [if_neg hl, toI_is l _ (by omega) hl']; simp only [Option.bind_some]
    rw [hs]; simp only [Option.bind_some]; rw [hi]; simp only [Option.bind_some]
    rw [eqI_is r2 _ (by omega) (by omega)]; simp only [Option.bind_some, if_true, bne_self_eq_false]
    simp only [laws_FnExactShiftSeries.j0, Bool.false_eq_true, if_false]
    rw [toI_is l _ (by omega) hl']; simp only [Option.bind_some]
    rw [eqI_is l _ (by omega) hl']; simp only [Option.bind_some, if_true]
    rw [mark_is l _ 1 (by omega) hl' (by omega) (by omega)]; simp only [Option.bind_some]
    rw [if_neg (by omega), eqI_is r2 _ (by omega) (by omega)]; simp only [Option.bind_some, if_true, bne_self_eq_false]
    simp only [laws_FnExactShiftSeries.j1, Bool.false_eq_true, if_false]
    rw [mark_is r2 _ 1 (by omega) (by omega) (by omega) (by omega)]; simp only [Option.bind_some]
    rw [held_is r2.length _ 1 (by omega) (by omega) (by omega) (by omega)]; simp only [Option.bind_some]
    rw [if_neg (by omega), if_pos trivial, toI_is l _ (by omega) hl']; simp only [Option.bind_some]
    rw [hi2]; simp only [Option.bind_some]
    rw [eqI_is r2 _ (by omega) (by omega)]; simp only [Option.bind_some, if_true, bne_self_eq_false]
    simp only [laws_FnExactShiftSeries.j2, Bool.false_eq_true, if_false]
    rw [held_is r2.length _ 1 (by omega) (by omega) (by omega) (by omega)]; simp only [Option.bind_some]
    rw [if_neg (by omega), if_pos trivial]

end Go.Proofs.Ytdnpenpfadfehaa.Pure
