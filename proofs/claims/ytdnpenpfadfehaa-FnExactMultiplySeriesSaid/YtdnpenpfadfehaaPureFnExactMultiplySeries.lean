/- FnExactMultiplySeries: what the program computes is what the reference computes, for all arguments. -/
import Derived.Test.YtdnpenpfadfehaaEFnExactMultiplySeriesx4
namespace Go.Proofs.Ytdnpenpfadfehaa.Pure
open Go.RowKit Go.Proofs.Ytdnpenpfadfehaa.EFnExactMultiplySeries Go.Proofs.YtdnpenpfadfehaaW.PrintWords Go.Proofs.YtdnpenpfadfehaaW.PrintLast

/-- no definitional step: the kernel is never asked to compute what follows -/
theorem bnd {α β : Type} (a : α) (f : α → Option β) : (some a).bind f = f a := by
  have h : ∀ o : Option α, o = some a → o.bind f = f a := fun o h => by subst h; rfl
  exact h _ rfl
theorem wrap_in {x : Int} (h0 : -9223372036854775808 ≤ x) (h1 : x ≤ 9223372036854775807) : wrap64 x = x := by unfold wrap64; omega
theorem rd_mid (pre suf : List Int) (a : Int) : rd (pre ++ a :: suf) (pre.length : Int) = a := by simp [rd]
theorem step_k {n k : Nat} (h : n < k) : ∃ m, k = m + 1 := ⟨k - 1, by omega⟩
theorem toI_loop : ∀ (suf pre rest : List Int) (k : Nat), rest.length = suf.length → suf.length < k → (pre ++ suf).length ≤ 1048576 →
    laws_toInt64S.l0 k (pre ++ suf) (pre ++ rest) pre.length = some (pre ++ suf) := by
  intro suf
  induction suf with
  | nil =>
    intro pre rest k hr hk _
    obtain ⟨k, rfl⟩ := step_k hk
    have : rest = [] := List.eq_nil_of_length_eq_zero hr
    subst this
    simp only [laws_toInt64S.l0]; rw [if_neg (by simp)]
  | cons a suf ih =>
    intro pre rest k hr hk hl
    obtain ⟨k, rfl⟩ := step_k hk
    cases rest with
    | nil => simp at hr
    | cons b rest =>
      have e1 : (pre ++ b :: rest).set (pre.length : Int).toNat (rd (pre ++ a :: suf) (pre.length : Int)) = (pre ++ [a]) ++ rest := by
        rw [rd_mid, Int.toNat_natCast, List.set_append_right (h := Nat.le_refl _)]; simp
      simp only [List.length_append, List.length_cons] at hl hk hr
      have e2 : wrap64 ((pre.length : Int) + 1) = ((pre ++ [a]).length : Int) := by rw [wrap_in (by omega) (by omega)]; simp
      simp only [laws_toInt64S.l0]
      rw [if_pos (by simp only [List.length_append, List.length_cons]; omega), if_pos (by omega), if_pos (by simp only [List.length_append, List.length_cons]; omega), e1, e2]
      have := ih (pre ++ [a]) rest k (by omega) (by omega) (by simp; omega)
      simpa using this
theorem toI_is (l : List Int) (k : Nat) (hk : l.length < k) (hl : l.length ≤ 1048576) : laws_toInt64S.f k l = some l := by
  unfold laws_toInt64S.f
  rw [if_pos (by omega), if_pos (by simp; omega)]
  exact toI_loop l [] _ k (by simp) hk (by simpa using hl)
theorem eqI_loop : ∀ (suf pre : List Int) (k : Nat), suf.length < k → (pre ++ suf).length ≤ 1048576 →
    laws_eqInt64S.l0 k (pre ++ suf) (pre ++ suf) pre.length = some true := by
  intro suf
  induction suf with
  | nil =>
    intro pre k hk _
    obtain ⟨k, rfl⟩ := step_k hk
    simp only [laws_eqInt64S.l0]; rw [if_neg (by simp)]
  | cons a suf ih =>
    intro pre k hk hl
    obtain ⟨k, rfl⟩ := step_k hk
    simp only [List.length_append, List.length_cons] at hl hk
    have e2 : wrap64 ((pre.length : Int) + 1) = ((pre ++ [a]).length : Int) := by rw [wrap_in (by omega) (by omega)]; simp
    simp only [laws_eqInt64S.l0]
    rw [if_pos (by simp only [List.length_append, List.length_cons]; omega), if_pos (by omega), if_pos (by simp only [List.length_append, List.length_cons]; omega), if_pos trivial, e2]
    have := ih (pre ++ [a]) k (by omega) (by simp; omega)
    simpa using this
theorem eqI_is (l : List Int) (k : Nat) (hk : l.length < k) (hl : l.length ≤ 1048576) : laws_eqInt64S.f k l l = some true := by
  unfold laws_eqInt64S.f; rw [if_pos rfl]; exact eqI_loop l [] k hk (by simpa using hl)
/-- the marks from m on, n of them -/
def marks : Nat → Int → List Int
  | 0, _ => []
  | n + 1, m => m :: marks n (m + 1)
theorem marks_length : ∀ (n : Nat) (m : Int), (marks n m).length = n
  | 0, _ => rfl
  | n + 1, m => by simp [marks, marks_length n]
theorem mark_loop : ∀ (suf pre : List Int) (k : Nat) (m : Int), suf.length < k → (pre ++ suf).length ≤ 1048576 → 0 ≤ m → m + suf.length ≤ 9000000000 →
    laws_markInt64S.l0 k (pre ++ suf) m pre.length = some (m + suf.length, pre ++ marks suf.length m) := by
  intro suf
  induction suf with
  | nil =>
    intro pre k m hk _ _ _
    obtain ⟨k, rfl⟩ := step_k hk
    simp only [laws_markInt64S.l0]; rw [if_neg (by simp)]; simp [marks]
  | cons a suf ih =>
    intro pre k m hk hl h0 h1
    obtain ⟨k, rfl⟩ := step_k hk
    simp only [List.length_append, List.length_cons] at hl hk h1
    have e1 : (pre ++ a :: suf).set (pre.length : Int).toNat m = (pre ++ [m]) ++ suf := by
      rw [Int.toNat_natCast, List.set_append_right (h := Nat.le_refl _)]; simp
    have e2 : wrap64 ((pre.length : Int) + 1) = ((pre ++ [m]).length : Int) := by rw [wrap_in (by omega) (by omega)]; simp
    have e3 : wrap64 (m + 1) = m + 1 := wrap_in (by omega) (by omega)
    simp only [laws_markInt64S.l0]
    rw [if_pos (by simp only [List.length_append, List.length_cons]; omega), if_pos (by omega), e1, e2, e3]
    have := ih (pre ++ [m]) k (m + 1) (by omega) (by simp; omega) (by omega) (by omega)
    rw [this]; simp only [List.append_assoc, List.singleton_append, marks, List.length_cons]
    congr 2; omega
theorem mark_is (l : List Int) (k : Nat) (m : Int) (hk : l.length < k) (hl : l.length ≤ 1048576) (h0 : 0 ≤ m) (h1 : m ≤ 8000000000) :
    laws_markInt64S.f k l m = some (m + l.length, marks l.length m) := by
  unfold laws_markInt64S.f; exact mark_loop l [] k m hk (by simpa using hl) h0 (by omega)
theorem held_loop : ∀ (n : Nat) (pre : List Int) (k : Nat) (m : Int), n < k → pre.length + n ≤ 1048576 → 0 ≤ m → m + n ≤ 9000000000 →
    laws_heldInt64S.l0 k (pre ++ marks n m) m pre.length = some (m + n) := by
  intro n
  induction n with
  | zero =>
    intro pre k m hk _ _ _
    obtain ⟨k, rfl⟩ := step_k hk
    simp only [laws_heldInt64S.l0]; rw [if_neg (by simp [marks])]; simp
  | succ n ih =>
    intro pre k m hk hl h0 h1
    obtain ⟨k, rfl⟩ := step_k hk
    have e2 : wrap64 ((pre.length : Int) + 1) = ((pre ++ [m]).length : Int) := by rw [wrap_in (by omega) (by omega)]; simp
    have e3 : wrap64 (m + 1) = m + 1 := wrap_in (by omega) (by omega)
    rw [show marks (n + 1) m = m :: marks n (m + 1) from rfl]
    simp only [laws_heldInt64S.l0]
    rw [if_pos (by simp only [List.length_append, List.length_cons]; omega), if_pos (by omega), if_pos (rd_mid _ _ _), e2, e3]
    have := ih (pre ++ [m]) k (m + 1) (by omega) (by simp; omega) (by omega) (by omega)
    simp only [List.append_assoc, List.singleton_append] at this
    rw [this]; congr 1; omega
theorem held_is (n k : Nat) (m : Int) (hk : n < k) (hl : n ≤ 1048576) (h0 : 0 ≤ m) (h1 : m ≤ 8000000000) :
    laws_heldInt64S.f k (marks n m) m = some (m + n) := by
  unfold laws_heldInt64S.f
  exact held_loop n [] k m hk (by simpa using hl) h0 (by omega)
def okN (x : Int) : Bool := decide (-1000000000 ≤ x) && decide (x ≤ 1000000000)
def okS (l : List Int) : Bool := l.all okN && (decide (1 ≤ l.length) && decide (l.length ≤ 41))
theorem in_is (x : Int) : spec_l01In.f x (-1000000000) 1000000000 = some (okN x) := by
  unfold spec_l01In.f okN; by_cases h : x ≥ -1000000000
  · rw [if_pos h]; simp only [ge_iff_le] at h; simp [h]
  · rw [if_neg h]; simp only [ge_iff_le] at h; simp [h]
theorem count_is (x : Int) : impl_isCount.f x = some (okN x) := by
  unfold impl_isCount.f okN; by_cases h : x ≥ -1000000000
  · rw [if_pos h]; simp only [ge_iff_le] at h; simp [h]
  · rw [if_neg h]; simp only [ge_iff_le] at h; simp [h]
theorem len_is (n : Nat) : (if (n : Int) ≥ 1 then (some (decide ((n : Int) ≤ 41))) else (some false)) = some (decide (1 ≤ n) && decide (n ≤ 41)) := by
  by_cases h : 1 ≤ n
  · rw [if_pos (by omega)]; simp [h]; constructor <;> intro <;> omega
  · rw [if_neg (by omega)]; simp [h]
theorem isS_loop : ∀ (suf pre : List Int) (k : Nat), suf.length < k → (pre ++ suf).length ≤ 1048576 →
    spec_l04Is.l0 k (pre ++ suf) pre.length = some (suf.all okN && (decide (1 ≤ (pre ++ suf).length) && decide ((pre ++ suf).length ≤ 41))) := by
  intro suf
  induction suf with
  | nil =>
    intro pre k hk _
    obtain ⟨k, rfl⟩ := step_k hk
    simp only [spec_l04Is.l0]; rw [if_neg (by simp), len_is]; simp
  | cons a suf ih =>
    intro pre k hk hl
    obtain ⟨k, rfl⟩ := step_k hk
    simp only [List.length_append, List.length_cons] at hl hk
    have e2 : wrap64 ((pre.length : Int) + 1) = ((pre ++ [a]).length : Int) := by rw [wrap_in (by omega) (by omega)]; simp
    simp only [spec_l04Is.l0]
    rw [if_pos (by simp only [List.length_append, List.length_cons]; omega), if_pos (by omega), rd_mid, in_is]; simp only [Option.bind_some]
    by_cases h : okN a = true
    · rw [if_pos h, e2]
      have := ih (pre ++ [a]) k (by omega) (by simp; omega)
      simp only [List.append_assoc, List.singleton_append] at this
      rw [this]; simp [h]
    · rw [if_neg h]; simp [h]
theorem isS_is (l : List Int) (k : Nat) (hk : l.length < k) (hl : l.length ≤ 1048576) : spec_l04Is.f k l = some (okS l) := by
  unfold spec_l04Is.f okS; exact isS_loop l [] k hk (by simpa using hl)
theorem isI_loop : ∀ (suf pre : List Int) (k : Nat), suf.length < k → (pre ++ suf).length ≤ 1048576 →
    impl_isSeries.l0 k (pre ++ suf) (pre ++ suf) ((pre ++ suf).length : Int) pre.length = some (suf.all okN && (decide (1 ≤ (pre ++ suf).length) && decide ((pre ++ suf).length ≤ 41))) := by
  intro suf
  induction suf with
  | nil =>
    intro pre k hk _
    obtain ⟨k, rfl⟩ := step_k hk
    simp only [impl_isSeries.l0]; rw [if_neg (by simp), len_is]; simp
  | cons a suf ih =>
    intro pre k hk hl
    obtain ⟨k, rfl⟩ := step_k hk
    simp only [List.length_append, List.length_cons] at hl hk
    have e2 : wrap64 ((pre.length : Int) + 1) = ((pre ++ [a]).length : Int) := by rw [wrap_in (by omega) (by omega)]; simp
    simp only [impl_isSeries.l0]
    rw [if_pos (by simp only [List.length_append, List.length_cons]; omega), if_pos (by omega), if_pos (by simp only [List.length_append, List.length_cons]; omega), rd_mid, count_is]; simp only [Option.bind_some]
    by_cases h : okN a = true
    · rw [if_pos h, e2]
      have := ih (pre ++ [a]) k (by omega) (by simp; omega)
      simp only [List.append_assoc, List.singleton_append] at this
      rw [this]; simp [h]
    · rw [if_neg h]; simp [h]
theorem isI_is (l : List Int) (k : Nat) (hk : l.length < k) (hl : l.length ≤ 1048576) : impl_isSeries.f k l = some (okS l) := by
  unfold impl_isSeries.f okS; exact isI_loop l [] k hk (by simpa using hl)
theorem okS_len {l : List Int} (h : okS l = true) : 1 ≤ l.length ∧ l.length ≤ 41 := by
  simp [okS] at h; omega
theorem prod_in {x y s : Int} (hx : okN x = true) (hy : okN y = true) (hs : okN s = true) :
    wrap64 (s + wrap64 (x * y)) = s + x * y := by
  simp only [okN, Bool.and_eq_true, decide_eq_true_eq] at hx hy hs
  have h := Nat.mul_le_mul (show x.natAbs ≤ 1000000000 by omega) (show y.natAbs ≤ 1000000000 by omega)
  rw [← Int.natAbs_mul] at h
  generalize x * y = z at h ⊢
  rw [wrap_in (x := z) (by omega) (by omega)]
  exact wrap_in (by omega) (by omega)
/-- the sum at K, from i on; none: too great on the way -/
def inn (a b : List Int) (K : Nat) : Nat → Nat → Int → Option Int
  | 0, _, s => some s
  | m + 1, i, s => if okN (s + a.getD i 0 * b.getD (K - i) 0) = true then inn a b K m (i + 1) (s + a.getD i 0 * b.getD (K - i) 0) else none
theorem okN_at {l : List Int} (h : l.all okN = true) (q : Nat) : okN (l.getD q 0) = true := by
  by_cases hq : q < l.length
  · rw [List.getD_eq_getElem?_getD, List.getElem?_eq_getElem hq]; exact List.all_eq_true.mp h _ (List.getElem_mem hq)
  · rw [List.getD_eq_getElem?_getD, List.getElem?_eq_none (by omega)]; rfl
theorem inn_both (a b : List Int) (K : Nat) (ha : a.all okN = true) (hb : b.all okN = true) (hKa : K < a.length) (hKb : K < b.length) (hK : K ≤ 40) (acc : List Int) (hacc : acc.length ≤ 41) (n : Int) :
    ∀ (m i : Nat) (s : Int), i + m = K + 1 → okN s = true → ∀ k, m < k →
      spec_MultiplySeries.l1 k a b acc K s i = (match inn a b K m i s with | some s' => spec_MultiplySeries.l0 (k - m - 1) a b (acc ++ [s']) ((K + 1 : Nat) : Int) | none => some ([], 3)) ∧
      impl_MultiplySeries.l1 k a b acc K s n K ((K + 1 : Nat) : Int) i = (match inn a b K m i s with | some s' => impl_MultiplySeries.l0 (k - m - 1) a b (acc ++ [s']) n ((K + 1 : Nat) : Int) | none => some ([], 3)) := by
  intro m
  have e1 : wrap64 ((K : Int) + 1) = ((K + 1 : Nat) : Int) := by rw [wrap_in (by omega) (by omega)]; simp
  induction m with
  | zero =>
    intro i s h1 hs k hk
    obtain ⟨k, rfl⟩ := step_k hk
    have hi : i = K + 1 := by omega
    subst hi
    constructor
    · simp only [spec_MultiplySeries.l1]; rw [if_neg (by omega), if_pos (by omega), e1]; simp [inn]
    · simp only [impl_MultiplySeries.l1]; rw [if_neg (by omega), if_pos (by omega), e1]; simp [inn]
  | succ m ih =>
    intro i s h1 hs k hk
    obtain ⟨k, rfl⟩ := step_k hk
    have e2 : wrap64 ((i : Int) + 1) = ((i + 1 : Nat) : Int) := by rw [wrap_in (by omega) (by omega)]; simp
    have e3 : wrap64 ((K : Int) - i) = ((K - i : Nat) : Int) := by rw [wrap_in (by omega) (by omega)]; omega
    have e4 : wrap64 (s + wrap64 (rd a i * rd b ((K - i : Nat) : Int))) = s + a.getD i 0 * b.getD (K - i) 0 := by
      simp only [rd, Int.toNat_natCast]; exact prod_in (okN_at ha _) (okN_at hb _) hs
    by_cases hok : okN (s + a.getD i 0 * b.getD (K - i) 0) = true
    · have h := ih (i + 1) _ (by omega) hok k (by omega)
      have ek : k + 1 - (m + 1) - 1 = k - m - 1 := by omega
      constructor
      · simp only [spec_MultiplySeries.l1]
        rw [if_pos (by omega), if_pos (by omega), if_pos (by omega), e3, if_pos (by omega), if_pos (by omega), e4, in_is, bnd, if_pos hok, e2, h.1]
        simp only [inn]; rw [if_pos hok, ek]
      · simp only [impl_MultiplySeries.l1]
        rw [if_pos (by omega), if_pos (by omega), if_pos (by omega), e3, if_pos (by omega), if_pos (by omega), e4, count_is, bnd, if_pos hok, e2, h.2]
        simp only [inn]; rw [if_pos hok, ek]
    · constructor
      · simp only [spec_MultiplySeries.l1]
        rw [if_pos (by omega), if_pos (by omega), if_pos (by omega), e3, if_pos (by omega), if_pos (by omega), e4, in_is, bnd, if_neg hok]
        simp only [inn]; rw [if_neg hok]
      · simp only [impl_MultiplySeries.l1]
        rw [if_pos (by omega), if_pos (by omega), if_pos (by omega), e3, if_pos (by omega), if_pos (by omega), e4, count_is, bnd, if_neg hok]
        simp only [inn]; rw [if_neg hok]
theorem out_both (a b : List Int) (ha : a.all okN = true) (hb : b.all okN = true) (hla : a.length ≤ 41) (hlb : b.length ≤ 41) :
    ∀ (m K : Nat) (acc : List Int), K + m = min a.length b.length → acc.length = K →
      ∃ r c, r.length ≤ 41 ∧ ∀ k, m * 60 + 10 < k → spec_MultiplySeries.l0 k a b acc K = some (r, c) ∧ impl_MultiplySeries.l0 k a b acc ((min a.length b.length : Nat) : Int) K = some (r, c) := by
  intro m
  induction m with
  | zero =>
    intro K acc h1 hacc
    refine ⟨acc, 0, by omega, fun k hk => ?_⟩
    obtain ⟨k, rfl⟩ := step_k hk
    obtain ⟨k, rfl⟩ := step_k (n := 5) (k := k) (by omega)
    constructor
    · simp only [spec_MultiplySeries.l0]
      by_cases h : (K : Int) < a.length
      · rw [if_pos h, decide_eq_false (by omega)]; simp only [spec_MultiplySeries.j2]; rw [if_neg (by simp)]
      · rw [if_neg h]; simp only [spec_MultiplySeries.j2]; rw [if_neg (by simp)]
    · simp only [impl_MultiplySeries.l0]; rw [if_neg (by omega)]
  | succ m ih =>
    intro K acc h1 hacc
    have hh := inn_both a b K ha hb (by omega) (by omega) (by omega) acc (by omega) ((min a.length b.length : Nat) : Int) (K + 1) 0 0 (by omega) (by decide)
    have e1 : wrap64 ((K : Int) + 1) = ((K + 1 : Nat) : Int) := by rw [wrap_in (by omega) (by omega)]; simp
    cases hi : inn a b K (K + 1) 0 0 with
    | none =>
      refine ⟨[], 3, by simp, fun k hk => ?_⟩
      obtain ⟨k, rfl⟩ := step_k hk
      obtain ⟨k, rfl⟩ := step_k (n := 60) (k := k) (by omega)
      have h2 := hh k (by omega)
      have h3 := hh (k + 1) (by omega)
      rw [hi] at h2 h3
      constructor
      · simp only [spec_MultiplySeries.l0]; rw [if_pos (by omega), decide_eq_true (by omega)]; simp only [spec_MultiplySeries.j2]; rw [if_pos trivial]; exact h2.1
      · simp only [impl_MultiplySeries.l0]; rw [if_pos (by omega), e1]; exact h3.2
    | some s =>
      obtain ⟨r, c, hr, hrc⟩ := ih (K + 1) (acc ++ [s]) (by omega) (by simp; omega)
      refine ⟨r, c, hr, fun k hk => ?_⟩
      obtain ⟨k, rfl⟩ := step_k hk
      obtain ⟨k, rfl⟩ := step_k (n := 60) (k := k) (by omega)
      have h2 := hh k (by omega)
      have h3 := hh (k + 1) (by omega)
      rw [hi] at h2 h3
      constructor
      · simp only [spec_MultiplySeries.l0]; rw [if_pos (by omega), decide_eq_true (by omega)]; simp only [spec_MultiplySeries.j2]; rw [if_pos trivial]
        exact h2.1.trans (hrc _ (by omega)).1
      · simp only [impl_MultiplySeries.l0]; rw [if_pos (by omega), e1]; exact h3.2.trans (hrc _ (by omega)).2
theorem mn_is (a b : Nat) : mn (a : Int) (b : Int) = ((min a b : Nat) : Int) := by unfold mn; split <;> omega
theorem same (l l' : List Int) (k : Nat) (hk : l.length + l'.length + 3000 < k) (hl : l.length ≤ 1048576) (hl' : l'.length ≤ 1048576) :
    ∃ r c, r.length ≤ 41 ∧ spec_MultiplySeries.f k l l' = some (r, c) ∧ impl_MultiplySeries.f k l l' = some (r, c) := by
  obtain ⟨k, rfl⟩ := step_k hk
  unfold spec_MultiplySeries.f impl_MultiplySeries.f
  rw [isS_is l _ (by omega) hl, isI_is l _ (by omega) hl, bnd, bnd]
  by_cases h : okS l = true
  · rw [if_pos h, if_pos h, isS_is l' _ (by omega) hl', isI_is l' _ (by omega) hl', bnd, bnd]
    obtain ⟨h1, h2⟩ := okS_len h
    by_cases h' : okS l' = true
    · obtain ⟨h1', h2'⟩ := okS_len h'
      have ha : l.all okN = true := by simp only [okS, Bool.and_eq_true] at h; exact h.1
      have hb : l'.all okN = true := by simp only [okS, Bool.and_eq_true] at h'; exact h'.1
      obtain ⟨r, c, hr, hrc⟩ := out_both l l' ha hb h2 h2' (min l.length l'.length) 0 [] (by omega) rfl
      have := hrc k (by omega)
      refine ⟨r, c, hr, ?_, ?_⟩
      · rw [h']; simp only [spec_MultiplySeries.j0]; rw [if_neg (by simp)]; exact this.1
      · rw [h']; simp only [impl_MultiplySeries.j0]; rw [if_neg (by simp), mn_is]; exact this.2
    · refine ⟨[], 2, by simp, ?_, ?_⟩
      · simp only [Bool.not_eq_true] at h'; rw [h']; simp only [spec_MultiplySeries.j0]; rw [if_pos (by simp)]
      · simp only [Bool.not_eq_true] at h'; rw [h']; simp only [impl_MultiplySeries.j0]; rw [if_pos (by simp)]
  · rw [if_neg h, if_neg h]
    exact ⟨[], 2, by simp, by simp only [spec_MultiplySeries.j0, if_true], by simp only [impl_MultiplySeries.j0, if_true]⟩
theorem FnExactMultiplySeries : laws_FnExactMultiplySeries.Pure := by
  intro l l' _ _ _ _ _ _
  by_cases hl : (l.length : Int) > 1048576
  · exact ⟨1, by unfold laws_FnExactMultiplySeries.f; rw [if_pos hl]⟩
  · by_cases hm : (l'.length : Int) > 1048576
    · exact ⟨1, by unfold laws_FnExactMultiplySeries.f; rw [if_neg hl, if_pos hm]⟩
    · have hl' : l.length ≤ 1048576 := by omega
      have hm' : l'.length ≤ 1048576 := by omega
      refine ⟨l.length + l'.length + 5000, ?_⟩
      obtain ⟨r, c, hr, hs, hi⟩ := same l l' (l.length + l'.length + 5000) (by omega) hl' hm'
      obtain ⟨r2, c2, hr2, hs2, hi2⟩ := same l l' (l.length + l'.length + 4998) (by omega) hl' hm'
      have hsame : r2 = r ∧ c2 = c := by
        have h1 := impl_MultiplySeries.mono l l' _ _ hi2
        have h2 := impl_MultiplySeries.mono l l' _ _ h1
        rw [hi] at h2; simpa using h2.symm
      obtain ⟨rfl, rfl⟩ := hsame
      unfold laws_FnExactMultiplySeries.f
      rw [if_neg hl, if_neg hm, toI_is l _ (by omega) hl', bnd, toI_is l' _ (by omega) hm', bnd, hs, bnd, bnd, bnd, hi, bnd, eqI_is r2 _ (by omega) (by omega), bnd, if_pos rfl, bne_self_eq_false]
      simp only [laws_FnExactMultiplySeries.j0, Bool.false_eq_true, if_false]
      rw [toI_is l _ (by omega) hl', bnd, eqI_is l _ (by omega) hl', bnd, if_pos rfl, toI_is l' _ (by omega) hm', bnd, eqI_is l' _ (by omega) hm', bnd, if_pos rfl,
        mark_is l _ 1 (by omega) hl' (by omega) (by omega), bnd, mark_is l' _ _ (by omega) hm' (by omega) (by omega), bnd, if_neg (by omega), eqI_is r2 _ (by omega) (by omega), bnd, if_pos rfl, bne_self_eq_false]
      simp only [laws_FnExactMultiplySeries.j1, Bool.false_eq_true, if_false]
      rw [mark_is r2 _ 1 (by omega) (by omega) (by omega) (by omega), bnd, held_is r2.length _ 1 (by omega) (by omega) (by omega) (by omega), bnd, if_neg (by omega)]
      rw [if_pos rfl, toI_is l _ (by omega) hl', bnd, toI_is l' _ (by omega) hm', bnd, hi2, bnd, eqI_is r2 _ (by omega) (by omega), bnd, if_pos rfl, bne_self_eq_false]
      simp only [laws_FnExactMultiplySeries.j2, Bool.false_eq_true, if_false]
      rw [held_is r2.length _ 1 (by omega) (by omega) (by omega) (by omega), bnd, if_neg (by omega), if_pos rfl]

end Go.Proofs.Ytdnpenpfadfehaa.Pure
