/- FnExactSeriesOfDegrees: what the program computes is what the reference computes, for all arguments. -/
import Derived.Test.YtdnpenpfadfehaaPFnExactSeriesOfDegreesx4
namespace Go.Proofs.Ytdnpenpfadfehaa.Pure
open Go.RowKit Go.Proofs.Ytdnpenpfadfehaa.PFnExactSeriesOfDegrees Go.Proofs.YtdnpenpfadfehaaW.PrintWords Go.Proofs.YtdnpenpfadfehaaW.PrintLast

/-- no definitional step: the kernel is never asked to compute what follows -/
theorem bnd {α β : Type} (a : α) (f : α → Option β) : (some a).bind f = f a := by
  have h : ∀ o : Option α, o = some a → o.bind f = f a := fun o h => by subst h; rfl
  exact h _ rfl
theorem wrap_in {x : Int} (h0 : -9223372036854775808 ≤ x) (h1 : x ≤ 9223372036854775807) : wrap64 x = x := by unfold wrap64; omega
theorem rd_mid (pre suf : List Int) (a : Int) : rd (pre ++ a :: suf) (pre.length : Int) = a := by simp [rd]
theorem step_k {n k : Nat} (h : n < k) : ∃ m, k = m + 1 := ⟨k - 1, by omega⟩
theorem toI_loop : ∀ (suf pre rest : List Int) (k : Nat), rest.length = suf.length → suf.length < k → (pre ++ suf).length ≤ 1048576 →
    laws_toInt64S.l0 k (pre ++ suf) (pre ++ rest) pre.length = some (pre ++ suf) := by
  intro suf
  induction suf with
  | nil =>
    intro pre rest k hr hk _
    obtain ⟨k, rfl⟩ := step_k hk
    have : rest = [] := List.eq_nil_of_length_eq_zero hr
    subst this
    simp only [laws_toInt64S.l0]; rw [if_neg (by simp)]
  | cons a suf ih =>
    intro pre rest k hr hk hl
    obtain ⟨k, rfl⟩ := step_k hk
    cases rest with
    | nil => simp at hr
    | cons b rest =>
      have e1 : (pre ++ b :: rest).set (pre.length : Int).toNat (rd (pre ++ a :: suf) (pre.length : Int)) = (pre ++ [a]) ++ rest := by
        rw [rd_mid, Int.toNat_natCast, List.set_append_right (h := Nat.le_refl _)]; simp
      simp only [List.length_append, List.length_cons] at hl hk hr
      have e2 : wrap64 ((pre.length : Int) + 1) = ((pre ++ [a]).length : Int) := by rw [wrap_in (by omega) (by omega)]; simp
      simp only [laws_toInt64S.l0]
      rw [if_pos (by simp only [List.length_append, List.length_cons]; omega), if_pos (by omega), if_pos (by simp only [List.length_append, List.length_cons]; omega), e1, e2]
      have := ih (pre ++ [a]) rest k (by omega) (by omega) (by simp; omega)
      simpa using this
theorem toI_is (l : List Int) (k : Nat) (hk : l.length < k) (hl : l.length ≤ 1048576) : laws_toInt64S.f k l = some l := by
  unfold laws_toInt64S.f
  rw [if_pos (by omega), if_pos (by simp; omega)]
  exact toI_loop l [] _ k (by simp) hk (by simpa using hl)
theorem eqI_loop : ∀ (suf pre : List Int) (k : Nat), suf.length < k → (pre ++ suf).length ≤ 1048576 →
    laws_eqInt64S.l0 k (pre ++ suf) (pre ++ suf) pre.length = some true := by
  intro suf
  induction suf with
  | nil =>
    intro pre k hk _
    obtain ⟨k, rfl⟩ := step_k hk
    simp only [laws_eqInt64S.l0]; rw [if_neg (by simp)]
  | cons a suf ih =>
    intro pre k hk hl
    obtain ⟨k, rfl⟩ := step_k hk
    simp only [List.length_append, List.length_cons] at hl hk
    have e2 : wrap64 ((pre.length : Int) + 1) = ((pre ++ [a]).length : Int) := by rw [wrap_in (by omega) (by omega)]; simp
    simp only [laws_eqInt64S.l0]
    rw [if_pos (by simp only [List.length_append, List.length_cons]; omega), if_pos (by omega), if_pos (by simp only [List.length_append, List.length_cons]; omega), if_pos trivial, e2]
    have := ih (pre ++ [a]) k (by omega) (by simp; omega)
    simpa using this
theorem eqI_is (l : List Int) (k : Nat) (hk : l.length < k) (hl : l.length ≤ 1048576) : laws_eqInt64S.f k l l = some true := by
  unfold laws_eqInt64S.f; rw [if_pos rfl]; exact eqI_loop l [] k hk (by simpa using hl)
/-- the marks from m on, n of them -/
def marks : Nat → Int → List Int
  | 0, _ => []
  | n + 1, m => m :: marks n (m + 1)
theorem marks_length : ∀ (n : Nat) (m : Int), (marks n m).length = n
  | 0, _ => rfl
  | n + 1, m => by simp [marks, marks_length n]
theorem mark_loop : ∀ (suf pre : List Int) (k : Nat) (m : Int), suf.length < k → (pre ++ suf).length ≤ 1048576 → 0 ≤ m → m + suf.length ≤ 9000000000 →
    laws_markInt64S.l0 k (pre ++ suf) m pre.length = some (m + suf.length, pre ++ marks suf.length m) := by
  intro suf
  induction suf with
  | nil =>
    intro pre k m hk _ _ _
    obtain ⟨k, rfl⟩ := step_k hk
    simp only [laws_markInt64S.l0]; rw [if_neg (by simp)]; simp [marks]
  | cons a suf ih =>
    intro pre k m hk hl h0 h1
    obtain ⟨k, rfl⟩ := step_k hk
    simp only [List.length_append, List.length_cons] at hl hk h1
    have e1 : (pre ++ a :: suf).set (pre.length : Int).toNat m = (pre ++ [m]) ++ suf := by
      rw [Int.toNat_natCast, List.set_append_right (h := Nat.le_refl _)]; simp
    have e2 : wrap64 ((pre.length : Int) + 1) = ((pre ++ [m]).length : Int) := by rw [wrap_in (by omega) (by omega)]; simp
    have e3 : wrap64 (m + 1) = m + 1 := wrap_in (by omega) (by omega)
    simp only [laws_markInt64S.l0]
    rw [if_pos (by simp only [List.length_append, List.length_cons]; omega), if_pos (by omega), e1, e2, e3]
    have := ih (pre ++ [m]) k (m + 1) (by omega) (by simp; omega) (by omega) (by omega)
    rw [this]; simp only [List.append_assoc, List.singleton_append, marks, List.length_cons]
    congr 2; omega
theorem mark_is (l : List Int) (k : Nat) (m : Int) (hk : l.length < k) (hl : l.length ≤ 1048576) (h0 : 0 ≤ m) (h1 : m ≤ 8000000000) :
    laws_markInt64S.f k l m = some (m + l.length, marks l.length m) := by
  unfold laws_markInt64S.f; exact mark_loop l [] k m hk (by simpa using hl) h0 (by omega)
theorem held_loop : ∀ (n : Nat) (pre : List Int) (k : Nat) (m : Int), n < k → pre.length + n ≤ 1048576 → 0 ≤ m → m + n ≤ 9000000000 →
    laws_heldInt64S.l0 k (pre ++ marks n m) m pre.length = some (m + n) := by
  intro n
  induction n with
  | zero =>
    intro pre k m hk _ _ _
    obtain ⟨k, rfl⟩ := step_k hk
    simp only [laws_heldInt64S.l0]; rw [if_neg (by simp [marks])]; simp
  | succ n ih =>
    intro pre k m hk hl h0 h1
    obtain ⟨k, rfl⟩ := step_k hk
    have e2 : wrap64 ((pre.length : Int) + 1) = ((pre ++ [m]).length : Int) := by rw [wrap_in (by omega) (by omega)]; simp
    have e3 : wrap64 (m + 1) = m + 1 := wrap_in (by omega) (by omega)
    rw [show marks (n + 1) m = m :: marks n (m + 1) from rfl]
    simp only [laws_heldInt64S.l0]
    rw [if_pos (by simp only [List.length_append, List.length_cons]; omega), if_pos (by omega), if_pos (rd_mid _ _ _), e2, e3]
    have := ih (pre ++ [m]) k (m + 1) (by omega) (by simp; omega) (by omega) (by omega)
    simp only [List.append_assoc, List.singleton_append] at this
    rw [this]; congr 1; omega
theorem held_is (n k : Nat) (m : Int) (hk : n < k) (hl : n ≤ 1048576) (h0 : 0 ≤ m) (h1 : m ≤ 8000000000) :
    laws_heldInt64S.f k (marks n m) m = some (m + n) := by
  unfold laws_heldInt64S.f
  exact held_loop n [] k m hk (by simpa using hl) h0 (by omega)
def okD (x : Int) : Bool := decide (1 ≤ x) && decide (x ≤ 40)
theorem okd (x : Int) : spec_l01In.f x 1 40 = some (okD x) := by
  unfold spec_l01In.f okD; by_cases h : x ≥ 1
  · rw [if_pos h]; simp only [ge_iff_le] at h; simp [h]
  · rw [if_neg h]; simp only [ge_iff_le] at h; simp [h]
def okDs (l : List Int) : Bool := l.all okD && decide (l.length ≤ 6)
theorem dS_loop : ∀ (suf pre : List Int) (k : Nat), suf.length < k → (pre ++ suf).length ≤ 1048576 →
    spec_l04Degrees.l0 k (pre ++ suf) pre.length = some (suf.all okD && decide ((pre ++ suf).length ≤ 6)) := by
  intro suf
  induction suf with
  | nil =>
    intro pre k hk _
    obtain ⟨k, rfl⟩ := step_k hk
    simp only [spec_l04Degrees.l0]; rw [if_neg (by simp)]; simp; omega
  | cons a suf ih =>
    intro pre k hk hl
    obtain ⟨k, rfl⟩ := step_k hk
    simp only [List.length_append, List.length_cons] at hl hk
    have e2 : wrap64 ((pre.length : Int) + 1) = ((pre ++ [a]).length : Int) := by rw [wrap_in (by omega) (by omega)]; simp
    simp only [spec_l04Degrees.l0]
    rw [if_pos (by simp only [List.length_append, List.length_cons]; omega), if_pos (by omega), rd_mid, okd]; simp only [Option.bind_some]
    by_cases h : okD a = true
    · rw [if_pos h, e2]
      have := ih (pre ++ [a]) k (by omega) (by simp; omega)
      simp only [List.append_assoc, List.singleton_append] at this
      rw [this]; simp [h]
    · rw [if_neg h]; simp [h]
theorem dS_is (l : List Int) (k : Nat) (hk : l.length < k) (hl : l.length ≤ 1048576) : spec_l04Degrees.f k l = some (okDs l) := by
  unfold spec_l04Degrees.f okDs; exact dS_loop l [] k hk (by simpa using hl)
theorem dI_loop : ∀ (suf pre : List Int) (k : Nat), suf.length < k → (pre ++ suf).length ≤ 1048576 →
    impl_areDegrees.l0 k (pre ++ suf) (pre ++ suf) ((pre ++ suf).length : Int) pre.length = some (suf.all okD && decide ((pre ++ suf).length ≤ 6)) := by
  intro suf
  induction suf with
  | nil =>
    intro pre k hk _
    obtain ⟨k, rfl⟩ := step_k hk
    simp only [impl_areDegrees.l0]; rw [if_neg (by simp)]; simp; omega
  | cons a suf ih =>
    intro pre k hk hl
    obtain ⟨k, rfl⟩ := step_k hk
    simp only [List.length_append, List.length_cons] at hl hk
    have e2 : wrap64 ((pre.length : Int) + 1) = ((pre ++ [a]).length : Int) := by rw [wrap_in (by omega) (by omega)]; simp
    simp only [impl_areDegrees.l0]
    rw [if_pos (by simp only [List.length_append, List.length_cons]; omega), if_pos (by omega), if_pos (by simp only [List.length_append, List.length_cons]; omega), rd_mid]
    by_cases h0 : a < 1
    · rw [if_pos h0]; simp [okD]; omega
    · rw [if_neg h0]
      by_cases h1 : a > 40
      · rw [if_pos h1]; simp [okD]; omega
      · rw [if_neg h1, e2]
        have := ih (pre ++ [a]) k (by omega) (by simp; omega)
        simp only [List.append_assoc, List.singleton_append] at this
        have ha : okD a = true := by simp [okD]; omega
        rw [this]; simp [ha]
theorem dI_is (l : List Int) (k : Nat) (hk : l.length < k) (hl : l.length ≤ 1048576) : impl_areDegrees.f k l = some (okDs l) := by
  unfold impl_areDegrees.f okDs; exact dI_loop l [] k hk (by simpa using hl)
/-- what is known of a row in the making: its length, and that no number is below 0 or above B -/
def Bd (B : Int) (n : Nat) (y : List Int) : Prop := y.length = n ∧ ∀ i, 0 ≤ y.getD i 0 ∧ y.getD i 0 ≤ B
/-- one degree, from i on: the numbers from place i on have been left at most B, those ahead of i may be up to (i + 1) B -/
theorem getD_set (y : List Int) (i j : Nat) (v : Int) (hi : i < y.length) : (y.set i v).getD j 0 = if j = i then v else y.getD j 0 := by
  simp only [List.getD_eq_getElem?_getD, List.getElem?_set]
  by_cases h : i = j
  · subst h; simp [hi]
  · rw [if_neg h, if_neg (fun e => h e.symm)]
/-- behind a degree's round at place i: at most B times (place + 1) ahead of i, at most B from i on -/
def Mid (B : Int) (n i : Nat) (y : List Int) : Prop :=
  y.length = n ∧ ∀ j : Nat, 0 ≤ y.getD j 0 ∧ (j < i → y.getD j 0 ≤ B * ((j : Int) + 1)) ∧ (i ≤ j → y.getD j 0 ≤ B)
/-- one degree's round, under whatever is kept of the row -/
theorem ways_deg (l : List Int) (kk : Nat) (hkk : kk ≤ 40) (q : Nat) (d : Nat) (hd1 : 1 ≤ d) (hq : q < l.length) (hdl : l.getD q 0 = (d : Int)) (Q : Nat → List Int → Prop)
    (hlen : ∀ i y, Q i y → y.length = kk + 1) (hin : ∀ i y, Q i y → d ≤ i → i ≤ kk → wrap64 (y.getD i 0 + y.getD (i - d) 0) = y.getD i 0 + y.getD (i - d) 0)
    (hst : ∀ i y, Q i y → d ≤ i → i ≤ kk → Q (i + 1) (y.set i (y.getD i 0 + y.getD (i - d) 0))) :
    ∀ (m : Nat) (i : Nat) (y : List Int), d ≤ i → i ≤ kk + 1 → kk + 1 - i = m → Q i y →
      ∃ z, Q (kk + 1) z ∧
        (∀ k, m < k → spec_l04Of.l1 k l kk y q i = spec_l04Of.l0 (k - m - 1) l kk z (wrap64 ((q : Int) + 1))) ∧
        (∀ k, m < k → impl_ways.l1 k kk y d i l l.length q = impl_ways.l0 (k - m - 1) kk z l l.length (wrap64 ((q : Int) + 1))) := by
  intro m
  induction m with
  | zero =>
    intro i y h1 h2 h3 hM
    have hi : i = kk + 1 := by omega
    subst hi
    refine ⟨y, hM, ?_, ?_⟩
    · intro k hk; obtain ⟨k, rfl⟩ := step_k hk
      simp only [spec_l04Of.l1]; rw [if_neg (by omega)]; simp
    · intro k hk; obtain ⟨k, rfl⟩ := step_k hk
      simp only [impl_ways.l1]; rw [if_neg (by omega)]; simp
  | succ m ih =>
    intro i y h1 h2 h3 hM
    have hy := hlen i y hM
    have e2 : wrap64 ((i : Int) + 1) = ((i + 1 : Nat) : Int) := by rw [wrap_in (by omega) (by omega)]; simp
    have e3 : wrap64 ((i : Int) - d) = ((i - d : Nat) : Int) := by rw [wrap_in (by omega) (by omega)]; omega
    have e4 : wrap64 (rd y i + rd y ((i - d : Nat) : Int)) = y.getD i 0 + y.getD (i - d) 0 := by
      simp only [rd, Int.toNat_natCast]; exact hin i y hM h1 (by omega)
    have hrd : rd l (q : Int) = (d : Int) := by simp only [rd, Int.toNat_natCast]; exact hdl
    obtain ⟨z, hz, g1, g2⟩ := ih (i + 1) _ (by omega) (by omega) (by omega) (hst i y hM h1 (by omega))
    refine ⟨z, hz, ?_, ?_⟩
    · intro k hk; obtain ⟨k, rfl⟩ := step_k hk
      simp only [spec_l04Of.l1]
      rw [if_pos (by omega), if_pos (by omega), if_pos (by omega), if_pos (by omega), if_pos (by omega), hrd, e3, if_pos (by omega), if_pos (by omega), e4, e2, Int.toNat_natCast]
      rw [g1 k (by omega)]; congr 1; omega
    · intro k hk; obtain ⟨k, rfl⟩ := step_k hk
      simp only [impl_ways.l1]
      rw [if_pos (by omega), if_pos (by omega), if_pos (by omega), e3, if_pos (by omega), if_pos (by omega), e4, e2, Int.toNat_natCast]
      rw [g2 k (by omega)]; congr 1; omega
theorem mid_sum {B : Int} {n i d : Nat} {y : List Int} (hB0 : 0 ≤ B) (h : Mid B n i y) (hd1 : 1 ≤ d) (h1 : d ≤ i) :
    0 ≤ y.getD i 0 + y.getD (i - d) 0 ∧ y.getD i 0 + y.getD (i - d) 0 ≤ B * ((i : Int) + 1) := by
  have ha := h.2 i
  have hb := h.2 (i - d)
  have hb2 := hb.2.1 (by omega)
  have hBi : B * (((i - d : Nat) : Int) + 1) ≤ B * (i : Int) := Int.mul_le_mul_of_nonneg_left (by omega) hB0
  have hBs : B * ((i : Int) + 1) = B * i + B := by rw [Int.mul_add, Int.mul_one]
  have ha3 := ha.2.2 (Nat.le_refl _)
  omega
theorem ways_mid (l : List Int) (kk : Nat) (hkk : kk ≤ 40) (B : Int) (hB0 : 0 ≤ B) (hB : B ≤ 1000000000000) (q : Nat) (d : Nat) (hd1 : 1 ≤ d) (hq : q < l.length) (hdl : l.getD q 0 = (d : Int)) :
    ∀ (m : Nat) (i : Nat) (y : List Int), d ≤ i → i ≤ kk + 1 → kk + 1 - i = m → Mid B (kk + 1) i y →
      ∃ z, Mid B (kk + 1) (kk + 1) z ∧
        (∀ k, m < k → spec_l04Of.l1 k l kk y q i = spec_l04Of.l0 (k - m - 1) l kk z (wrap64 ((q : Int) + 1))) ∧
        (∀ k, m < k → impl_ways.l1 k kk y d i l l.length q = impl_ways.l0 (k - m - 1) kk z l l.length (wrap64 ((q : Int) + 1))) :=
  ways_deg l kk hkk q d hd1 hq hdl (Mid B (kk + 1)) (fun _ _ h => h.1)
    (fun i y h h1 h2 => by
      have := mid_sum hB0 h hd1 h1
      have hBm : B * ((i : Int) + 1) ≤ B * 41 := Int.mul_le_mul_of_nonneg_left (by omega) hB0
      exact wrap_in (by omega) (by omega))
    (fun i y h h1 h2 => by
      have hs := mid_sum hB0 h hd1 h1
      refine ⟨by simpa using h.1, fun j => ?_⟩
      rw [getD_set _ _ _ _ (by rw [h.1]; omega)]
      have hj := h.2 j
      by_cases hji : j = i
      · subst hji; rw [if_pos rfl]; refine ⟨hs.1, fun _ => hs.2, fun h => by omega⟩
      · rw [if_neg hji]; exact ⟨hj.1, fun h => hj.2.1 (by omega), fun h => hj.2.2 (by omega)⟩)
/-- the first degree's round: 0 and 1 -/
def Fst (n i : Nat) (y : List Int) : Prop := y.length = n ∧ ∀ j : Nat, 0 ≤ y.getD j 0 ∧ y.getD j 0 ≤ 1 ∧ (i ≤ j → 1 ≤ j → y.getD j 0 = 0)
theorem ways_fst (l : List Int) (kk : Nat) (hkk : kk ≤ 40) (q : Nat) (d : Nat) (hd1 : 1 ≤ d) (hq : q < l.length) (hdl : l.getD q 0 = (d : Int)) :
    ∀ (m : Nat) (i : Nat) (y : List Int), d ≤ i → i ≤ kk + 1 → kk + 1 - i = m → Fst (kk + 1) i y →
      ∃ z, Fst (kk + 1) (kk + 1) z ∧
        (∀ k, m < k → spec_l04Of.l1 k l kk y q i = spec_l04Of.l0 (k - m - 1) l kk z (wrap64 ((q : Int) + 1))) ∧
        (∀ k, m < k → impl_ways.l1 k kk y d i l l.length q = impl_ways.l0 (k - m - 1) kk z l l.length (wrap64 ((q : Int) + 1))) :=
  ways_deg l kk hkk q d hd1 hq hdl (Fst (kk + 1)) (fun _ _ h => h.1)
    (fun i y h h1 h2 => by have a := h.2 i; have b := h.2 (i - d); exact wrap_in (by omega) (by omega))
    (fun i y h h1 h2 => by
      refine ⟨by simpa using h.1, fun j => ?_⟩
      rw [getD_set _ _ _ _ (by rw [h.1]; omega)]
      have hj := h.2 j
      have a := h.2 i
      have a3 := a.2.2 (Nat.le_refl _) (by omega)
      have b := h.2 (i - d)
      by_cases hji : j = i
      · subst hji; rw [if_pos rfl]; refine ⟨by omega, by omega, fun h => by omega⟩
      · rw [if_neg hji]; exact ⟨hj.1, hj.2.1, fun h => hj.2.2 (by omega)⟩)
theorem okD_at {l : List Int} (hl : l.all okD = true) (q : Nat) (hq : q < l.length) : 1 ≤ l.getD q 0 ∧ l.getD q 0 ≤ 40 := by
  have h := List.all_eq_true.mp hl (l.getD q 0) (by rw [List.getD_eq_getElem?_getD, List.getElem?_eq_getElem hq]; exact List.getElem_mem hq)
  simpa [okD] using h
/-- the numbers behind one more degree are at most 41 times as great -/
theorem mid_bd {B : Int} {n : Nat} {z : List Int} (hB : 0 ≤ B) (hn : n ≤ 41) (h : Mid B n n z) : Bd (B * 41) n z := by
  refine ⟨h.1, fun i => ⟨(h.2 i).1, ?_⟩⟩
  by_cases hi : i < n
  · have h1 := (h.2 i).2.1 hi
    have h2 : B * ((i : Int) + 1) ≤ B * 41 := Int.mul_le_mul_of_nonneg_left (by omega) hB
    omega
  · have h1 := (h.2 i).2.2 (by omega)
    have : B * 1 ≤ B * 41 := Int.mul_le_mul_of_nonneg_left (by omega) hB
    omega
theorem bd_mid {B : Int} {n i : Nat} {y : List Int} (hB : 0 ≤ B) (h : Bd B n y) : Mid B n i y := by
  refine ⟨h.1, fun j => ⟨(h.2 j).1, fun _ => ?_, fun _ => (h.2 j).2⟩⟩
  have h1 := (h.2 j).2
  have : B * 1 ≤ B * ((j : Int) + 1) := Int.mul_le_mul_of_nonneg_left (by omega) hB
  omega
def up : Int → Nat → Int
  | B, 0 => B
  | B, m + 1 => up (B * 41) m
theorem up_ge : ∀ (m : Nat) (B : Int), 0 ≤ B → B ≤ up B m
  | 0, B, _ => Int.le_refl _
  | m + 1, B, h => by have := up_ge m (B * 41) (by omega); simp only [up]; omega
theorem ways_all (l : List Int) (kk : Nat) (hkk : kk ≤ 40) (hl : l.all okD = true) (hn : l.length ≤ 6) :
    ∀ (m : Nat) (q : Nat) (B : Int) (y : List Int), q ≤ l.length → l.length - q = m → 0 ≤ B → up B m ≤ 1000000000000 → Bd B (kk + 1) y →
      ∃ z, Bd (up B m) (kk + 1) z ∧ (∀ k, m * 44 < k → spec_l04Of.l0 k l kk y q = some z) ∧ (∀ k, m * 44 < k → impl_ways.l0 k kk y l l.length q = some z) := by
  intro m
  induction m with
  | zero =>
    intro q B y h1 h2 hB0 hB hy
    have hq : q = l.length := by omega
    subst hq
    refine ⟨y, hy, ?_, ?_⟩
    · intro k hk; obtain ⟨k, rfl⟩ := step_k hk
      simp only [spec_l04Of.l0]; rw [if_neg (by omega)]
    · intro k hk; obtain ⟨k, rfl⟩ := step_k hk
      simp only [impl_ways.l0]; rw [if_neg (by omega)]
  | succ m ih =>
    intro q B y h1 h2 hB0 hB hy
    have hq : q < l.length := by omega
    obtain ⟨d1, d2⟩ := okD_at hl q hq
    obtain ⟨d, hd⟩ : ∃ d : Nat, l.getD q 0 = (d : Int) := ⟨(l.getD q 0).toNat, by omega⟩
    simp only [up] at hB ⊢
    have hp2 := up_ge m (B * 41) (by omega)
    have e2 : wrap64 ((q : Int) + 1) = ((q + 1 : Nat) : Int) := by rw [wrap_in (by omega) (by omega)]; simp
    have hrd : rd l (q : Int) = (d : Int) := by simp only [rd, Int.toNat_natCast]; exact hd
    by_cases hdk : d ≤ kk + 1
    · obtain ⟨z1, hz1, g1, g2⟩ := ways_mid l kk hkk B hB0 (by omega) q d (by omega) hq hd (kk + 1 - d) d y (Nat.le_refl _) hdk rfl (bd_mid hB0 hy)
      obtain ⟨z, hz, f1, f2⟩ := ih (q + 1) (B * 41) z1 (by omega) (by omega) (by omega) (by omega) (mid_bd hB0 (by omega) hz1)
      refine ⟨z, hz, ?_, ?_⟩
      · intro k hk; obtain ⟨k, rfl⟩ := step_k hk
        simp only [spec_l04Of.l0]; rw [if_pos (by omega), if_pos (by omega), hrd, g1 k (by omega), e2]
        exact f1 _ (by omega)
      · intro k hk; obtain ⟨k, rfl⟩ := step_k hk
        simp only [impl_ways.l0]; rw [if_pos (by omega), if_pos (by omega), if_pos (by omega), hrd, g2 k (by omega), e2]
        exact f2 _ (by omega)
    · obtain ⟨z, hz, f1, f2⟩ := ih (q + 1) (B * 41) y (by omega) (by omega) (by omega) (by omega) (mid_bd hB0 (by omega) (bd_mid hB0 hy))
      refine ⟨z, hz, ?_, ?_⟩
      · intro k hk; obtain ⟨k, rfl⟩ := step_k hk
        simp only [spec_l04Of.l0]; rw [if_pos (by omega), if_pos (by omega), hrd]
        obtain ⟨k, rfl⟩ := step_k (n := m * 44) (k := k) (by omega)
        simp only [spec_l04Of.l1]; rw [if_neg (by omega), e2]
        exact f1 _ (by omega)
      · intro k hk; obtain ⟨k, rfl⟩ := step_k hk
        simp only [impl_ways.l0]; rw [if_pos (by omega), if_pos (by omega), if_pos (by omega), hrd]
        obtain ⟨k, rfl⟩ := step_k (n := m * 44) (k := k) (by omega)
        simp only [impl_ways.l1]; rw [if_neg (by omega), e2]
        exact f2 _ (by omega)
theorem start_is (kk : Nat) : Fst (kk + 1) 1 ((List.replicate (kk + 1) (0 : Int)).set 0 1) := by
  refine ⟨by simp, fun i => ?_⟩
  rw [getD_set _ _ _ _ (by simp)]
  by_cases h : i = 0
  · rw [if_pos h]; omega
  · rw [if_neg h]; simp only [List.getD_eq_getElem?_getD, List.getElem?_replicate]; split <;> simp
theorem fst_bd {n i : Nat} {y : List Int} (h : Fst n i y) : Bd 1 n y := ⟨h.1, fun j => ⟨(h.2 j).1, (h.2 j).2.1⟩⟩
theorem fst_later {n i j : Nat} {y : List Int} (h : Fst n i y) (hij : i ≤ j) : Fst n j y := ⟨h.1, fun p => ⟨(h.2 p).1, (h.2 p).2.1, fun hp => (h.2 p).2.2 (by omega)⟩⟩
theorem up5 : ∀ m, m ≤ 5 → up 1 m ≤ 115856201 := by decide
/-- what both compute from the start on -/
theorem ways_both (l : List Int) (kk : Nat) (hkk : kk ≤ 40) (hl : l.all okD = true) (hn : l.length ≤ 6) :
    ∃ z, Bd 115856201 (kk + 1) z ∧ (∀ k, 400 < k → spec_l04Of.f k l kk = some z) ∧ (∀ k, 400 < k → impl_ways.f k l kk = some z) := by
  have e1 : wrap64 ((kk : Int) + 1) = ((kk + 1 : Nat) : Int) := by rw [wrap_in (by omega) (by omega)]; simp
  suffices h : ∃ z, Bd 115856201 (kk + 1) z ∧ (∀ k, 400 < k → spec_l04Of.l0 k l kk ((List.replicate (kk + 1) (0 : Int)).set 0 1) ((0 : Nat) : Int) = some z) ∧
      (∀ k, 400 < k → impl_ways.l0 k kk ((List.replicate (kk + 1) (0 : Int)).set 0 1) l l.length ((0 : Nat) : Int) = some z) by
    obtain ⟨z, hz, h1, h2⟩ := h
    refine ⟨z, hz, fun k hk => ?_, fun k hk => ?_⟩
    · unfold spec_l04Of.f; rw [e1, if_pos (by omega), if_pos (by simp; omega)]; simp only [Option.bind_some]
      rw [if_pos (by simp only [List.length_replicate, Int.toNat_natCast]; omega)]; exact h1 k hk
    · unfold impl_ways.f; rw [e1, if_pos (by omega), if_pos (by simp; omega)]; simp only [Option.bind_some]
      rw [if_pos (by simp only [List.length_replicate, Int.toNat_natCast]; omega)]; exact h2 k hk
  by_cases h0 : l.length = 0
  · have hl0 : l = [] := List.eq_nil_of_length_eq_zero h0
    subst hl0
    refine ⟨_, ⟨(start_is kk).1, fun i => ?_⟩, fun k hk => ?_, fun k hk => ?_⟩
    · have := (start_is kk).2 i; omega
    · obtain ⟨k, rfl⟩ := step_k hk; simp only [spec_l04Of.l0]; rw [if_neg (by simp)]
    · obtain ⟨k, rfl⟩ := step_k hk; simp only [impl_ways.l0]; rw [if_neg (by simp)]
  · obtain ⟨d1, d2⟩ := okD_at hl 0 (by omega)
    obtain ⟨d, hd⟩ : ∃ d : Nat, l.getD 0 0 = (d : Int) := ⟨(l.getD 0 0).toNat, by omega⟩
    have hrd : rd l ((0 : Nat) : Int) = (d : Int) := by simp only [rd, Int.toNat_natCast]; exact hd
    have e2 : wrap64 (((0 : Nat) : Int) + 1) = ((1 : Nat) : Int) := by rw [wrap_in (by omega) (by omega)]; simp
    by_cases hdk : d ≤ kk + 1
    · obtain ⟨z1, hz1, g1, g2⟩ := ways_fst l kk hkk 0 d (by omega) (by omega) hd (kk + 1 - d) d _ (Nat.le_refl _) hdk rfl (fst_later (start_is kk) (by omega))
      obtain ⟨z, hz, f1, f2⟩ := ways_all l kk hkk hl hn (l.length - 1) 1 1 z1 (by omega) (by omega) (by omega) (by
        have := up5 (l.length - 1) (by omega)
        omega) (fst_bd hz1)
      refine ⟨z, ⟨hz.1, fun i => ⟨(hz.2 i).1, ?_⟩⟩, ?_, ?_⟩
      · have h1 := (hz.2 i).2
        have := up5 (l.length - 1) (by omega)
        omega
      · intro k hk; obtain ⟨k, rfl⟩ := step_k hk
        simp only [spec_l04Of.l0]; rw [if_pos (by omega), if_pos (by omega), hrd, g1 k (by omega), e2]
        exact f1 _ (by omega)
      · intro k hk; obtain ⟨k, rfl⟩ := step_k hk
        simp only [impl_ways.l0]; rw [if_pos (by omega), if_pos (by omega), if_pos (by omega), hrd, g2 k (by omega), e2]
        exact f2 _ (by omega)
    · obtain ⟨z, hz, f1, f2⟩ := ways_all l kk hkk hl hn (l.length - 1) 1 1 _ (by omega) (by omega) (by omega) (by
        have := up5 (l.length - 1) (by omega)
        omega) (fst_bd (start_is kk))
      refine ⟨z, ⟨hz.1, fun i => ⟨(hz.2 i).1, ?_⟩⟩, ?_, ?_⟩
      · have h1 := (hz.2 i).2
        have := up5 (l.length - 1) (by omega)
        omega
      · intro k hk; obtain ⟨k, rfl⟩ := step_k hk
        simp only [spec_l04Of.l0]; rw [if_pos (by omega), if_pos (by omega), hrd]
        obtain ⟨k, rfl⟩ := step_k (n := 300) (k := k) (by omega)
        simp only [spec_l04Of.l1]; rw [if_neg (by omega), e2]
        exact f1 _ (by omega)
      · intro k hk; obtain ⟨k, rfl⟩ := step_k hk
        simp only [impl_ways.l0]; rw [if_pos (by omega), if_pos (by omega), if_pos (by omega), hrd]
        obtain ⟨k, rfl⟩ := step_k (n := 300) (k := k) (by omega)
        simp only [impl_ways.l1]; rw [if_neg (by omega), e2]
        exact f2 _ (by omega)
theorem cnt_loop : ∀ (suf pre : List Int) (k : Nat), suf.length < k → (pre ++ suf).length ≤ 41 → (∀ x ∈ suf, 0 ≤ x ∧ x ≤ 1000000000) →
    impl_SeriesOfDegrees.l0 k (pre ++ suf) (pre ++ suf) ((pre ++ suf).length : Int) pre.length = some (pre ++ suf, 0) := by
  intro suf
  induction suf with
  | nil =>
    intro pre k hk _ _
    obtain ⟨k, rfl⟩ := step_k hk
    simp only [impl_SeriesOfDegrees.l0]; rw [if_neg (by simp)]
  | cons a suf ih =>
    intro pre k hk hl hx
    obtain ⟨k, rfl⟩ := step_k hk
    simp only [List.length_append, List.length_cons] at hl hk
    have e2 : wrap64 ((pre.length : Int) + 1) = ((pre ++ [a]).length : Int) := by rw [wrap_in (by omega) (by omega)]; simp
    have ha := hx a (by simp)
    have e3 : impl_isCount.f a = some true := by unfold impl_isCount.f; rw [if_pos (by omega)]; simp; omega
    simp only [impl_SeriesOfDegrees.l0]
    rw [if_pos (by simp only [List.length_append, List.length_cons]; omega), if_pos (by omega), if_pos (by simp only [List.length_append, List.length_cons]; omega), rd_mid, e3]; simp only [Option.bind_some, if_true]
    rw [e2]
    have := ih (pre ++ [a]) k (by omega) (by simp; omega) (fun x h => hx x (by simp [h]))
    simpa using this
theorem same (l : List Int) (a : Int) (k : Nat) (hk : l.length + 500 < k) (hl : l.length ≤ 1048576) : ∃ r c, r.length ≤ 41 ∧ spec_SeriesOfDegrees.f k l a = some (r, c) ∧ impl_SeriesOfDegrees.f k l a = some (r, c) := by
  obtain ⟨k, rfl⟩ := step_k hk
  unfold spec_SeriesOfDegrees.f impl_SeriesOfDegrees.f
  rw [dS_is l _ (by omega) hl, dI_is l _ (by omega) hl, bnd, bnd]
  by_cases h : okDs l = true
  · rw [if_pos h, if_pos h]
    have h2 := h
    simp only [okDs, Bool.and_eq_true, decide_eq_true_eq] at h2
    obtain ⟨hl1, hl2⟩ := h2
    by_cases h0 : 0 ≤ a
    · by_cases h1 : a ≤ 40
      · have e : spec_l01In.f a 0 40 = some true := by unfold spec_l01In.f; rw [if_pos h0]; simp [h1]
        obtain ⟨kk, rfl⟩ : ∃ n : Nat, a = (n : Int) := ⟨a.toNat, by omega⟩
        obtain ⟨z, hz, f1, f2⟩ := ways_both l kk (by omega) hl1 hl2
        refine ⟨z, 0, by have := hz.1; omega, ?_, ?_⟩
        · rw [e, bnd, if_pos rfl, f1 _ (by omega), bnd]
        · rw [if_neg (by omega), decide_eq_false (by omega)]; rw [impl_SeriesOfDegrees.j0, if_neg (by simp), f2 _ (by omega), bnd]
          refine cnt_loop z [] k (by have := hz.1; omega) (by have := hz.1; simpa using (by omega : z.length ≤ 41)) (fun x hx => ?_)
          obtain ⟨i, hi, rfl⟩ := List.getElem_of_mem hx
          have := hz.2 i
          simp only [List.getD_eq_getElem?_getD, List.getElem?_eq_getElem hi, Option.getD_some] at this
          omega
      · have e : spec_l01In.f a 0 40 = some false := by unfold spec_l01In.f; rw [if_pos h0]; simp [h1]
        refine ⟨[], 2, by simp, ?_, ?_⟩
        · rw [e]; simp only [Option.bind_some, Bool.false_eq_true, if_false]
        · rw [if_neg (by omega), decide_eq_true (by omega)]; simp only [impl_SeriesOfDegrees.j0, if_true]
    · have e : spec_l01In.f a 0 40 = some false := by unfold spec_l01In.f; rw [if_neg h0]
      refine ⟨[], 2, by simp, ?_, ?_⟩
      · rw [e]; simp only [Option.bind_some, Bool.false_eq_true, if_false]
      · rw [if_pos (by omega)]; simp only [impl_SeriesOfDegrees.j0, if_true]
  · rw [if_neg h, if_neg h]
    exact ⟨[], 2, by simp, by simp only [], by simp only [impl_SeriesOfDegrees.j0, if_true]⟩
theorem FnExactSeriesOfDegrees : laws_FnExactSeriesOfDegrees.Pure := by
  intro l a _ _ _ _
  by_cases hl : (l.length : Int) > 1048576
  · exact ⟨1, by unfold laws_FnExactSeriesOfDegrees.f; rw [if_pos hl]⟩
  · have hl' : l.length ≤ 1048576 := by omega
    refine ⟨l.length + 2000, ?_⟩
    obtain ⟨r, c, hr, hs, hi⟩ := same l a (l.length + 2000) (by omega) hl'
    obtain ⟨r2, c2, hr2, hs2, hi2⟩ := same l a (l.length + 1998) (by omega) hl'
    have hsame : r2 = r ∧ c2 = c := by
      have h1 := impl_SeriesOfDegrees.mono l a _ _ hi2
      have h2 := impl_SeriesOfDegrees.mono l a _ _ h1
      rw [hi] at h2; simpa using h2.symm
    obtain ⟨rfl, rfl⟩ := hsame
    unfold laws_FnExactSeriesOfDegrees.f
    rw [if_neg hl, toI_is l _ (by omega) hl']; simp only [Option.bind_some]
    rw [hs]; simp only [Option.bind_some]; rw [hi]; simp only [Option.bind_some]
    rw [eqI_is r2 _ (by omega) (by omega)]; simp only [Option.bind_some, if_true, bne_self_eq_false]
    simp only [laws_FnExactSeriesOfDegrees.j0, Bool.false_eq_true, if_false]
    rw [toI_is l _ (by omega) hl']; simp only [Option.bind_some]
    rw [eqI_is l _ (by omega) hl']; simp only [Option.bind_some, if_true]
    rw [mark_is l _ 1 (by omega) hl' (by omega) (by omega)]; simp only [Option.bind_some]
    rw [if_neg (by omega), eqI_is r2 _ (by omega) (by omega)]; simp only [Option.bind_some, if_true, bne_self_eq_false]
    simp only [laws_FnExactSeriesOfDegrees.j1, Bool.false_eq_true, if_false]
    rw [mark_is r2 _ 1 (by omega) (by omega) (by omega) (by omega)]; simp only [Option.bind_some]
    rw [held_is r2.length _ 1 (by omega) (by omega) (by omega) (by omega)]; simp only [Option.bind_some]
    rw [if_neg (by omega), if_pos trivial, toI_is l _ (by omega) hl']; simp only [Option.bind_some]
    rw [hi2]; simp only [Option.bind_some]
    rw [eqI_is r2 _ (by omega) (by omega)]; simp only [Option.bind_some, if_true, bne_self_eq_false]
    simp only [laws_FnExactSeriesOfDegrees.j2, Bool.false_eq_true, if_false]
    rw [held_is r2.length _ 1 (by omega) (by omega) (by omega) (by omega)]; simp only [Option.bind_some]
    rw [if_neg (by omega), if_pos trivial]

end Go.Proofs.Ytdnpenpfadfehaa.Pure
