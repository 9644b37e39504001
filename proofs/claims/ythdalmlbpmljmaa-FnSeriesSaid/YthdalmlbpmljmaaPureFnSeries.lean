/- FnSeries: what the program computes is what the reference computes, for all arguments. -/
import Derived.Test.YthdalmlbpmljmaaEFnSeriesx10
namespace Go.Proofs.Ythdalmlbpmljmaa.Pure
open Go.RowKit Go.Proofs.Ythdalmlbpmljmaa.EFnSeries Go.Proofs.YthdalmlbpmljmaaW.PrintWords Go.Proofs.YthdalmlbpmljmaaW.PrintLast

/-- no definitional step: the kernel is never asked to compute what follows -/
theorem bnd {α β : Type} (a : α) (f : α → Option β) : (some a).bind f = f a := by
  have h : ∀ o : Option α, o = some a → o.bind f = f a := fun o h => by subst h; rfl
  exact h _ rfl
theorem wrap_in {x : Int} (h0 : -9223372036854775808 ≤ x) (h1 : x ≤ 9223372036854775807) : wrap64 x = x := by unfold wrap64; omega
theorem rd_mid (pre suf : List Int) (a : Int) : rd (pre ++ a :: suf) (pre.length : Int) = a := by simp [rd]
theorem step_k {n k : Nat} (h : n < k) : ∃ m, k = m + 1 := ⟨k - 1, by omega⟩
theorem getD_put (l : List Int) (i j : Nat) (v : Int) (h : i < l.length) : (l.set i v).getD j 0 = if i = j then v else l.getD j 0 := by
  simp only [List.getD_eq_getElem?_getD, List.getElem?_set]
  by_cases h1 : i = j
  · subst h1; simp [h]
  · simp [h1]
theorem ext_getD {l l' : List Int} (h : l.length = l'.length) (h2 : ∀ j, j < l.length → l.getD j 0 = l'.getD j 0) : l = l' := by
  apply List.ext_getElem h
  intro j h3 h4
  have := h2 j h3
  simpa [List.getD_eq_getElem?_getD, List.getElem?_eq_getElem h3, List.getElem?_eq_getElem h4] using this
theorem and_bd (x : Int) : 0 ≤ Go.bits .and .u64 x 16777215 ∧ Go.bits .and .u64 x 16777215 ≤ 16777215 := by
  have h : (BitVec.ofInt 64 x &&& BitVec.ofInt 64 16777215).toNat ≤ 16777215 := by
    rw [BitVec.toNat_and]; exact Nat.le_trans Nat.and_le_right (by decide)
  have e : Go.bits .and .u64 x 16777215 = IntKind.u64.wrap (((BitVec.ofInt 64 x &&& BitVec.ofInt 64 16777215).toNat : Nat) : Int) := rfl
  rw [e]
  generalize (BitVec.ofInt 64 x &&& BitVec.ofInt 64 16777215).toNat = n at h ⊢
  simp only [IntKind.wrap, IntKind.bits, IntKind.signed]
  simp
  omega
/-- what a source is drawn from: no more than 4096 bytes -/
def okB (s : List Int) : Prop := s.length ≤ 4096 ∧ ∀ i, 0 ≤ s.getD i 0 ∧ s.getD i 0 ≤ 255
theorem next_ok {s : List Int} (hs : okB s) (p q a : Int) (hp : 0 ≤ p ∧ p ≤ 4096) (ha : 1 ≤ a ∧ a ≤ 1000000) :
    ∃ v p' q', spec_l01Next.f s p q a = some (v, p', q') ∧ (0 ≤ v ∧ v < a) ∧ (0 ≤ p' ∧ p' ≤ 4096) := by
  have hm : ∀ x : Int, 0 ≤ x → 0 ≤ Int.tmod x a ∧ Int.tmod x a < a := fun x hx => ⟨Int.tmod_nonneg _ hx, Int.tmod_lt_of_pos _ (by omega)⟩
  have hb := and_bd ((IntKind.u64.wrap ((IntKind.u64.wrap (q * 6364136223846793005)) + 1442695040888963407)) / 8589934592)
  unfold spec_l01Next.f
  generalize Go.bits .and .u64 ((IntKind.u64.wrap ((IntKind.u64.wrap (q * 6364136223846793005)) + 1442695040888963407)) / 8589934592) 16777215 = b at hb ⊢
  rw [if_neg (by omega)]
  have eb : wrap64 b = b := wrap_in (by omega) (by omega)
  by_cases h : p < (s.length : Int)
  · have hl := hs.1
    have hv := hs.2 p.toNat
    have e1 : wrap64 (rd s p) = rd s p := wrap_in (by simp only [rd]; omega) (by simp only [rd]; omega)
    have e2 : wrap64 (b + rd s p) = b + rd s p := wrap_in (by simp only [rd]; omega) (by simp only [rd]; omega)
    have e3 : wrap64 (p + 1) = p + 1 := wrap_in (by omega) (by omega)
    rw [if_pos h, if_pos hp.1, if_neg (by omega), eb, e1, e2, e3]
    exact ⟨_, _, _, rfl, hm _ (by simp only [rd]; omega), by omega⟩
  · rw [if_neg h, if_neg (by omega), eb]
    exact ⟨_, _, _, rfl, hm _ (by omega), hp⟩
theorem pick_ok {s : List Int} (hs : okB s) (p q : Int) (l : List Int) (hp : 0 ≤ p ∧ p ≤ 4096) (hl : 1 ≤ l.length ∧ l.length ≤ 1000) :
    ∃ v p' q', spec_l01Pick.f s p q l = some (v, p', q') ∧ v ∈ l ∧ (0 ≤ p' ∧ p' ≤ 4096) := by
  obtain ⟨v, p', q', h, hv, hp'⟩ := next_ok hs p q l.length hp (by omega)
  unfold spec_l01Pick.f
  rw [h, bnd, if_pos (by show 0 ≤ v; omega), if_pos (by show v < _; omega)]
  refine ⟨_, _, _, rfl, ?_, hp'⟩
  show rd l v ∈ l
  simp only [rd, List.getD_eq_getElem?_getD]
  rw [List.getElem?_eq_getElem (by omega)]
  exact List.getElem_mem _
theorem near_ok {s : List Int} (hs : okB s) (p q a : Int) (hp : 0 ≤ p ∧ p ≤ 4096) (ha : 0 ≤ a ∧ a ≤ 1000) :
    ∃ v p' q', spec_l01Near.f s p q a = some (v, p', q') ∧ (0 ≤ p' ∧ p' ≤ 4096) := by
  obtain ⟨v, p1, q1, h, _, hp1⟩ := next_ok hs p q 14 hp (by omega)
  have e : wrap64 (a + 1) = a + 1 := wrap_in (by omega) (by omega)
  unfold spec_l01Near.f
  rw [h, bnd]
  simp only
  by_cases hv : v = 0
  · rw [if_pos hv]
    obtain ⟨v2, p2, q2, h2, _, hp2⟩ := pick_ok hs p1 q1 ([(-1), wrap64 (a + 1), 1099511627776, (-4611686018427387904)] : List Int) hp1 (by simp)
    rw [h2, bnd]
    exact ⟨_, _, _, rfl, hp2⟩
  · rw [if_neg hv, e]
    obtain ⟨v2, p2, q2, h2, _, hp2⟩ := next_ok hs p1 q1 (a + 1) hp1 (by omega)
    rw [h2, bnd]
    exact ⟨_, _, _, rfl, hp2⟩
theorem from_loop (s : List Int) (hs : s.length ≤ 4096) : ∀ (m i : Nat) (q : Int), i + m = s.length → ∃ q', ∀ k, m < k → spec_l01From.l0 k s i s 0 q = some (s, 0, q') := by
  intro m
  induction m with
  | zero =>
    intro i q h
    refine ⟨q, fun k hk => ?_⟩
    obtain ⟨k, rfl⟩ := step_k hk
    simp only [spec_l01From.l0]; rw [if_neg (by omega)]
  | succ m ih =>
    intro i q h
    have e2 : wrap64 ((i : Int) + 1) = ((i + 1 : Nat) : Int) := by rw [wrap_in (by omega) (by omega)]; simp
    obtain ⟨q', h'⟩ := ih (i + 1) (IntKind.u64.wrap ((IntKind.u64.wrap ((IntKind.u64.wrap (q * 1099511628211)) + (IntKind.u64.wrap (rd s i)))) + 101)) (by omega)
    refine ⟨q', fun k hk => ?_⟩
    obtain ⟨k, rfl⟩ := step_k hk
    simp only [spec_l01From.l0]; rw [if_pos (by omega), if_pos (by omega), if_pos (by omega), e2]
    exact h' k (by omega)
theorem from_ok (s : List Int) (hs : okB s) : ∃ q', ∀ k, 5000 < k → spec_l01From.f k s = some (s, 0, q') := by
  obtain ⟨q', h⟩ := from_loop s hs.1 s.length 0 (IntKind.u64.wrap (12851 + (IntKind.u64.wrap ((s.length : Int))))) (by omega)
  refine ⟨q', fun k hk => ?_⟩
  unfold spec_l01From.f
  have := hs.1
  exact h k (by omega)
theorem okB_of {s : List Int} (h : s.length ≤ 4096) (h2 : ∀ x ∈ s, (Lit.int .u8 x).wf = true) : okB s := by
  refine ⟨h, fun i => ?_⟩
  by_cases hi : i < s.length
  · have := h2 _ (List.getElem_mem hi)
    rw [List.getD_eq_getElem?_getD, List.getElem?_eq_getElem hi]
    simp only [Option.getD_some]
    generalize s[i] = x at this ⊢
    simp [Lit.wf, IntKind.min, IntKind.max, IntKind.bits, IntKind.signed] at this
    omega
  · rw [List.getD_eq_getElem?_getD, List.getElem?_eq_none (by omega)]; simp
def okN (x : Int) : Bool := decide (-1000000000 ≤ x) && decide (x ≤ 1000000000)
def okS (l : List Int) : Bool := l.all okN && (decide (1 ≤ l.length) && decide (l.length ≤ 41))
theorem in_is (x : Int) : spec_l01In.f x (-1000000000) 1000000000 = some (okN x) := by
  unfold spec_l01In.f okN; by_cases h : x ≥ -1000000000
  · rw [if_pos h]; simp only [ge_iff_le] at h; simp [h]
  · rw [if_neg h]; simp only [ge_iff_le] at h; simp [h]
theorem count_is (x : Int) : impl_isCount.f x = some (okN x) := by
  unfold impl_isCount.f okN; by_cases h : x ≥ -1000000000
  · rw [if_pos h]; simp only [ge_iff_le] at h; simp [h]
  · rw [if_neg h]; simp only [ge_iff_le] at h; simp [h]
theorem len_is (n : Nat) : (if (n : Int) ≥ 1 then (some (decide ((n : Int) ≤ 41))) else (some false)) = some (decide (1 ≤ n) && decide (n ≤ 41)) := by
  by_cases h : 1 ≤ n
  · rw [if_pos (by omega)]; simp [h]; constructor <;> intro <;> omega
  · rw [if_neg (by omega)]; simp [h]
theorem isS_loop : ∀ (suf pre : List Int) (k : Nat), suf.length < k → (pre ++ suf).length ≤ 1048576 →
    spec_l04Is.l0 k (pre ++ suf) pre.length = some (suf.all okN && (decide (1 ≤ (pre ++ suf).length) && decide ((pre ++ suf).length ≤ 41))) := by
  intro suf
  induction suf with
  | nil =>
    intro pre k hk _
    obtain ⟨k, rfl⟩ := step_k hk
    simp only [spec_l04Is.l0]; rw [if_neg (by simp), len_is]; simp
  | cons a suf ih =>
    intro pre k hk hl
    obtain ⟨k, rfl⟩ := step_k hk
    simp only [List.length_append, List.length_cons] at hl hk
    have e2 : wrap64 ((pre.length : Int) + 1) = ((pre ++ [a]).length : Int) := by rw [wrap_in (by omega) (by omega)]; simp
    simp only [spec_l04Is.l0]
    rw [if_pos (by simp only [List.length_append, List.length_cons]; omega), if_pos (by omega), rd_mid, in_is]; simp only [Option.bind_some]
    by_cases h : okN a = true
    · rw [if_pos h, e2]
      have := ih (pre ++ [a]) k (by omega) (by simp; omega)
      simp only [List.append_assoc, List.singleton_append] at this
      rw [this]; simp [h]
    · rw [if_neg h]; simp [h]
theorem isS_is (l : List Int) (k : Nat) (hk : l.length < k) (hl : l.length ≤ 1048576) : spec_l04Is.f k l = some (okS l) := by
  unfold spec_l04Is.f okS; exact isS_loop l [] k hk (by simpa using hl)
theorem isI_loop : ∀ (suf pre : List Int) (k : Nat), suf.length < k → (pre ++ suf).length ≤ 1048576 →
    impl_isSeries.l0 k (pre ++ suf) (pre ++ suf) ((pre ++ suf).length : Int) pre.length = some (suf.all okN && (decide (1 ≤ (pre ++ suf).length) && decide ((pre ++ suf).length ≤ 41))) := by
  intro suf
  induction suf with
  | nil =>
    intro pre k hk _
    obtain ⟨k, rfl⟩ := step_k hk
    simp only [impl_isSeries.l0]; rw [if_neg (by simp), len_is]; simp
  | cons a suf ih =>
    intro pre k hk hl
    obtain ⟨k, rfl⟩ := step_k hk
    simp only [List.length_append, List.length_cons] at hl hk
    have e2 : wrap64 ((pre.length : Int) + 1) = ((pre ++ [a]).length : Int) := by rw [wrap_in (by omega) (by omega)]; simp
    simp only [impl_isSeries.l0]
    rw [if_pos (by simp only [List.length_append, List.length_cons]; omega), if_pos (by omega), if_pos (by simp only [List.length_append, List.length_cons]; omega), rd_mid, count_is]; simp only [Option.bind_some]
    by_cases h : okN a = true
    · rw [if_pos h, e2]
      have := ih (pre ++ [a]) k (by omega) (by simp; omega)
      simp only [List.append_assoc, List.singleton_append] at this
      rw [this]; simp [h]
    · rw [if_neg h]; simp [h]
theorem isI_is (l : List Int) (k : Nat) (hk : l.length < k) (hl : l.length ≤ 1048576) : impl_isSeries.f k l = some (okS l) := by
  unfold impl_isSeries.f okS; exact isI_loop l [] k hk (by simpa using hl)
theorem okS_len {l : List Int} (h : okS l = true) : 1 ≤ l.length ∧ l.length ≤ 41 := by
  simp [okS] at h; omega
theorem okN_at {l : List Int} (h : l.all okN = true) (q : Nat) : okN (l.getD q 0) = true := by
  by_cases hq : q < l.length
  · rw [List.getD_eq_getElem?_getD, List.getElem?_eq_getElem hq]; exact List.all_eq_true.mp h _ (List.getElem_mem hq)
  · rw [List.getD_eq_getElem?_getD, List.getElem?_eq_none (by omega)]; rfl
def okD (x : Int) : Bool := decide (1 ≤ x) && decide (x ≤ 40)
theorem okD_at {l : List Int} (h : l.all okD = true) (i : Nat) (hi : i < l.length) : 1 ≤ l.getD i 0 ∧ l.getD i 0 ≤ 40 := by
  have := List.all_eq_true.mp h _ (List.getElem_mem hi)
  simp only [okD, Bool.and_eq_true, decide_eq_true_eq] at this
  simpa [List.getD_eq_getElem?_getD, List.getElem?_eq_getElem hi] using this
theorem okd (x : Int) : spec_l01In.f x 1 40 = some (okD x) := by
  unfold spec_l01In.f okD; by_cases h : x ≥ 1
  · rw [if_pos h]; simp only [ge_iff_le] at h; simp [h]
  · rw [if_neg h]; simp only [ge_iff_le] at h; simp [h]
def okDs (l : List Int) : Bool := l.all okD && decide (l.length ≤ 6)
theorem dS_loop : ∀ (suf pre : List Int) (k : Nat), suf.length < k → (pre ++ suf).length ≤ 1048576 →
    spec_l04Degrees.l0 k (pre ++ suf) pre.length = some (suf.all okD && decide ((pre ++ suf).length ≤ 6)) := by
  intro suf
  induction suf with
  | nil =>
    intro pre k hk _
    obtain ⟨k, rfl⟩ := step_k hk
    simp only [spec_l04Degrees.l0]; rw [if_neg (by simp)]; simp; omega
  | cons a suf ih =>
    intro pre k hk hl
    obtain ⟨k, rfl⟩ := step_k hk
    simp only [List.length_append, List.length_cons] at hl hk
    have e2 : wrap64 ((pre.length : Int) + 1) = ((pre ++ [a]).length : Int) := by rw [wrap_in (by omega) (by omega)]; simp
    simp only [spec_l04Degrees.l0]
    rw [if_pos (by simp only [List.length_append, List.length_cons]; omega), if_pos (by omega), rd_mid, okd]; simp only [Option.bind_some]
    by_cases h : okD a = true
    · rw [if_pos h, e2]
      have := ih (pre ++ [a]) k (by omega) (by simp; omega)
      simp only [List.append_assoc, List.singleton_append] at this
      rw [this]; simp [h]
    · rw [if_neg h]; simp [h]
theorem dS_is (l : List Int) (k : Nat) (hk : l.length < k) (hl : l.length ≤ 1048576) : spec_l04Degrees.f k l = some (okDs l) := by
  unfold spec_l04Degrees.f okDs; exact dS_loop l [] k hk (by simpa using hl)
theorem dI_loop : ∀ (suf pre : List Int) (k : Nat), suf.length < k → (pre ++ suf).length ≤ 1048576 →
    impl_areDegrees.l0 k (pre ++ suf) (pre ++ suf) ((pre ++ suf).length : Int) pre.length = some (suf.all okD && decide ((pre ++ suf).length ≤ 6)) := by
  intro suf
  induction suf with
  | nil =>
    intro pre k hk _
    obtain ⟨k, rfl⟩ := step_k hk
    simp only [impl_areDegrees.l0]; rw [if_neg (by simp)]; simp; omega
  | cons a suf ih =>
    intro pre k hk hl
    obtain ⟨k, rfl⟩ := step_k hk
    simp only [List.length_append, List.length_cons] at hl hk
    have e2 : wrap64 ((pre.length : Int) + 1) = ((pre ++ [a]).length : Int) := by rw [wrap_in (by omega) (by omega)]; simp
    simp only [impl_areDegrees.l0]
    rw [if_pos (by simp only [List.length_append, List.length_cons]; omega), if_pos (by omega), if_pos (by simp only [List.length_append, List.length_cons]; omega), rd_mid]
    by_cases h0 : a < 1
    · rw [if_pos h0]; simp [okD]; omega
    · rw [if_neg h0]
      by_cases h1 : a > 40
      · rw [if_pos h1]; simp [okD]; omega
      · rw [if_neg h1, e2]
        have := ih (pre ++ [a]) k (by omega) (by simp; omega)
        simp only [List.append_assoc, List.singleton_append] at this
        have ha : okD a = true := by simp [okD]; omega
        rw [this]; simp [ha]
theorem dI_is (l : List Int) (k : Nat) (hk : l.length < k) (hl : l.length ≤ 1048576) : impl_areDegrees.f k l = some (okDs l) := by
  unfold impl_areDegrees.f okDs; exact dI_loop l [] k hk (by simpa using hl)
/-- what one degree takes away -/
def back (y : List Int) (d j : Nat) : Int := if d ≤ j then y.getD (j - d) 0 else 0
def new (y : List Int) (d j : Nat) : Int := y.getD j 0 - back y d j
def news (y : List Int) (d : Nat) : List Int := (List.range y.length).map (new y d)
theorem news_at (y : List Int) (d j : Nat) (h : j < y.length) : (news y d).getD j 0 = new y d j := by
  simp [news, List.getD_eq_getElem?_getD, h]
theorem news_len (y : List Int) (d : Nat) : (news y d).length = y.length := by simp [news]
theorem own_is (l : List Int) (h : l.length ≤ 1048576) : spec_l01Own.f l = some l := by
  unfold spec_l01Own.f; rw [bnd, if_pos (by simp only [List.length_nil]; omega)]; simp
theorem clone_is (l : List Int) (h : l.length ≤ 1048576) : slices_Clone_int64_int64.f l = some l := by
  unfold slices_Clone_int64_int64.f; rw [if_pos (by omega)]
theorem shf_loop (y : List Int) (d : Nat) (hy : y.length ≤ 41) (hd : d ≤ 40) : ∀ (m i : Nat) (x : List Int), d ≤ i → y.length - i = m → x.length = y.length →
    (∀ j, j < i → j < y.length → x.getD j 0 = back y d j) →
    ∃ r, r.length = y.length ∧ (∀ j, j < y.length → r.getD j 0 = back y d j) ∧ ∀ k, m < k → spec_l04Shift.l0 k y d x i = some r := by
  intro m
  induction m with
  | zero =>
    intro i x h1 h2 h3 h4
    refine ⟨x, h3, fun j hj => h4 j (by omega) hj, fun k hk => ?_⟩
    obtain ⟨k, rfl⟩ := step_k hk
    simp only [spec_l04Shift.l0]; rw [if_neg (by omega)]
  | succ m ih =>
    intro i x h1 h2 h3 h4
    have e2 : wrap64 ((i : Int) + 1) = ((i + 1 : Nat) : Int) := by rw [wrap_in (by omega) (by omega)]; simp
    have e3 : wrap64 ((i : Int) - d) = ((i - d : Nat) : Int) := by rw [wrap_in (by omega) (by omega)]; omega
    obtain ⟨r, hr, hr2, h5⟩ := ih (i + 1) (x.set i (y.getD (i - d) 0)) (by omega) (by omega) (by simpa using h3) (by
      intro j hj hj2
      rw [getD_put _ _ _ _ (by omega)]
      by_cases h : i = j
      · subst h; rw [if_pos rfl]; unfold back; rw [if_pos h1]
      · rw [if_neg h]; exact h4 j (by omega) hj2)
    refine ⟨r, hr, hr2, fun k hk => ?_⟩
    obtain ⟨k, rfl⟩ := step_k hk
    simp only [spec_l04Shift.l0]
    rw [if_pos (by omega), e3, if_pos (by omega), if_pos (by omega), if_pos (by omega), if_pos (by omega), e2]
    simp only [rd, Int.toNat_natCast]
    exact h5 k (by omega)
theorem shf_is (y : List Int) (d : Nat) (hy : y.length ≤ 41) (hd : d ≤ 40) :
    ∃ r, r.length = y.length ∧ (∀ j, j < y.length → r.getD j 0 = back y d j) ∧ ∀ k, 50 < k → spec_l04Shift.f k y d = some r := by
  obtain ⟨r, h1, h2, h3⟩ := shf_loop y d hy hd (y.length - d) d (List.replicate y.length 0) (Nat.le_refl _) rfl (by simp) (by
    intro j hj hj2
    unfold back; rw [if_neg (by omega)]; simp [List.getD_eq_getElem?_getD, hj2])
  refine ⟨r, h1, h2, fun k hk => ?_⟩
  unfold spec_l04Shift.f
  rw [if_pos (by omega), if_pos (by simp only [Int.toNat_natCast]; omega)]
  simp only [Int.toNat_natCast]
  exact h3 k (by omega)
theorem okN_bd {x : Int} (h : okN x = true) : -1000000000 ≤ x ∧ x ≤ 1000000000 := by
  simpa [okN] using h
theorem back_bd {y : List Int} (h : ∀ j, okN (y.getD j 0) = true) (d j : Nat) : -1000000000 ≤ back y d j ∧ back y d j ≤ 1000000000 := by
  unfold back; split
  · exact okN_bd (h _)
  · omega
theorem numS (D : List Int) (y b : List Int) (d ix : Nat) (hix : ix < 100) (hy : y.length ≤ 41) (hok : ∀ j, okN (y.getD j 0) = true) (hb : b.length = y.length) (hb2 : ∀ j, j < y.length → b.getD j 0 = back y d j) :
    ∀ (m i : Nat) (x : List Int), i + m = y.length → x.length = y.length → (∀ j, j < i → x.getD j 0 = new y d j) → (∀ j, i ≤ j → x.getD j 0 = y.getD j 0) → (∀ j, j < i → okN (new y d j) = true) →
      ((∀ j, j < y.length → okN (new y d j) = true) → ∀ k, m < k → spec_NumeratorOf.l1 k D x ix b i = spec_NumeratorOf.l0 (k - m - 1) D (news y d) ((ix + 1 : Nat) : Int)) ∧
      ((¬ ∀ j, j < y.length → okN (new y d j) = true) → ∀ k, m < k → spec_NumeratorOf.l1 k D x ix b i = some ([], 3)) := by
  intro m
  have e1 : wrap64 ((ix : Int) + 1) = ((ix + 1 : Nat) : Int) := by rw [wrap_in (by omega) (by omega)]; simp
  induction m with
  | zero =>
    intro i x h1 h2 h3 h4 h5
    refine ⟨fun h6 k hk => ?_, fun h6 => absurd (fun j hj => h5 j (by omega)) h6⟩
    obtain ⟨k, rfl⟩ := step_k hk
    have : x = news y d := ext_getD (by rw [h2, news_len]) (fun j hj => by rw [h3 j (by omega), news_at _ _ _ (by omega)])
    subst this
    simp only [spec_NumeratorOf.l1]; rw [if_neg (by omega), e1]; simp
  | succ m ih =>
    intro i x h1 h2 h3 h4 h5
    have e2 : wrap64 ((i : Int) + 1) = ((i + 1 : Nat) : Int) := by rw [wrap_in (by omega) (by omega)]; simp
    have hbd := back_bd hok d i
    have hyb := okN_bd (hok i)
    have e4 : wrap64 (rd x i - rd b i) = new y d i := by
      simp only [rd, Int.toNat_natCast]; rw [h4 i (Nat.le_refl _), hb2 i (by omega)]; exact wrap_in (by omega) (by omega)
    have step : ∀ k, spec_NumeratorOf.l1 (k + 1) D x ix b i = if okN (new y d i) = true then spec_NumeratorOf.l1 k D (x.set i (new y d i)) ix b ((i + 1 : Nat) : Int) else some ([], 3) := by
      intro k
      simp only [spec_NumeratorOf.l1]
      rw [if_pos (by omega), if_pos (by omega), if_pos (by omega), e4, in_is, bnd, e2]
      simp only [Int.toNat_natCast]
    by_cases hh : okN (new y d i) = true
    · have H := ih (i + 1) (x.set i (new y d i)) (by omega) (by simpa using h2) (by
        intro j hj; rw [getD_put _ _ _ _ (by omega)]
        by_cases h : i = j
        · subst h; rw [if_pos rfl]
        · rw [if_neg h]; exact h3 j (by omega)) (by
        intro j hj; rw [getD_put _ _ _ _ (by omega), if_neg (by omega)]; exact h4 j (by omega)) (by
        intro j hj
        by_cases h : j = i
        · subst h; exact hh
        · exact h5 j (by omega))
      refine ⟨fun h6 k hk => ?_, fun h6 k hk => ?_⟩
      · obtain ⟨k, rfl⟩ := step_k hk
        rw [step, if_pos hh, H.1 h6 k (by omega)]; congr 1; omega
      · obtain ⟨k, rfl⟩ := step_k hk
        rw [step, if_pos hh, H.2 h6 k (by omega)]
    · refine ⟨fun h6 => absurd (h6 i (by omega)) hh, fun h6 k hk => ?_⟩
      obtain ⟨k, rfl⟩ := step_k hk
      rw [step, if_neg hh]
theorem numI (D : List Int) (n : Int) (y : List Int) (d ix : Nat) (hd : 1 ≤ d) (hd2 : d ≤ 40) (hix : ix < 100) (hy : y.length ≤ 41) (hok : ∀ j, okN (y.getD j 0) = true) :
    ∀ (m p : Nat) (x : List Int), p ≤ y.length → p - d = m → x.length = y.length → (∀ j, p ≤ j → j < y.length → x.getD j 0 = new y d j) → (∀ j, j < p → x.getD j 0 = y.getD j 0) → (∀ j, p ≤ j → j < y.length → okN (new y d j) = true) →
      ((∀ j, j < y.length → okN (new y d j) = true) → ∀ k, m < k → impl_NumeratorOf.l1 k x d ((p : Int) - 1) D n ix = impl_NumeratorOf.l0 (k - m - 1) (news y d) D n ((ix + 1 : Nat) : Int)) ∧
      ((¬ ∀ j, j < y.length → okN (new y d j) = true) → ∀ k, m < k → impl_NumeratorOf.l1 k x d ((p : Int) - 1) D n ix = some ([], 3)) := by
  intro m
  have e1 : wrap64 ((ix : Int) + 1) = ((ix + 1 : Nat) : Int) := by rw [wrap_in (by omega) (by omega)]; simp
  have hlow : ∀ j, j < d → new y d j = y.getD j 0 := by intro j hj; unfold new back; rw [if_neg (by omega)]; simp
  induction m with
  | zero =>
    intro p x h0 h1 h2 h3 h4 h5
    refine ⟨fun h6 k hk => ?_, fun h6 => absurd (fun j hj => ?_) h6⟩
    · obtain ⟨k, rfl⟩ := step_k hk
      have : x = news y d := ext_getD (by rw [h2, news_len]) (fun j hj => by
        rw [news_at _ _ _ (by omega)]
        by_cases h : p ≤ j
        · exact h3 j h (by omega)
        · rw [h4 j (by omega), hlow j (by omega)])
      subst this
      simp only [impl_NumeratorOf.l1]; rw [if_neg (by omega), e1]; simp
    · by_cases h : p ≤ j
      · exact h5 j h hj
      · rw [hlow j (by omega)]; exact hok j
  | succ m ih =>
    intro p x h0 h1 h2 h3 h4 h5
    obtain ⟨i, rfl⟩ : ∃ i, p = i + 1 := ⟨p - 1, by omega⟩
    have e0 : ((i + 1 : Nat) : Int) - 1 = (i : Int) := by omega
    have e2 : wrap64 ((i : Int) - 1) = (i : Int) - 1 := wrap_in (by omega) (by omega)
    have e3 : wrap64 ((i : Int) - d) = ((i - d : Nat) : Int) := by rw [wrap_in (by omega) (by omega)]; omega
    have hbd := back_bd hok d i
    have hyb := okN_bd (hok i)
    have e4 : wrap64 (rd x i - rd x ((i - d : Nat) : Int)) = new y d i := by
      simp only [rd, Int.toNat_natCast]; rw [h4 i (by omega), h4 (i - d) (by omega)]
      have : new y d i = y.getD i 0 - y.getD (i - d) 0 := by unfold new back; rw [if_pos (by omega)]
      rw [← this]; unfold new; exact wrap_in (by omega) (by omega)
    have step : ∀ k, impl_NumeratorOf.l1 (k + 1) x d (i : Int) D n ix = if okN (new y d i) = true then impl_NumeratorOf.l1 k (x.set i (new y d i)) d ((i : Int) - 1) D n ix else some ([], 3) := by
      intro k
      simp only [impl_NumeratorOf.l1]
      rw [if_pos (by omega), if_pos (by omega), if_pos (by omega), e3, if_pos (by omega), if_pos (by omega), e4, count_is, bnd, e2]
      simp only [Int.toNat_natCast]
    rw [e0]
    by_cases hh : okN (new y d i) = true
    · have H := ih i (x.set i (new y d i)) (by omega) (by omega) (by simpa using h2) (by
        intro j hj hj2; rw [getD_put _ _ _ _ (by omega)]
        by_cases h : i = j
        · subst h; rw [if_pos rfl]
        · rw [if_neg h]; exact h3 j (by omega) hj2) (by
        intro j hj; rw [getD_put _ _ _ _ (by omega), if_neg (by omega)]; exact h4 j (by omega)) (by
        intro j hj hj2
        by_cases h : j = i
        · subst h; exact hh
        · exact h5 j (by omega) hj2)
      refine ⟨fun h6 k hk => ?_, fun h6 k hk => ?_⟩
      · obtain ⟨k, rfl⟩ := step_k hk
        rw [step, if_pos hh, H.1 h6 k (by omega)]; congr 1; omega
      · obtain ⟨k, rfl⟩ := step_k hk
        rw [step, if_pos hh, H.2 h6 k (by omega)]
    · refine ⟨fun h6 => absurd (h6 i (by omega)) hh, fun h6 k hk => ?_⟩
      obtain ⟨k, rfl⟩ := step_k hk
      rw [step, if_neg hh]
theorem num_all (D : List Int) (hD : D.all okD = true) (hDl : D.length ≤ 6) : ∀ (m i : Nat) (y : List Int), i + m = D.length → y.length ≤ 41 → (∀ j, okN (y.getD j 0) = true) →
    ∃ r c, r.length ≤ 41 ∧ ∀ k, m * 60 + 60 < k → spec_NumeratorOf.l0 k D y i = some (r, c) ∧ impl_NumeratorOf.l0 k y D D.length i = some (r, c) := by
  intro m
  induction m with
  | zero =>
    intro i y h1 h2 h3
    refine ⟨y, 0, h2, fun k hk => ?_⟩
    obtain ⟨k, rfl⟩ := step_k hk
    simp only [spec_NumeratorOf.l0, impl_NumeratorOf.l0]
    exact ⟨by rw [if_neg (by omega)], by rw [if_neg (by omega)]⟩
  | succ m ih =>
    intro i y h1 h2 h3
    obtain ⟨hd1, hd2⟩ := okD_at hD i (by omega)
    obtain ⟨d, hd⟩ : ∃ d : Nat, D.getD i 0 = (d : Int) := ⟨(D.getD i 0).toNat, by omega⟩
    have hrd : rd D (i : Int) = (d : Int) := by simp only [rd, Int.toNat_natCast]; exact hd
    obtain ⟨b, hb, hb2, hsh⟩ := shf_is y d h2 (by omega)
    have HS := numS D y b d i (by omega) h2 h3 hb hb2 y.length 0 y (by omega) rfl (by intro j hj; omega) (fun _ _ => rfl) (by intro j hj; omega)
    have HI := numI D (D.length : Int) y d i (by omega) (by omega) (by omega) h2 h3 (y.length - d) y.length y (Nat.le_refl _) rfl rfl (by intro j hj hj2; omega) (fun _ _ => rfl) (by intro j hj hj2; omega)
    have e0 : wrap64 ((y.length : Int) - 1) = (y.length : Int) - 1 := wrap_in (by omega) (by omega)
    by_cases h6 : ∀ j, j < y.length → okN (new y d j) = true
    · obtain ⟨r, c, hr, hrc⟩ := ih (i + 1) (news y d) (by omega) (by rw [news_len]; exact h2) (by
        intro j
        by_cases hj : j < y.length
        · rw [news_at _ _ _ hj]; exact h6 j hj
        · rw [List.getD_eq_getElem?_getD, List.getElem?_eq_none (by rw [news_len]; omega)]; rfl)
      refine ⟨r, c, hr, fun k hk => ?_⟩
      obtain ⟨k, rfl⟩ := step_k hk
      constructor
      · simp only [spec_NumeratorOf.l0]
        rw [if_pos (by omega), if_pos (by omega), hrd, hsh k (by omega), bnd, show (0 : Int) = ((0 : Nat) : Int) from rfl, HS.1 h6 k (by omega)]
        exact (hrc _ (by omega)).1
      · simp only [impl_NumeratorOf.l0]
        rw [if_pos (by omega), if_pos (by omega), if_pos (by omega), hrd, e0, HI.1 h6 k (by omega)]
        exact (hrc _ (by omega)).2
    · refine ⟨[], 3, by simp, fun k hk => ?_⟩
      obtain ⟨k, rfl⟩ := step_k hk
      constructor
      · simp only [spec_NumeratorOf.l0]
        rw [if_pos (by omega), if_pos (by omega), hrd, hsh k (by omega), bnd, show (0 : Int) = ((0 : Nat) : Int) from rfl, HS.2 h6 k (by omega)]
      · simp only [impl_NumeratorOf.l0]
        rw [if_pos (by omega), if_pos (by omega), if_pos (by omega), hrd, e0, HI.2 h6 k (by omega)]
theorem sameN (l l' : List Int) (k : Nat) (hk : l.length + l'.length + 3000 < k) (hl : l.length ≤ 1048576) (hl' : l'.length ≤ 1048576) :
    ∃ r c, r.length ≤ 41 ∧ spec_NumeratorOf.f k l l' = some (r, c) ∧ impl_NumeratorOf.f k l l' = some (r, c) := by
  obtain ⟨k, rfl⟩ := step_k hk
  unfold spec_NumeratorOf.f impl_NumeratorOf.f
  rw [isS_is l _ (by omega) hl, isI_is l _ (by omega) hl, bnd, bnd]
  by_cases h : okS l = true
  · rw [if_pos h, if_pos h, dS_is l' _ (by omega) hl', dI_is l' _ (by omega) hl', bnd, bnd]
    obtain ⟨h1, h2⟩ := okS_len h
    by_cases h' : okDs l' = true
    · have ha : l.all okN = true := by simp only [okS, Bool.and_eq_true] at h; exact h.1
      have h3 := h'
      simp only [okDs, Bool.and_eq_true, decide_eq_true_eq] at h3
      obtain ⟨r, c, hr, hrc⟩ := num_all l' h3.1 h3.2 l'.length 0 l (by omega) h2 (okN_at ha)
      have := hrc k (by omega)
      refine ⟨r, c, hr, ?_, ?_⟩
      · rw [h']; simp only [spec_NumeratorOf.j0]; rw [if_neg (by simp), own_is l hl, bnd]; exact this.1
      · rw [h']; simp only [impl_NumeratorOf.j0]; rw [if_neg (by simp), clone_is l hl, bnd]; exact this.2
    · refine ⟨[], 2, by simp, ?_, ?_⟩
      · simp only [Bool.not_eq_true] at h'; rw [h']; simp only [spec_NumeratorOf.j0]; rw [if_pos (by simp)]
      · simp only [Bool.not_eq_true] at h'; rw [h']; simp only [impl_NumeratorOf.j0]; rw [if_pos (by simp)]
  · rw [if_neg h, if_neg h]
    exact ⟨[], 2, by simp, by simp only [spec_NumeratorOf.j0, if_true], by simp only [impl_NumeratorOf.j0, if_true]⟩
theorem prod_in {x y s : Int} (hx : okN x = true) (hy : okN y = true) (hs : okN s = true) :
    wrap64 (s + wrap64 (x * y)) = s + x * y := by
  simp only [okN, Bool.and_eq_true, decide_eq_true_eq] at hx hy hs
  have h := Nat.mul_le_mul (show x.natAbs ≤ 1000000000 by omega) (show y.natAbs ≤ 1000000000 by omega)
  rw [← Int.natAbs_mul] at h
  generalize x * y = z at h ⊢
  rw [wrap_in (x := z) (by omega) (by omega)]
  exact wrap_in (by omega) (by omega)
/-- the sum at K, from i on; none: too great on the way -/
def inn (a b : List Int) (K : Nat) : Nat → Nat → Int → Option Int
  | 0, _, s => some s
  | m + 1, i, s => if okN (s + a.getD i 0 * b.getD (K - i) 0) = true then inn a b K m (i + 1) (s + a.getD i 0 * b.getD (K - i) 0) else none
theorem inn_both (a b : List Int) (K : Nat) (ha : a.all okN = true) (hb : b.all okN = true) (hKa : K < a.length) (hKb : K < b.length) (hK : K ≤ 40) (acc : List Int) (hacc : acc.length ≤ 41) (n : Int) :
    ∀ (m i : Nat) (s : Int), i + m = K + 1 → okN s = true → ∀ k, m < k →
      spec_MultiplySeries.l1 k a b acc K s i = (match inn a b K m i s with | some s' => spec_MultiplySeries.l0 (k - m - 1) a b (acc ++ [s']) ((K + 1 : Nat) : Int) | none => some ([], 3)) ∧
      impl_MultiplySeries.l1 k a b acc K s n K ((K + 1 : Nat) : Int) i = (match inn a b K m i s with | some s' => impl_MultiplySeries.l0 (k - m - 1) a b (acc ++ [s']) n ((K + 1 : Nat) : Int) | none => some ([], 3)) := by
  intro m
  have e1 : wrap64 ((K : Int) + 1) = ((K + 1 : Nat) : Int) := by rw [wrap_in (by omega) (by omega)]; simp
  induction m with
  | zero =>
    intro i s h1 hs k hk
    obtain ⟨k, rfl⟩ := step_k hk
    have hi : i = K + 1 := by omega
    subst hi
    constructor
    · simp only [spec_MultiplySeries.l1]; rw [if_neg (by omega), if_pos (by omega), e1]; simp [inn]
    · simp only [impl_MultiplySeries.l1]; rw [if_neg (by omega), if_pos (by omega), e1]; simp [inn]
  | succ m ih =>
    intro i s h1 hs k hk
    obtain ⟨k, rfl⟩ := step_k hk
    have e2 : wrap64 ((i : Int) + 1) = ((i + 1 : Nat) : Int) := by rw [wrap_in (by omega) (by omega)]; simp
    have e3 : wrap64 ((K : Int) - i) = ((K - i : Nat) : Int) := by rw [wrap_in (by omega) (by omega)]; omega
    have e4 : wrap64 (s + wrap64 (rd a i * rd b ((K - i : Nat) : Int))) = s + a.getD i 0 * b.getD (K - i) 0 := by
      simp only [rd, Int.toNat_natCast]; exact prod_in (okN_at ha _) (okN_at hb _) hs
    by_cases hok : okN (s + a.getD i 0 * b.getD (K - i) 0) = true
    · have h := ih (i + 1) _ (by omega) hok k (by omega)
      have ek : k + 1 - (m + 1) - 1 = k - m - 1 := by omega
      constructor
      · simp only [spec_MultiplySeries.l1]
        rw [if_pos (by omega), if_pos (by omega), if_pos (by omega), e3, if_pos (by omega), if_pos (by omega), e4, in_is, bnd, if_pos hok, e2, h.1]
        simp only [inn]; rw [if_pos hok, ek]
      · simp only [impl_MultiplySeries.l1]
        rw [if_pos (by omega), if_pos (by omega), if_pos (by omega), e3, if_pos (by omega), if_pos (by omega), e4, count_is, bnd, if_pos hok, e2, h.2]
        simp only [inn]; rw [if_pos hok, ek]
    · constructor
      · simp only [spec_MultiplySeries.l1]
        rw [if_pos (by omega), if_pos (by omega), if_pos (by omega), e3, if_pos (by omega), if_pos (by omega), e4, in_is, bnd, if_neg hok]
        simp only [inn]; rw [if_neg hok]
      · simp only [impl_MultiplySeries.l1]
        rw [if_pos (by omega), if_pos (by omega), if_pos (by omega), e3, if_pos (by omega), if_pos (by omega), e4, count_is, bnd, if_neg hok]
        simp only [inn]; rw [if_neg hok]
theorem mn_is (a b : Nat) : mn (a : Int) (b : Int) = ((min a b : Nat) : Int) := by unfold mn; split <;> omega
def seg (f : Nat → Int) : Nat → Nat → Int
  | _, 0 => 0
  | i, m + 1 => f i + seg f (i + 1) m
theorem seg_end (f : Nat → Int) : ∀ (m i : Nat), seg f i (m + 1) = seg f i m + f (i + m) := by
  intro m
  induction m with
  | zero => intro i; simp [seg]
  | succ m ih =>
    intro i
    rw [seg, ih (i + 1)]
    have : seg f i (m + 1) = f i + seg f (i + 1) m := rfl
    rw [this, show i + 1 + m = i + (m + 1) by omega]; omega
theorem seg_congr (f g : Nat → Int) : ∀ (m i : Nat), (∀ j, i ≤ j → j < i + m → f j = g j) → seg f i m = seg g i m := by
  intro m
  induction m with
  | zero => intro i _; rfl
  | succ m ih => intro i h; simp only [seg]; rw [h i (Nat.le_refl _) (by omega), ih (i + 1) (fun j h1 h2 => h j (by omega) (by omega))]
theorem seg_rev (f : Nat → Int) (c : Nat) : ∀ m, m ≤ c + 1 → seg (fun j => f (c - j)) 0 m = seg f (c + 1 - m) m := by
  intro m
  induction m with
  | zero => intro _; rfl
  | succ m ih =>
    intro h
    rw [seg_end, ih (by omega), show c + 1 - (m + 1) = c - m by omega]
    have : seg f (c - m) (m + 1) = f (c - m) + seg f (c - m + 1) m := rfl
    rw [this, show c + 1 - m = c - m + 1 by omega, Nat.zero_add]; omega
/-- the product's number at K -/
def cv (a b : List Int) (K : Nat) : Int := seg (fun i => a.getD i 0 * b.getD (K - i) 0) 0 (K + 1)
theorem cv_comm (a b : List Int) (K : Nat) : cv a b K = cv b a K := by
  unfold cv
  have h := seg_rev (fun i => a.getD i 0 * b.getD (K - i) 0) K (K + 1) (Nat.le_refl _)
  rw [Nat.sub_self] at h
  rw [← h]
  refine seg_congr _ _ _ _ (fun j _ hj => ?_)
  show a.getD (K - j) 0 * b.getD (K - (K - j)) 0 = b.getD j 0 * a.getD (K - j) 0
  rw [show K - (K - j) = j by omega, Int.mul_comm]
theorem inn_some (a b : List Int) (K : Nat) : ∀ (m i : Nat) (s t : Int), inn a b K m i s = some t → t = s + seg (fun i => a.getD i 0 * b.getD (K - i) 0) i m := by
  intro m
  induction m with
  | zero => intro i s t h; simp only [inn, Option.some.injEq] at h; simp [seg, h]
  | succ m ih =>
    intro i s t h
    simp only [inn] at h
    split at h
    · have := ih _ _ _ h; simp only [seg]; omega
    · exact absurd h (by simp)
theorem out_both2 (a b : List Int) (ha : a.all okN = true) (hb : b.all okN = true) (hla : a.length ≤ 41) (hlb : b.length ≤ 41) :
    ∀ (m K : Nat) (acc : List Int), K + m = min a.length b.length → acc.length = K → (∀ j, j < K → acc.getD j 0 = cv a b j) →
      ∃ r c, (c = 0 ∧ r.length = min a.length b.length ∧ (∀ j, j < min a.length b.length → r.getD j 0 = cv a b j) ∨ c = 3 ∧ r = [] ∧ ∃ K, K < min a.length b.length ∧ inn a b K (K + 1) 0 0 = none) ∧ ∀ k, m * 60 + 10 < k → spec_MultiplySeries.l0 k a b acc K = some (r, c) ∧ impl_MultiplySeries.l0 k a b acc ((min a.length b.length : Nat) : Int) K = some (r, c) := by
  intro m
  induction m with
  | zero =>
    intro K acc h1 hacc hcv
    refine ⟨acc, 0, Or.inl ⟨rfl, by omega, fun j hj => hcv j (by omega)⟩, fun k hk => ?_⟩
    obtain ⟨k, rfl⟩ := step_k hk
    obtain ⟨k, rfl⟩ := step_k (n := 5) (k := k) (by omega)
    constructor
    · simp only [spec_MultiplySeries.l0]
      by_cases h : (K : Int) < a.length
      · rw [if_pos h, decide_eq_false (by omega)]; simp only [spec_MultiplySeries.j2]; rw [if_neg (by simp)]
      · rw [if_neg h]; simp only [spec_MultiplySeries.j2]; rw [if_neg (by simp)]
    · simp only [impl_MultiplySeries.l0]; rw [if_neg (by omega)]
  | succ m ih =>
    intro K acc h1 hacc hcv
    have hh := inn_both a b K ha hb (by omega) (by omega) (by omega) acc (by omega) ((min a.length b.length : Nat) : Int) (K + 1) 0 0 (by omega) (by decide)
    have e1 : wrap64 ((K : Int) + 1) = ((K + 1 : Nat) : Int) := by rw [wrap_in (by omega) (by omega)]; simp
    cases hi : inn a b K (K + 1) 0 0 with
    | none =>
      refine ⟨[], 3, Or.inr ⟨rfl, rfl, K, by omega, hi⟩, fun k hk => ?_⟩
      obtain ⟨k, rfl⟩ := step_k hk
      obtain ⟨k, rfl⟩ := step_k (n := 60) (k := k) (by omega)
      have h2 := hh k (by omega)
      have h3 := hh (k + 1) (by omega)
      rw [hi] at h2 h3
      constructor
      · simp only [spec_MultiplySeries.l0]; rw [if_pos (by omega), decide_eq_true (by omega)]; simp only [spec_MultiplySeries.j2]; rw [if_pos trivial]; exact h2.1
      · simp only [impl_MultiplySeries.l0]; rw [if_pos (by omega), e1]; exact h3.2
    | some s =>
      obtain ⟨r, c, hr, hrc⟩ := ih (K + 1) (acc ++ [s]) (by omega) (by simp; omega) (by
        intro j hj
        by_cases hjK : j = K
        · subst hjK
          have := inn_some a b j (j + 1) 0 0 s hi
          rw [List.getD_eq_getElem?_getD, List.getElem?_append_right (by omega)]; simp [hacc]; unfold cv; omega
        · have := hcv j (by omega)
          rw [List.getD_eq_getElem?_getD, List.getElem?_append_left (by omega), ← List.getD_eq_getElem?_getD]; exact this)
      refine ⟨r, c, hr, fun k hk => ?_⟩
      clear hr
      obtain ⟨k, rfl⟩ := step_k hk
      obtain ⟨k, rfl⟩ := step_k (n := 60) (k := k) (by omega)
      have h2 := hh k (by omega)
      have h3 := hh (k + 1) (by omega)
      rw [hi] at h2 h3
      constructor
      · simp only [spec_MultiplySeries.l0]; rw [if_pos (by omega), decide_eq_true (by omega)]; simp only [spec_MultiplySeries.j2]; rw [if_pos trivial]
        exact h2.1.trans (hrc _ (by omega)).1
      · simp only [impl_MultiplySeries.l0]; rw [if_pos (by omega), e1]; exact h3.2.trans (hrc _ (by omega)).2
/-- what a product is, told of all rounds that are enough -/
theorem mul_told (l l' : List Int) (hl : l.length ≤ 200) (hl' : l'.length ≤ 200) :
    ∃ r c, (c = 0 ∧ okS l = true ∧ okS l' = true ∧ r.length = min l.length l'.length ∧ (∀ j, j < min l.length l'.length → r.getD j 0 = cv l l' j) ∨
        c ≠ 0 ∧ r = [] ∧ (okS l = true → okS l' = true → ∃ K, K < min l.length l'.length ∧ inn l l' K (K + 1) 0 0 = none)) ∧
      ∀ k, 4000 < k → spec_MultiplySeries.f k l l' = some (r, c) ∧ impl_MultiplySeries.f k l l' = some (r, c) := by
  have hS : ∀ (x : List Int), x.length ≤ 200 → ∀ k, 4000 < k → spec_l04Is.f k x = some (okS x) ∧ impl_isSeries.f k x = some (okS x) := fun x hx k hk => ⟨isS_is x k (by omega) (by omega), isI_is x k (by omega) (by omega)⟩
  by_cases h : okS l = true
  · by_cases h' : okS l' = true
    · obtain ⟨h1, h2⟩ := okS_len h
      obtain ⟨h1', h2'⟩ := okS_len h'
      have ha : l.all okN = true := by have h := h; simp only [okS, Bool.and_eq_true] at h; exact h.1
      have hb : l'.all okN = true := by have h' := h'; simp only [okS, Bool.and_eq_true] at h'; exact h'.1
      obtain ⟨r, c, hr, hrc⟩ := out_both2 l l' ha hb h2 h2' (min l.length l'.length) 0 [] (by omega) rfl (by intro j hj; omega)
      refine ⟨r, c, ?_, fun k hk => ?_⟩
      · rcases hr with ⟨a1, a2, a3⟩ | ⟨a1, a2, a3⟩
        · exact Or.inl ⟨a1, h, h', a2, a3⟩
        · exact Or.inr ⟨by omega, a2, fun _ _ => a3⟩
      · have := hS l hl k hk
        have := hS l' hl' k hk
        unfold spec_MultiplySeries.f impl_MultiplySeries.f
        obtain ⟨k, rfl⟩ := step_k hk
        rw [(hS l hl _ hk).1, (hS l hl _ hk).2, bnd, bnd, if_pos h, if_pos h, (hS l' hl' _ hk).1, (hS l' hl' _ hk).2, bnd, bnd, h']
        have := hrc k (by omega)
        refine ⟨?_, ?_⟩
        · simp only [spec_MultiplySeries.j0]; rw [if_neg (by simp)]; exact this.1
        · simp only [impl_MultiplySeries.j0]; rw [if_neg (by simp), mn_is]; exact this.2
    · refine ⟨[], 2, Or.inr ⟨by omega, rfl, fun _ h2 => absurd h2 h'⟩, fun k hk => ?_⟩
      unfold spec_MultiplySeries.f impl_MultiplySeries.f
      obtain ⟨k, rfl⟩ := step_k hk
      rw [(hS l hl _ hk).1, (hS l hl _ hk).2, bnd, bnd, if_pos h, if_pos h, (hS l' hl' _ hk).1, (hS l' hl' _ hk).2, bnd, bnd]
      simp only [Bool.not_eq_true] at h'; rw [h']
      refine ⟨?_, ?_⟩
      · simp only [spec_MultiplySeries.j0]; rw [if_pos (by simp)]
      · simp only [impl_MultiplySeries.j0]; rw [if_pos (by simp)]
  · refine ⟨[], 2, Or.inr ⟨by omega, rfl, fun h2 => absurd h2 h⟩, fun k hk => ?_⟩
    unfold spec_MultiplySeries.f impl_MultiplySeries.f
    obtain ⟨k, rfl⟩ := step_k hk
    rw [(hS l hl _ hk).1, (hS l hl _ hk).2, bnd, bnd, if_neg h, if_neg h]
    exact ⟨by simp only [spec_MultiplySeries.j0, if_true], by simp only [impl_MultiplySeries.j0, if_true]⟩
/-- times a power of t: nothing is ever too great, and what comes is the shift -/
theorem inn_pow (c e : List Int) (n K : Nat) (hc : c.all okN = true) (he : ∀ j, j < c.length → e.getD j 0 = if j = n then 1 else 0) (hK : K < c.length) :
    ∀ (m i : Nat) (s : Int), i + m = K + 1 → s = (if n ≤ K ∧ K - n < i then c.getD (K - n) 0 else 0) → inn c e K m i s = some (back c n K) := by
  intro m
  induction m with
  | zero =>
    intro i s h1 hs
    simp only [inn]; unfold back
    congr 1; rw [hs]
    by_cases h : n ≤ K
    · rw [if_pos ⟨h, by omega⟩, if_pos h]
    · rw [if_neg (by omega), if_neg h]
  | succ m ih =>
    intro i s h1 hs
    have ht : s + c.getD i 0 * e.getD (K - i) 0 = (if n ≤ K ∧ K - n < i + 1 then c.getD (K - n) 0 else 0) := by
      rw [he (K - i) (by omega), hs]
      by_cases h : K - i = n
      · rw [if_pos h, if_neg (by omega), if_pos (by omega), Int.mul_one, show K - n = i by omega]; simp
      · rw [if_neg h, Int.mul_zero, Int.add_zero]
        by_cases h2 : n ≤ K ∧ K - n < i
        · rw [if_pos h2, if_pos (by omega)]
        · rw [if_neg h2, if_neg (by omega)]
    simp only [inn]
    rw [ht, if_pos]
    · exact ih (i + 1) _ (by omega) rfl
    · split
      · exact okN_at hc _
      · rfl
/-- what is known of a row in the making: its length, and that no number is below 0 or above B -/
def Bd (B : Int) (n : Nat) (y : List Int) : Prop := y.length = n ∧ ∀ i, 0 ≤ y.getD i 0 ∧ y.getD i 0 ≤ B
/-- one degree, from i on: the numbers from place i on have been left at most B, those ahead of i may be up to (i + 1) B -/
theorem getD_set (y : List Int) (i j : Nat) (v : Int) (hi : i < y.length) : (y.set i v).getD j 0 = if j = i then v else y.getD j 0 := by
  simp only [List.getD_eq_getElem?_getD, List.getElem?_set]
  by_cases h : i = j
  · subst h; simp [hi]
  · rw [if_neg h, if_neg (fun e => h e.symm)]
/-- behind a degree's round at place i: at most B times (place + 1) ahead of i, at most B from i on -/
def Mid (B : Int) (n i : Nat) (y : List Int) : Prop :=
  y.length = n ∧ ∀ j : Nat, 0 ≤ y.getD j 0 ∧ (j < i → y.getD j 0 ≤ B * ((j : Int) + 1)) ∧ (i ≤ j → y.getD j 0 ≤ B)
/-- one degree's round, under whatever is kept of the row -/
theorem ways_deg (l : List Int) (kk : Nat) (hkk : kk ≤ 40) (q : Nat) (d : Nat) (hd1 : 1 ≤ d) (hq : q < l.length) (hdl : l.getD q 0 = (d : Int)) (Q : Nat → List Int → Prop)
    (hlen : ∀ i y, Q i y → y.length = kk + 1) (hin : ∀ i y, Q i y → d ≤ i → i ≤ kk → wrap64 (y.getD i 0 + y.getD (i - d) 0) = y.getD i 0 + y.getD (i - d) 0)
    (hst : ∀ i y, Q i y → d ≤ i → i ≤ kk → Q (i + 1) (y.set i (y.getD i 0 + y.getD (i - d) 0))) :
    ∀ (m : Nat) (i : Nat) (y : List Int), d ≤ i → i ≤ kk + 1 → kk + 1 - i = m → Q i y →
      ∃ z, Q (kk + 1) z ∧
        (∀ k, m < k → spec_l04Of.l1 k l kk y q i = spec_l04Of.l0 (k - m - 1) l kk z (wrap64 ((q : Int) + 1))) ∧
        (∀ k, m < k → impl_ways.l1 k kk y d i l l.length q = impl_ways.l0 (k - m - 1) kk z l l.length (wrap64 ((q : Int) + 1))) := by
  intro m
  induction m with
  | zero =>
    intro i y h1 h2 h3 hM
    have hi : i = kk + 1 := by omega
    subst hi
    refine ⟨y, hM, ?_, ?_⟩
    · intro k hk; obtain ⟨k, rfl⟩ := step_k hk
      simp only [spec_l04Of.l1]; rw [if_neg (by omega)]; simp
    · intro k hk; obtain ⟨k, rfl⟩ := step_k hk
      simp only [impl_ways.l1]; rw [if_neg (by omega)]; simp
  | succ m ih =>
    intro i y h1 h2 h3 hM
    have hy := hlen i y hM
    have e2 : wrap64 ((i : Int) + 1) = ((i + 1 : Nat) : Int) := by rw [wrap_in (by omega) (by omega)]; simp
    have e3 : wrap64 ((i : Int) - d) = ((i - d : Nat) : Int) := by rw [wrap_in (by omega) (by omega)]; omega
    have e4 : wrap64 (rd y i + rd y ((i - d : Nat) : Int)) = y.getD i 0 + y.getD (i - d) 0 := by
      simp only [rd, Int.toNat_natCast]; exact hin i y hM h1 (by omega)
    have hrd : rd l (q : Int) = (d : Int) := by simp only [rd, Int.toNat_natCast]; exact hdl
    obtain ⟨z, hz, g1, g2⟩ := ih (i + 1) _ (by omega) (by omega) (by omega) (hst i y hM h1 (by omega))
    refine ⟨z, hz, ?_, ?_⟩
    · intro k hk; obtain ⟨k, rfl⟩ := step_k hk
      simp only [spec_l04Of.l1]
      rw [if_pos (by omega), if_pos (by omega), if_pos (by omega), if_pos (by omega), if_pos (by omega), hrd, e3, if_pos (by omega), if_pos (by omega), e4, e2, Int.toNat_natCast]
      rw [g1 k (by omega)]; congr 1; omega
    · intro k hk; obtain ⟨k, rfl⟩ := step_k hk
      simp only [impl_ways.l1]
      rw [if_pos (by omega), if_pos (by omega), if_pos (by omega), e3, if_pos (by omega), if_pos (by omega), e4, e2, Int.toNat_natCast]
      rw [g2 k (by omega)]; congr 1; omega
theorem mid_sum {B : Int} {n i d : Nat} {y : List Int} (hB0 : 0 ≤ B) (h : Mid B n i y) (hd1 : 1 ≤ d) (h1 : d ≤ i) :
    0 ≤ y.getD i 0 + y.getD (i - d) 0 ∧ y.getD i 0 + y.getD (i - d) 0 ≤ B * ((i : Int) + 1) := by
  have ha := h.2 i
  have hb := h.2 (i - d)
  have hb2 := hb.2.1 (by omega)
  have hBi : B * (((i - d : Nat) : Int) + 1) ≤ B * (i : Int) := Int.mul_le_mul_of_nonneg_left (by omega) hB0
  have hBs : B * ((i : Int) + 1) = B * i + B := by rw [Int.mul_add, Int.mul_one]
  have ha3 := ha.2.2 (Nat.le_refl _)
  omega
theorem ways_mid (l : List Int) (kk : Nat) (hkk : kk ≤ 40) (B : Int) (hB0 : 0 ≤ B) (hB : B ≤ 1000000000000) (q : Nat) (d : Nat) (hd1 : 1 ≤ d) (hq : q < l.length) (hdl : l.getD q 0 = (d : Int)) :
    ∀ (m : Nat) (i : Nat) (y : List Int), d ≤ i → i ≤ kk + 1 → kk + 1 - i = m → Mid B (kk + 1) i y →
      ∃ z, Mid B (kk + 1) (kk + 1) z ∧
        (∀ k, m < k → spec_l04Of.l1 k l kk y q i = spec_l04Of.l0 (k - m - 1) l kk z (wrap64 ((q : Int) + 1))) ∧
        (∀ k, m < k → impl_ways.l1 k kk y d i l l.length q = impl_ways.l0 (k - m - 1) kk z l l.length (wrap64 ((q : Int) + 1))) :=
  ways_deg l kk hkk q d hd1 hq hdl (Mid B (kk + 1)) (fun _ _ h => h.1)
    (fun i y h h1 h2 => by
      have := mid_sum hB0 h hd1 h1
      have hBm : B * ((i : Int) + 1) ≤ B * 41 := Int.mul_le_mul_of_nonneg_left (by omega) hB0
      exact wrap_in (by omega) (by omega))
    (fun i y h h1 h2 => by
      have hs := mid_sum hB0 h hd1 h1
      refine ⟨by simpa using h.1, fun j => ?_⟩
      rw [getD_set _ _ _ _ (by rw [h.1]; omega)]
      have hj := h.2 j
      by_cases hji : j = i
      · subst hji; rw [if_pos rfl]; refine ⟨hs.1, fun _ => hs.2, fun h => by omega⟩
      · rw [if_neg hji]; exact ⟨hj.1, fun h => hj.2.1 (by omega), fun h => hj.2.2 (by omega)⟩)
/-- the first degree's round: 0 and 1 -/
def Fst (n i : Nat) (y : List Int) : Prop := y.length = n ∧ ∀ j : Nat, 0 ≤ y.getD j 0 ∧ y.getD j 0 ≤ 1 ∧ (i ≤ j → 1 ≤ j → y.getD j 0 = 0)
theorem ways_fst (l : List Int) (kk : Nat) (hkk : kk ≤ 40) (q : Nat) (d : Nat) (hd1 : 1 ≤ d) (hq : q < l.length) (hdl : l.getD q 0 = (d : Int)) :
    ∀ (m : Nat) (i : Nat) (y : List Int), d ≤ i → i ≤ kk + 1 → kk + 1 - i = m → Fst (kk + 1) i y →
      ∃ z, Fst (kk + 1) (kk + 1) z ∧
        (∀ k, m < k → spec_l04Of.l1 k l kk y q i = spec_l04Of.l0 (k - m - 1) l kk z (wrap64 ((q : Int) + 1))) ∧
        (∀ k, m < k → impl_ways.l1 k kk y d i l l.length q = impl_ways.l0 (k - m - 1) kk z l l.length (wrap64 ((q : Int) + 1))) :=
  ways_deg l kk hkk q d hd1 hq hdl (Fst (kk + 1)) (fun _ _ h => h.1)
    (fun i y h h1 h2 => by have a := h.2 i; have b := h.2 (i - d); exact wrap_in (by omega) (by omega))
    (fun i y h h1 h2 => by
      refine ⟨by simpa using h.1, fun j => ?_⟩
      rw [getD_set _ _ _ _ (by rw [h.1]; omega)]
      have hj := h.2 j
      have a := h.2 i
      have a3 := a.2.2 (Nat.le_refl _) (by omega)
      have b := h.2 (i - d)
      by_cases hji : j = i
      · subst hji; rw [if_pos rfl]; refine ⟨by omega, by omega, fun h => by omega⟩
      · rw [if_neg hji]; exact ⟨hj.1, hj.2.1, fun h => hj.2.2 (by omega)⟩)
/-- the numbers behind one more degree are at most 41 times as great -/
theorem mid_bd {B : Int} {n : Nat} {z : List Int} (hB : 0 ≤ B) (hn : n ≤ 41) (h : Mid B n n z) : Bd (B * 41) n z := by
  refine ⟨h.1, fun i => ⟨(h.2 i).1, ?_⟩⟩
  by_cases hi : i < n
  · have h1 := (h.2 i).2.1 hi
    have h2 : B * ((i : Int) + 1) ≤ B * 41 := Int.mul_le_mul_of_nonneg_left (by omega) hB
    omega
  · have h1 := (h.2 i).2.2 (by omega)
    have : B * 1 ≤ B * 41 := Int.mul_le_mul_of_nonneg_left (by omega) hB
    omega
theorem bd_mid {B : Int} {n i : Nat} {y : List Int} (hB : 0 ≤ B) (h : Bd B n y) : Mid B n i y := by
  refine ⟨h.1, fun j => ⟨(h.2 j).1, fun _ => ?_, fun _ => (h.2 j).2⟩⟩
  have h1 := (h.2 j).2
  have : B * 1 ≤ B * ((j : Int) + 1) := Int.mul_le_mul_of_nonneg_left (by omega) hB
  omega
def up : Int → Nat → Int
  | B, 0 => B
  | B, m + 1 => up (B * 41) m
theorem up_ge : ∀ (m : Nat) (B : Int), 0 ≤ B → B ≤ up B m
  | 0, B, _ => Int.le_refl _
  | m + 1, B, h => by have := up_ge m (B * 41) (by omega); simp only [up]; omega
theorem ways_all (l : List Int) (kk : Nat) (hkk : kk ≤ 40) (hl : l.all okD = true) (hn : l.length ≤ 6) :
    ∀ (m : Nat) (q : Nat) (B : Int) (y : List Int), q ≤ l.length → l.length - q = m → 0 ≤ B → up B m ≤ 1000000000000 → Bd B (kk + 1) y →
      ∃ z, Bd (up B m) (kk + 1) z ∧ (∀ k, m * 44 < k → spec_l04Of.l0 k l kk y q = some z) ∧ (∀ k, m * 44 < k → impl_ways.l0 k kk y l l.length q = some z) := by
  intro m
  induction m with
  | zero =>
    intro q B y h1 h2 hB0 hB hy
    have hq : q = l.length := by omega
    subst hq
    refine ⟨y, hy, ?_, ?_⟩
    · intro k hk; obtain ⟨k, rfl⟩ := step_k hk
      simp only [spec_l04Of.l0]; rw [if_neg (by omega)]
    · intro k hk; obtain ⟨k, rfl⟩ := step_k hk
      simp only [impl_ways.l0]; rw [if_neg (by omega)]
  | succ m ih =>
    intro q B y h1 h2 hB0 hB hy
    have hq : q < l.length := by omega
    obtain ⟨d1, d2⟩ := okD_at hl q hq
    obtain ⟨d, hd⟩ : ∃ d : Nat, l.getD q 0 = (d : Int) := ⟨(l.getD q 0).toNat, by omega⟩
    simp only [up] at hB ⊢
    have hp2 := up_ge m (B * 41) (by omega)
    have e2 : wrap64 ((q : Int) + 1) = ((q + 1 : Nat) : Int) := by rw [wrap_in (by omega) (by omega)]; simp
    have hrd : rd l (q : Int) = (d : Int) := by simp only [rd, Int.toNat_natCast]; exact hd
    by_cases hdk : d ≤ kk + 1
    · obtain ⟨z1, hz1, g1, g2⟩ := ways_mid l kk hkk B hB0 (by omega) q d (by omega) hq hd (kk + 1 - d) d y (Nat.le_refl _) hdk rfl (bd_mid hB0 hy)
      obtain ⟨z, hz, f1, f2⟩ := ih (q + 1) (B * 41) z1 (by omega) (by omega) (by omega) (by omega) (mid_bd hB0 (by omega) hz1)
      refine ⟨z, hz, ?_, ?_⟩
      · intro k hk; obtain ⟨k, rfl⟩ := step_k hk
        simp only [spec_l04Of.l0]; rw [if_pos (by omega), if_pos (by omega), hrd, g1 k (by omega), e2]
        exact f1 _ (by omega)
      · intro k hk; obtain ⟨k, rfl⟩ := step_k hk
        simp only [impl_ways.l0]; rw [if_pos (by omega), if_pos (by omega), if_pos (by omega), hrd, g2 k (by omega), e2]
        exact f2 _ (by omega)
    · obtain ⟨z, hz, f1, f2⟩ := ih (q + 1) (B * 41) y (by omega) (by omega) (by omega) (by omega) (mid_bd hB0 (by omega) (bd_mid hB0 hy))
      refine ⟨z, hz, ?_, ?_⟩
      · intro k hk; obtain ⟨k, rfl⟩ := step_k hk
        simp only [spec_l04Of.l0]; rw [if_pos (by omega), if_pos (by omega), hrd]
        obtain ⟨k, rfl⟩ := step_k (n := m * 44) (k := k) (by omega)
        simp only [spec_l04Of.l1]; rw [if_neg (by omega), e2]
        exact f1 _ (by omega)
      · intro k hk; obtain ⟨k, rfl⟩ := step_k hk
        simp only [impl_ways.l0]; rw [if_pos (by omega), if_pos (by omega), if_pos (by omega), hrd]
        obtain ⟨k, rfl⟩ := step_k (n := m * 44) (k := k) (by omega)
        simp only [impl_ways.l1]; rw [if_neg (by omega), e2]
        exact f2 _ (by omega)
theorem start_is (kk : Nat) : Fst (kk + 1) 1 ((List.replicate (kk + 1) (0 : Int)).set 0 1) := by
  refine ⟨by simp, fun i => ?_⟩
  rw [getD_set _ _ _ _ (by simp)]
  by_cases h : i = 0
  · rw [if_pos h]; omega
  · rw [if_neg h]; simp only [List.getD_eq_getElem?_getD, List.getElem?_replicate]; split <;> simp
theorem fst_bd {n i : Nat} {y : List Int} (h : Fst n i y) : Bd 1 n y := ⟨h.1, fun j => ⟨(h.2 j).1, (h.2 j).2.1⟩⟩
theorem fst_later {n i j : Nat} {y : List Int} (h : Fst n i y) (hij : i ≤ j) : Fst n j y := ⟨h.1, fun p => ⟨(h.2 p).1, (h.2 p).2.1, fun hp => (h.2 p).2.2 (by omega)⟩⟩
theorem up5 : ∀ m, m ≤ 5 → up 1 m ≤ 115856201 := by decide
theorem cnt_loop : ∀ (suf pre : List Int) (k : Nat), suf.length < k → (pre ++ suf).length ≤ 41 → (∀ x ∈ suf, 0 ≤ x ∧ x ≤ 1000000000) →
    impl_SeriesOfDegrees.l0 k (pre ++ suf) (pre ++ suf) ((pre ++ suf).length : Int) pre.length = some (pre ++ suf, 0) := by
  intro suf
  induction suf with
  | nil =>
    intro pre k hk _ _
    obtain ⟨k, rfl⟩ := step_k hk
    simp only [impl_SeriesOfDegrees.l0]; rw [if_neg (by simp)]
  | cons a suf ih =>
    intro pre k hk hl hx
    obtain ⟨k, rfl⟩ := step_k hk
    simp only [List.length_append, List.length_cons] at hl hk
    have e2 : wrap64 ((pre.length : Int) + 1) = ((pre ++ [a]).length : Int) := by rw [wrap_in (by omega) (by omega)]; simp
    have ha := hx a (by simp)
    have e3 : impl_isCount.f a = some true := by unfold impl_isCount.f; rw [if_pos (by omega)]; simp; omega
    simp only [impl_SeriesOfDegrees.l0]
    rw [if_pos (by simp only [List.length_append, List.length_cons]; omega), if_pos (by omega), if_pos (by simp only [List.length_append, List.length_cons]; omega), rd_mid, e3]; simp only [Option.bind_some, if_true]
    rw [e2]
    have := ih (pre ++ [a]) k (by omega) (by simp; omega) (fun x h => hx x (by simp [h]))
    simpa using this
/-- one degree's round at place i, over what it began with -/
def Ch (y0 : List Int) (d n i : Nat) (y : List Int) : Prop := ∀ j, j < n → (j < i → y.getD j 0 = y0.getD j 0 + back y d j) ∧ (i ≤ j → y.getD j 0 = y0.getD j 0)
theorem ch_start (y0 : List Int) (d n : Nat) : Ch y0 d n d y0 := by
  intro j _
  refine ⟨fun h => ?_, fun _ => rfl⟩
  unfold back; rw [if_neg (by omega)]; simp
theorem ch_step {y0 : List Int} {d n i : Nat} {y : List Int} (hd : 1 ≤ d) (hl : i < y.length) (h1 : d ≤ i) (h : Ch y0 d n i y) :
    Ch y0 d n (i + 1) (y.set i (y.getD i 0 + y.getD (i - d) 0)) := by
  intro j hj
  have hbk : ∀ j, j ≤ i → back (y.set i (y.getD i 0 + y.getD (i - d) 0)) d j = back y d j := by
    intro j hj
    unfold back
    by_cases hh : d ≤ j
    · rw [if_pos hh, if_pos hh, getD_put _ _ _ _ hl, if_neg (by omega)]
    · rw [if_neg hh, if_neg hh]
  refine ⟨fun hji => ?_, fun hji => ?_⟩
  · rw [hbk j (by omega), getD_put _ _ _ _ hl]
    by_cases hh : i = j
    · subst hh; rw [if_pos rfl, (h i hj).2 (Nat.le_refl _)]; unfold back; rw [if_pos h1]
    · rw [if_neg hh]; exact (h j hj).1 (by omega)
  · rw [getD_put _ _ _ _ hl, if_neg (by omega)]; exact (h j hj).2 (by omega)
theorem ch_end {y0 : List Int} {d n : Nat} {y : List Int} (h0 : y0.length = n) (hy : y.length = n) (h : Ch y0 d n n y) : news y d = y0 := by
  refine ext_getD (by rw [news_len]; omega) (fun j hj => ?_)
  rw [news_len] at hj
  rw [news_at _ _ _ hj]; unfold new
  have := (h j (by omega)).1 (by omega)
  omega
theorem news_low (y : List Int) (d : Nat) (h : y.length ≤ d) : news y d = y := by
  refine ext_getD (news_len _ _) (fun j hj => ?_)
  rw [news_len] at hj
  rw [news_at _ _ _ hj]; unfold new back; rw [if_neg (by omega)]; simp
theorem ways_mid2 (l : List Int) (kk : Nat) (hkk : kk ≤ 40) (B : Int) (hB0 : 0 ≤ B) (hB : B ≤ 1000000000000) (q : Nat) (d : Nat) (hd1 : 1 ≤ d) (hq : q < l.length) (hdl : l.getD q 0 = (d : Int)) (y0 : List Int) :
    ∀ (m : Nat) (i : Nat) (y : List Int), d ≤ i → i ≤ kk + 1 → kk + 1 - i = m → Mid B (kk + 1) i y ∧ Ch y0 d (kk + 1) i y →
      ∃ z, (Mid B (kk + 1) (kk + 1) z ∧ Ch y0 d (kk + 1) (kk + 1) z) ∧
        (∀ k, m < k → spec_l04Of.l1 k l kk y q i = spec_l04Of.l0 (k - m - 1) l kk z (wrap64 ((q : Int) + 1))) ∧
        (∀ k, m < k → impl_ways.l1 k kk y d i l l.length q = impl_ways.l0 (k - m - 1) kk z l l.length (wrap64 ((q : Int) + 1))) :=
  ways_deg l kk hkk q d hd1 hq hdl (fun i y => Mid B (kk + 1) i y ∧ Ch y0 d (kk + 1) i y) (fun _ _ h => h.1.1)
    (fun i y h h1 h2 => by
      have := mid_sum hB0 h.1 hd1 h1
      have hBm : B * ((i : Int) + 1) ≤ B * 41 := Int.mul_le_mul_of_nonneg_left (by omega) hB0
      exact wrap_in (by omega) (by omega))
    (fun i y hh h1 h2 => by
      have h := hh.1
      have hs := mid_sum hB0 h hd1 h1
      refine ⟨⟨by simpa using h.1, fun j => ?_⟩, ch_step hd1 (by rw [h.1]; omega) h1 hh.2⟩
      rw [getD_set _ _ _ _ (by rw [h.1]; omega)]
      have hj := h.2 j
      by_cases hji : j = i
      · subst hji; rw [if_pos rfl]; refine ⟨hs.1, fun _ => hs.2, fun h => by omega⟩
      · rw [if_neg hji]; exact ⟨hj.1, fun h => hj.2.1 (by omega), fun h => hj.2.2 (by omega)⟩)
theorem ways_fst2 (l : List Int) (kk : Nat) (hkk : kk ≤ 40) (q : Nat) (d : Nat) (hd1 : 1 ≤ d) (hq : q < l.length) (hdl : l.getD q 0 = (d : Int)) (y0 : List Int) :
    ∀ (m : Nat) (i : Nat) (y : List Int), d ≤ i → i ≤ kk + 1 → kk + 1 - i = m → Fst (kk + 1) i y ∧ Ch y0 d (kk + 1) i y →
      ∃ z, (Fst (kk + 1) (kk + 1) z ∧ Ch y0 d (kk + 1) (kk + 1) z) ∧
        (∀ k, m < k → spec_l04Of.l1 k l kk y q i = spec_l04Of.l0 (k - m - 1) l kk z (wrap64 ((q : Int) + 1))) ∧
        (∀ k, m < k → impl_ways.l1 k kk y d i l l.length q = impl_ways.l0 (k - m - 1) kk z l l.length (wrap64 ((q : Int) + 1))) :=
  ways_deg l kk hkk q d hd1 hq hdl (fun i y => Fst (kk + 1) i y ∧ Ch y0 d (kk + 1) i y) (fun _ _ h => h.1.1)
    (fun i y h h1 h2 => by have a := h.1.2 i; have b := h.1.2 (i - d); exact wrap_in (by omega) (by omega))
    (fun i y hh h1 h2 => by
      have h := hh.1
      refine ⟨⟨by simpa using h.1, fun j => ?_⟩, ch_step hd1 (by rw [h.1]; omega) h1 hh.2⟩
      rw [getD_set _ _ _ _ (by rw [h.1]; omega)]
      have hj := h.2 j
      have a := h.2 i
      have a3 := a.2.2 (Nat.le_refl _) (by omega)
      have b := h.2 (i - d)
      by_cases hji : j = i
      · subst hji; rw [if_pos rfl]; refine ⟨by omega, by omega, fun h => by omega⟩
      · rw [if_neg hji]; exact ⟨hj.1, hj.2.1, fun h => hj.2.2 (by omega)⟩)
/-- degree after degree taken out -/
def fd (l : List Int) (y : List Int) : List Int := l.foldl (fun y d => news y d.toNat) y
theorem fd_cons (d : Int) (l y : List Int) : fd (d :: l) y = fd l (news y d.toNat) := rfl
theorem fd_snoc (d : Int) (l y : List Int) : fd (l ++ [d]) y = news (fd l y) d.toNat := by simp [fd]
theorem back_at (y : List Int) (d e j : Nat) (hj : j < y.length) : back (news y d) e j = if e ≤ j then new y d (j - e) else 0 := by
  unfold back
  by_cases h : e ≤ j
  · rw [if_pos h, if_pos h, news_at _ _ _ (by omega)]
  · rw [if_neg h, if_neg h]
theorem news_comm (y : List Int) (d e : Nat) : news (news y d) e = news (news y e) d := by
  refine ext_getD (by simp [news_len]) (fun j hj => ?_)
  simp only [news_len] at hj
  rw [news_at _ _ _ (by rw [news_len]; exact hj), news_at _ _ _ (by rw [news_len]; exact hj)]
  simp only [new]
  rw [back_at _ _ _ _ hj, back_at _ _ _ _ hj, news_at _ _ _ hj, news_at _ _ _ hj]
  simp only [new, back]
  by_cases h1 : e ≤ j <;> by_cases h2 : d ≤ j <;> simp only [h1, h2, if_true, if_false]
  · by_cases h3 : d ≤ j - e
    · rw [if_pos h3, if_pos (by omega), show j - e - d = j - d - e by omega]; omega
    · rw [if_neg h3, if_neg (by omega)]; omega
  · rw [if_neg (by omega)]; omega
  · rw [if_neg (by omega)]; omega
theorem fd_news (l : List Int) : ∀ (y : List Int) (d : Nat), fd l (news y d) = news (fd l y) d := by
  induction l with
  | nil => intro y d; rfl
  | cons e l ih => intro y d; rw [fd_cons, fd_cons, news_comm, ih]
theorem fd_rev (l : List Int) : ∀ y, fd l.reverse y = fd l y := by
  induction l with
  | nil => intro y; rfl
  | cons e l ih => intro y; rw [List.reverse_cons, fd_snoc, fd_cons, fd_news, ih]
theorem fd_len (l : List Int) : ∀ y, (fd l y).length = y.length := by
  induction l with
  | nil => intro y; rfl
  | cons e l ih => intro y; rw [fd_cons, ih, news_len]
theorem drop_at (l : List Int) (q : Nat) (hq : q < l.length) : l.drop q = l.getD q 0 :: l.drop (q + 1) := by
  rw [List.drop_eq_getElem_cons hq]; simp [List.getD_eq_getElem?_getD, List.getElem?_eq_getElem hq]
theorem ways_all2 (l : List Int) (kk : Nat) (hkk : kk ≤ 40) (hl : l.all okD = true) (hn : l.length ≤ 8) :
    ∀ (m : Nat) (q : Nat) (B : Int) (y : List Int), q ≤ l.length → l.length - q = m → 0 ≤ B → up B m ≤ 1000000000000 → Bd B (kk + 1) y →
      ∃ z, (Bd (up B m) (kk + 1) z ∧ fd (l.drop q) z = y) ∧ (∀ k, m * 44 < k → spec_l04Of.l0 k l kk y q = some z) ∧ (∀ k, m * 44 < k → impl_ways.l0 k kk y l l.length q = some z) := by
  intro m
  induction m with
  | zero =>
    intro q B y h1 h2 hB0 hB hy
    have hq : q = l.length := by omega
    subst hq
    refine ⟨y, ⟨hy, by simp [fd]⟩, ?_, ?_⟩
    · intro k hk; obtain ⟨k, rfl⟩ := step_k hk
      simp only [spec_l04Of.l0]; rw [if_neg (by omega)]
    · intro k hk; obtain ⟨k, rfl⟩ := step_k hk
      simp only [impl_ways.l0]; rw [if_neg (by omega)]
  | succ m ih =>
    intro q B y h1 h2 hB0 hB hy
    have hq : q < l.length := by omega
    obtain ⟨d1, d2⟩ := okD_at hl q hq
    obtain ⟨d, hd⟩ : ∃ d : Nat, l.getD q 0 = (d : Int) := ⟨(l.getD q 0).toNat, by omega⟩
    simp only [up] at hB ⊢
    have hp2 := up_ge m (B * 41) (by omega)
    have e2 : wrap64 ((q : Int) + 1) = ((q + 1 : Nat) : Int) := by rw [wrap_in (by omega) (by omega)]; simp
    have hrd : rd l (q : Int) = (d : Int) := by simp only [rd, Int.toNat_natCast]; exact hd
    have hdr := drop_at l q hq
    rw [hd] at hdr
    by_cases hdk : d ≤ kk + 1
    · obtain ⟨z1, ⟨hz1, hc1⟩, g1, g2⟩ := ways_mid2 l kk hkk B hB0 (by omega) q d (by omega) hq hd y (kk + 1 - d) d y (Nat.le_refl _) hdk rfl ⟨bd_mid hB0 hy, ch_start _ _ _⟩
      obtain ⟨z, ⟨hz, hf⟩, f1, f2⟩ := ih (q + 1) (B * 41) z1 (by omega) (by omega) (by omega) (by omega) (mid_bd hB0 (by omega) hz1)
      refine ⟨z, ⟨hz, ?_⟩, ?_, ?_⟩
      · rw [hdr, fd_cons, fd_news, hf, Int.toNat_natCast]; exact ch_end hy.1 hz1.1 hc1
      · intro k hk; obtain ⟨k, rfl⟩ := step_k hk
        simp only [spec_l04Of.l0]; rw [if_pos (by omega), if_pos (by omega), hrd, g1 k (by omega), e2]
        exact f1 _ (by omega)
      · intro k hk; obtain ⟨k, rfl⟩ := step_k hk
        simp only [impl_ways.l0]; rw [if_pos (by omega), if_pos (by omega), if_pos (by omega), hrd, g2 k (by omega), e2]
        exact f2 _ (by omega)
    · obtain ⟨z, ⟨hz, hf⟩, f1, f2⟩ := ih (q + 1) (B * 41) y (by omega) (by omega) (by omega) (by omega) (mid_bd hB0 (by omega) (bd_mid hB0 hy))
      refine ⟨z, ⟨hz, ?_⟩, ?_, ?_⟩
      · rw [hdr, fd_cons, fd_news, hf, Int.toNat_natCast]; exact news_low _ _ (by have := hy.1; omega)
      · intro k hk; obtain ⟨k, rfl⟩ := step_k hk
        simp only [spec_l04Of.l0]; rw [if_pos (by omega), if_pos (by omega), hrd]
        obtain ⟨k, rfl⟩ := step_k (n := m * 44) (k := k) (by omega)
        simp only [spec_l04Of.l1]; rw [if_neg (by omega), e2]
        exact f1 _ (by omega)
      · intro k hk; obtain ⟨k, rfl⟩ := step_k hk
        simp only [impl_ways.l0]; rw [if_pos (by omega), if_pos (by omega), if_pos (by omega), hrd]
        obtain ⟨k, rfl⟩ := step_k (n := m * 44) (k := k) (by omega)
        simp only [impl_ways.l1]; rw [if_neg (by omega), e2]
        exact f2 _ (by omega)
def one (kk : Nat) : List Int := (List.replicate (kk + 1) (0 : Int)).set 0 1
theorem up7 : ∀ m, m ≤ 7 → up 1 m ≤ 1000000000000 := by decide
theorem up_le : ∀ n, n ≤ 7 → ∀ m, m ≤ n → up 1 m ≤ up 1 n := by decide
theorem up5e : up 1 5 = 115856201 := by decide
/-- what both compute from the start on -/
theorem ways_both2 (l : List Int) (kk : Nat) (hkk : kk ≤ 40) (b : Nat) (hb : b ≤ 7) (hl : l.all okD = true) (hn : l.length ≤ b + 1) :
    ∃ z, (Bd (up 1 b) (kk + 1) z ∧ fd l z = one kk) ∧ (∀ k, 400 < k → spec_l04Of.f k l kk = some z) ∧ (∀ k, 400 < k → impl_ways.f k l kk = some z) := by
  have e1 : wrap64 ((kk : Int) + 1) = ((kk + 1 : Nat) : Int) := by rw [wrap_in (by omega) (by omega)]; simp
  suffices h : ∃ z, (Bd (up 1 b) (kk + 1) z ∧ fd l z = one kk) ∧ (∀ k, 400 < k → spec_l04Of.l0 k l kk (one kk) ((0 : Nat) : Int) = some z) ∧
      (∀ k, 400 < k → impl_ways.l0 k kk (one kk) l l.length ((0 : Nat) : Int) = some z) by
    obtain ⟨z, hz, h1, h2⟩ := h
    refine ⟨z, hz, fun k hk => ?_, fun k hk => ?_⟩
    · unfold spec_l04Of.f; rw [e1, if_pos (by omega), if_pos (by simp; omega)]; simp only [Option.bind_some]
      rw [if_pos (by simp only [List.length_replicate, Int.toNat_natCast]; omega)]; exact h1 k hk
    · unfold impl_ways.f; rw [e1, if_pos (by omega), if_pos (by simp; omega)]; simp only [Option.bind_some]
      rw [if_pos (by simp only [List.length_replicate, Int.toNat_natCast]; omega)]; exact h2 k hk
  by_cases h0 : l.length = 0
  · have hl0 : l = [] := List.eq_nil_of_length_eq_zero h0
    subst hl0
    refine ⟨_, ⟨⟨(start_is kk).1, fun i => ?_⟩, rfl⟩, fun k hk => ?_, fun k hk => ?_⟩
    · have := (start_is kk).2 i; have := up_ge b 1 (by omega); omega
    · obtain ⟨k, rfl⟩ := step_k hk; simp only [spec_l04Of.l0]; rw [if_neg (by simp)]; rfl
    · obtain ⟨k, rfl⟩ := step_k hk; simp only [impl_ways.l0]; rw [if_neg (by simp)]; rfl
  · obtain ⟨d1, d2⟩ := okD_at hl 0 (by omega)
    obtain ⟨d, hd⟩ : ∃ d : Nat, l.getD 0 0 = (d : Int) := ⟨(l.getD 0 0).toNat, by omega⟩
    have hrd : rd l ((0 : Nat) : Int) = (d : Int) := by simp only [rd, Int.toNat_natCast]; exact hd
    have e2 : wrap64 (((0 : Nat) : Int) + 1) = ((1 : Nat) : Int) := by rw [wrap_in (by omega) (by omega)]; simp
    have hdr := drop_at l 0 (by omega)
    rw [hd, List.drop_zero] at hdr
    by_cases hdk : d ≤ kk + 1
    · obtain ⟨z1, ⟨hz1, hc1⟩, g1, g2⟩ := ways_fst2 l kk hkk 0 d (by omega) (by omega) hd (one kk) (kk + 1 - d) d (one kk) (Nat.le_refl _) hdk rfl ⟨fst_later (start_is kk) (by omega), ch_start _ _ _⟩
      obtain ⟨z, ⟨hz, hf⟩, f1, f2⟩ := ways_all2 l kk hkk hl (by omega) (l.length - 1) 1 1 z1 (by omega) (by omega) (by omega) (up7 _ (by omega)) (fst_bd hz1)
      refine ⟨z, ⟨⟨hz.1, fun i => ⟨(hz.2 i).1, ?_⟩⟩, ?_⟩, ?_, ?_⟩
      · have h1 := (hz.2 i).2
        have := up_le b hb (l.length - 1) (by omega)
        omega
      · rw [hdr, fd_cons, fd_news, hf, Int.toNat_natCast]; exact ch_end (start_is kk).1 hz1.1 hc1
      · intro k hk; obtain ⟨k, rfl⟩ := step_k hk
        simp only [spec_l04Of.l0]; rw [if_pos (by omega), if_pos (by omega), hrd, g1 k (by omega), e2]
        exact f1 _ (by omega)
      · intro k hk; obtain ⟨k, rfl⟩ := step_k hk
        simp only [impl_ways.l0]; rw [if_pos (by omega), if_pos (by omega), if_pos (by omega), hrd, g2 k (by omega), e2]
        exact f2 _ (by omega)
    · obtain ⟨z, ⟨hz, hf⟩, f1, f2⟩ := ways_all2 l kk hkk hl (by omega) (l.length - 1) 1 1 (one kk) (by omega) (by omega) (by omega) (up7 _ (by omega)) (fst_bd (start_is kk))
      refine ⟨z, ⟨⟨hz.1, fun i => ⟨(hz.2 i).1, ?_⟩⟩, ?_⟩, ?_, ?_⟩
      · have h1 := (hz.2 i).2
        have := up_le b hb (l.length - 1) (by omega)
        omega
      · rw [hdr, fd_cons, fd_news, hf, Int.toNat_natCast]; exact news_low _ _ (by have := (start_is kk).1; unfold one; omega)
      · intro k hk; obtain ⟨k, rfl⟩ := step_k hk
        simp only [spec_l04Of.l0]; rw [if_pos (by omega), if_pos (by omega), hrd]
        obtain ⟨k, rfl⟩ := step_k (n := 300) (k := k) (by omega)
        simp only [spec_l04Of.l1]; rw [if_neg (by omega), e2]
        exact f1 _ (by omega)
      · intro k hk; obtain ⟨k, rfl⟩ := step_k hk
        simp only [impl_ways.l0]; rw [if_pos (by omega), if_pos (by omega), if_pos (by omega), hrd]
        obtain ⟨k, rfl⟩ := step_k (n := 300) (k := k) (by omega)
        simp only [impl_ways.l1]; rw [if_neg (by omega), e2]
        exact f2 _ (by omega)
/-- nothing below 0 behind what all degrees take out: nothing below 0 ahead of it -/
theorem news_nn (y : List Int) (d : Nat) (hd : 1 ≤ d) (h : ∀ j, 0 ≤ (news y d).getD j 0) : ∀ j, 0 ≤ y.getD j 0 := by
  intro j
  induction j using Nat.strongRecOn with
  | ind j ih =>
    by_cases hj : j < y.length
    · have h1 := h j
      rw [news_at _ _ _ hj] at h1
      unfold new back at h1
      by_cases hh : d ≤ j
      · rw [if_pos hh] at h1; have := ih (j - d) (by omega); omega
      · rw [if_neg hh] at h1; omega
    · rw [List.getD_eq_getElem?_getD, List.getElem?_eq_none (by omega)]; simp
theorem fd_nn (l : List Int) (hl : l.all okD = true) : ∀ y, (∀ j, 0 ≤ (fd l y).getD j 0) → ∀ j, 0 ≤ y.getD j 0 := by
  induction l with
  | nil => intro y h; exact h
  | cons e l ih =>
    intro y h
    simp only [List.all_cons, Bool.and_eq_true] at hl
    rw [fd_cons] at h
    refine news_nn y e.toNat ?_ (ih hl.2 _ h)
    have := hl.1; simp only [okD, Bool.and_eq_true, decide_eq_true_eq] at this; omega
theorem sh_loop (l : List Int) (a : Nat) (hl : l.length ≤ 41) (ha : a ≤ 40) : ∀ (d k : Nat) (x : List Int) (i : Nat), a ≤ i → l.length - i = d → d < k → x.length = l.length →
    ∃ r, r.length = l.length ∧ spec_l04Shift.l0 k l a x i = some r ∧ impl_ShiftSeries.l0 k l a x i = some (r, 0) := by
  intro d
  induction d with
  | zero =>
    intro k x i h1 hd hk hx
    obtain ⟨k, rfl⟩ := step_k hk
    refine ⟨x, hx, ?_, ?_⟩
    · simp only [spec_l04Shift.l0]; rw [if_neg (by omega)]
    · simp only [impl_ShiftSeries.l0]; rw [if_neg (by omega)]
  | succ d ih =>
    intro k x i h1 hd hk hx
    obtain ⟨k, rfl⟩ := step_k hk
    have e2 : wrap64 ((i : Int) + 1) = ((i + 1 : Nat) : Int) := by rw [wrap_in (by omega) (by omega)]; simp
    have e3 : wrap64 ((i : Int) - a) = (i : Int) - a := wrap_in (by omega) (by omega)
    obtain ⟨r, hr, h2, h3⟩ := ih k (x.set (i : Int).toNat (rd l ((i : Int) - a))) (i + 1) (by omega) (by omega) (by omega) (by simpa using hx)
    refine ⟨r, hr, ?_, ?_⟩
    · simp only [spec_l04Shift.l0]; rw [if_pos (by omega), e3, if_pos (by omega), if_pos (by omega), if_pos (by omega), if_pos (by omega), e2]; exact h2
    · simp only [impl_ShiftSeries.l0]; rw [if_pos (by omega), e3, if_pos (by omega), if_pos (by omega), if_pos (by omega), if_pos (by omega), e2]; exact h3
theorem sameSh (l : List Int) (a : Int) (k : Nat) (hk : l.length + 5 < k) (hl : l.length ≤ 1048576) : ∃ r c, r.length ≤ 41 ∧ spec_ShiftSeries.f k l a = some (r, c) ∧ impl_ShiftSeries.f k l a = some (r, c) := by
  obtain ⟨k, rfl⟩ := step_k hk
  unfold spec_ShiftSeries.f impl_ShiftSeries.f
  rw [isS_is l _ (by omega) hl, isI_is l _ (by omega) hl]
  simp only [Option.bind_some]
  by_cases h : okS l = true
  · rw [if_pos h, if_pos h]
    obtain ⟨hl1, hl2⟩ := okS_len h
    by_cases h0 : 0 ≤ a
    · by_cases h1 : a ≤ 40
      · have e : spec_l01In.f a 0 40 = some true := by unfold spec_l01In.f; rw [if_pos h0]; simp [h1]
        obtain ⟨r, hr, h2, _⟩ := sh_loop l a.toNat hl2 (by omega) (l.length - a.toNat) (k + 1) (List.replicate l.length 0) a.toNat (Nat.le_refl _) rfl (by omega) (by simp)
        obtain ⟨r', hr', h2', h3⟩ := sh_loop l a.toNat hl2 (by omega) (l.length - a.toNat) k (List.replicate l.length 0) a.toNat (Nat.le_refl _) rfl (by omega) (by simp)
        have ea : (a.toNat : Int) = a := by omega
        rw [ea] at h2 h2' h3
        have hrr : r = r' := by
          have := spec_l04Shift.mono_l k _ _ _ _ _ h2'
          rw [h2] at this; simpa using this
        subst hrr
        refine ⟨r, 0, by omega, ?_, ?_⟩
        · rw [e]; simp only [Option.bind_some, if_true]
          unfold spec_l04Shift.f; rw [if_pos (by omega), if_pos (by simp; omega)]; simp only [Int.toNat_natCast]; rw [h2]; rfl
        · rw [if_neg (by omega), decide_eq_false (by omega)]; simp only [impl_ShiftSeries.j0]; rw [if_neg (by simp), if_pos (by omega), if_pos (by simp; omega)]
          simp only [Int.toNat_natCast]; exact h3
      · have e : spec_l01In.f a 0 40 = some false := by unfold spec_l01In.f; rw [if_pos h0]; simp [h1]
        refine ⟨[], 2, by simp, ?_, ?_⟩
        · rw [e]; rfl
        · rw [if_neg (by omega), decide_eq_true (by omega)]; rfl
    · have e : spec_l01In.f a 0 40 = some false := by unfold spec_l01In.f; rw [if_neg h0]
      refine ⟨[], 2, by simp, ?_, ?_⟩
      · rw [e]; rfl
      · rw [if_pos (by omega)]; rfl
  · rw [if_neg h, if_neg h]
    exact ⟨[], 2, by simp, rfl, rfl⟩
/-- what is told with enough rounds is told with more -/
theorem more {α : Type} {f : Nat → Option α} (hm : ∀ k, LeO (f k) (f (k + 1))) {n : Nat} {v : α} (h : f n = some v) : ∀ k, n ≤ k → f k = some v := by
  intro k hk
  obtain ⟨d, rfl⟩ : ∃ d, k = n + d := ⟨k - n, by omega⟩
  clear hk
  induction d with
  | zero => exact h
  | succ d ih => exact hm _ _ ih
/-- a list drawn, and a source that goes on -/
theorem list_l1 (s : List Int) (p q : Int) : ∀ (m : Nat) (x : List Int), m ≤ x.length → x.length + m ≤ 200 →
    ∃ r, r.length = x.length + m ∧ ∀ k, m < k → spec_l04List.l1 k x ((m : Int) - 1) s p q = some (r, p, q) := by
  intro m
  induction m with
  | zero =>
    intro x h1 h2
    refine ⟨x, rfl, fun k hk => ?_⟩
    obtain ⟨k, rfl⟩ := step_k hk
    simp only [spec_l04List.l1]; rw [if_neg (by omega)]
  | succ m ih =>
    intro x h1 h2
    have e0 : ((m + 1 : Nat) : Int) - 1 = (m : Int) := by omega
    have e2 : wrap64 ((m : Int) - 1) = (m : Int) - 1 := wrap_in (by omega) (by omega)
    obtain ⟨r, hr, h⟩ := ih (x ++ [rd x (m : Int)]) (by simp; omega) (by simp; omega)
    refine ⟨r, by simp at hr; omega, fun k hk => ?_⟩
    obtain ⟨k, rfl⟩ := step_k hk
    rw [e0]
    simp only [spec_l04List.l1]; rw [if_pos (by omega), if_pos (by omega), if_pos (by omega), if_pos (by omega), e2]
    exact h k (by omega)
theorem list_l0 {s : List Int} (hs : okB s) : ∀ (m : Nat) (c : Int) (x : List Int) (p q : Int), c.toNat = m → c ≤ 45 → x.length + m ≤ 45 → (0 ≤ p ∧ p ≤ 4096) →
    ∃ r p' q', r.length ≤ 100 ∧ (0 ≤ p' ∧ p' ≤ 4096) ∧ ∀ k, m + 200 < k → spec_l04List.l0 k x c s p q = some (r, p', q') := by
  intro m
  induction m with
  | zero =>
    intro c x p q hc hc2 hx hp
    obtain ⟨v, p1, q1, h1, _, hp1⟩ := next_ok hs p q 30 hp (by omega)
    by_cases hv : v = 0
    · obtain ⟨v2, p2, q2, h2, _, hp2⟩ := pick_ok hs p1 q1 ([1000000000, 1000000001, (-1000000000)] : List Int) hp1 (by simp)
      refine ⟨x ++ [v2], p2, q2, by simp; omega, hp2, fun k hk => ?_⟩
      obtain ⟨k, rfl⟩ := step_k hk
      simp only [spec_l04List.l0]; rw [if_neg (by omega), h1, bnd]; simp only []
      rw [if_pos hv, h2, bnd, if_pos (by omega)]
    · by_cases hv1 : v = 1
      · by_cases hx0 : x.length = 0
        · refine ⟨x, p1, q1, by omega, hp1, fun k hk => ?_⟩
          obtain ⟨k, rfl⟩ := step_k hk
          obtain ⟨k, rfl⟩ := step_k (n := 100) (k := k) (by omega)
          have e : wrap64 ((x.length : Int) - 2) = (x.length : Int) - 2 := wrap_in (by omega) (by omega)
          rw [spec_l04List.l0, if_neg (by omega), h1, bnd]; simp only []
          rw [if_neg hv, if_pos hv1, e]
          simp only [spec_l04List.l1]
          rw [if_neg (by omega)]
        · obtain ⟨r, hr, h⟩ := list_l1 s p1 q1 (x.length - 1) x (by omega) (by omega)
          refine ⟨r, p1, q1, by omega, hp1, fun k hk => ?_⟩
          obtain ⟨k, rfl⟩ := step_k hk
          have e : wrap64 ((x.length : Int) - 2) = ((x.length - 1 : Nat) : Int) - 1 := by rw [wrap_in (by omega) (by omega)]; omega
          rw [spec_l04List.l0, if_neg (by omega), h1, bnd]; simp only []
          rw [if_neg hv, if_pos hv1, e]
          exact h k (by omega)
      · refine ⟨x, p1, q1, by omega, hp1, fun k hk => ?_⟩
        obtain ⟨k, rfl⟩ := step_k hk
        rw [spec_l04List.l0, if_neg (by omega), h1, bnd]; simp only []
        rw [if_neg hv, if_neg hv1]
  | succ m ih =>
    intro c x p q hc hc2 hx hp
    have e2 : wrap64 (c - 1) = c - 1 := wrap_in (by omega) (by omega)
    obtain ⟨v, p1, q1, h1, _, hp1⟩ := next_ok hs p q 21 hp (by omega)
    obtain ⟨v2, p2, q2, h2, _, hp2⟩ := pick_ok hs p1 q1 ([0, 1, 1, 2, wrap64 (v - 10)] : List Int) hp1 (by simp)
    obtain ⟨r, p3, q3, hr, hp3, h⟩ := ih (c - 1) (x ++ [v2]) p2 q2 (by omega) (by omega) (by simp; omega) hp2
    refine ⟨r, p3, q3, hr, hp3, fun k hk => ?_⟩
    obtain ⟨k, rfl⟩ := step_k hk
    rw [spec_l04List.l0, if_pos (by omega), h1, bnd]; simp only []
    rw [h2, bnd, if_pos (by omega), e2]
    exact h k (by omega)
theorem mn_le (a b : Int) : mn a b ≤ b := by unfold mn; split <;> omega
theorem list_ok {s : List Int} (hs : okB s) (p q : Int) (hp : 0 ≤ p ∧ p ≤ 4096) :
    ∃ r p' q', r.length ≤ 100 ∧ (0 ≤ p' ∧ p' ≤ 4096) ∧ ∀ k, 300 < k → spec_l04List.f k s p q = some (r, p', q') := by
  obtain ⟨v, p1, q1, h1, _, hp1⟩ := next_ok hs p q 8 hp (by omega)
  obtain ⟨v2, p2, q2, h2, hp2⟩ := near_ok hs p1 q1 41 hp1 (by omega)
  obtain ⟨v3, p3, q3, h3, _, hp3⟩ := pick_ok hs p2 q2 ([wrap64 (1 + v), v2] : List Int) hp2 (by simp)
  have hm := mn_le v3 45
  obtain ⟨r, p4, q4, hr, hp4, h⟩ := list_l0 hs (mn v3 45).toNat (mn v3 45) [] p3 q3 rfl hm (by simp; omega) hp3
  refine ⟨r, p4, q4, hr, hp4, fun k hk => ?_⟩
  unfold spec_l04List.f
  rw [h1, bnd]; simp only []
  rw [h2, bnd]; simp only []
  rw [h3, bnd]
  exact h k (by omega)
theorem numbers_l0 {s : List Int} (hs : okB s) : ∀ (m : Nat) (c : Int) (x : List Int) (p q : Int), c.toNat = m → c ≤ 45 → x.length + m ≤ 45 → (0 ≤ p ∧ p ≤ 4096) →
    ∃ r p' q', r.length ≤ 100 ∧ (0 ≤ p' ∧ p' ≤ 4096) ∧ ∀ k, m + 200 < k → spec_l04Numbers.l0 k x c s p q = some (r, p', q') := by
  intro m
  induction m with
  | zero =>
    intro c x p q hc hc2 hx hp
    obtain ⟨v, p1, q1, h1, _, hp1⟩ := next_ok hs p q 30 hp (by omega)
    by_cases hv : v = 0
    · obtain ⟨v2, p2, q2, h2, _, hp2⟩ := pick_ok hs p1 q1 ([0, 41] : List Int) hp1 (by simp)
      refine ⟨x ++ [v2], p2, q2, by simp; omega, hp2, fun k hk => ?_⟩
      obtain ⟨k, rfl⟩ := step_k hk
      simp only [spec_l04Numbers.l0]; rw [if_neg (by omega), h1, bnd]; simp only []
      rw [if_pos hv, h2, bnd, if_pos (by omega)]
    · refine ⟨x, p1, q1, by omega, hp1, fun k hk => ?_⟩
      obtain ⟨k, rfl⟩ := step_k hk
      simp only [spec_l04Numbers.l0]; rw [if_neg (by omega), h1, bnd]; simp only []
      rw [if_neg hv]
  | succ m ih =>
    intro c x p q hc hc2 hx hp
    have e2 : wrap64 (c - 1) = c - 1 := wrap_in (by omega) (by omega)
    obtain ⟨v, p1, q1, h1, hp1⟩ := near_ok hs p q 40 hp (by omega)
    obtain ⟨v2, p2, q2, h2, _, hp2⟩ := pick_ok hs p1 q1 ([1, 2, 2, 3, 4, 6, v] : List Int) hp1 (by simp)
    obtain ⟨r, p3, q3, hr, hp3, h⟩ := ih (c - 1) (x ++ [v2]) p2 q2 (by omega) (by omega) (by simp; omega) hp2
    refine ⟨r, p3, q3, hr, hp3, fun k hk => ?_⟩
    obtain ⟨k, rfl⟩ := step_k hk
    simp only [spec_l04Numbers.l0]; rw [if_pos (by omega), h1, bnd]; simp only []
    rw [h2, bnd, if_pos (by omega), e2]
    exact h k (by omega)
theorem numbers_ok {s : List Int} (hs : okB s) (p q : Int) (hp : 0 ≤ p ∧ p ≤ 4096) :
    ∃ r p' q', r.length ≤ 100 ∧ (0 ≤ p' ∧ p' ≤ 4096) ∧ ∀ k, 300 < k → spec_l04Numbers.f k s p q = some (r, p', q') := by
  obtain ⟨v, p1, q1, h1, hv, hp1⟩ := next_ok hs p q 4 hp (by omega)
  obtain ⟨v2, p2, q2, h2, hv2, hp2⟩ := next_ok hs p1 q1 16 hp1 (by omega)
  have et : Int.tdiv v2 15 = v2 / 15 := Int.tdiv_eq_ediv_of_nonneg hv2.1
  have e1 : wrap64 (v2 / 15) = v2 / 15 := wrap_in (by omega) (by omega)
  have e2 : wrap64 (v2 / 15 * 3) = v2 / 15 * 3 := wrap_in (by omega) (by omega)
  have e3 : wrap64 (v + v2 / 15 * 3) = v + v2 / 15 * 3 := wrap_in (by omega) (by omega)
  obtain ⟨r, p4, q4, hr, hp4, h⟩ := numbers_l0 hs (v + v2 / 15 * 3).toNat (v + v2 / 15 * 3) [] p2 q2 rfl (by omega) (by simp; omega) hp2
  refine ⟨r, p4, q4, hr, hp4, fun k hk => ?_⟩
  unfold spec_l04Numbers.f
  rw [h1, bnd]; simp only []
  rw [h2, bnd]; simp only []
  rw [et, e1, e2, e3]
  exact h k (by omega)
theorem d_mul (s : List Int) (hs : okB s) : ∃ a b, a.length ≤ 100 ∧ b.length ≤ 100 ∧ ∀ k, 6000 < k → spec_DrawMultiplySeries.f k s = some (a, b) := by
  obtain ⟨q, h0⟩ := from_ok s hs
  obtain ⟨a, p1, q1, ha, hp1, h1⟩ := list_ok hs 0 q (by omega)
  obtain ⟨b, p2, q2, hb, hp2, h2⟩ := list_ok hs p1 q1 hp1
  refine ⟨a, b, ha, hb, fun k hk => ?_⟩
  unfold spec_DrawMultiplySeries.f
  rw [h0 k (by omega), bnd]; simp only []
  rw [h1 k (by omega), bnd]; simp only []
  rw [h2 k (by omega), bnd]
theorem d_shift (s : List Int) (hs : okB s) : ∃ a b, a.length ≤ 100 ∧ ∀ k, 6000 < k → spec_DrawShiftSeries.f k s = some (a, b) := by
  obtain ⟨q, h0⟩ := from_ok s hs
  obtain ⟨a, p1, q1, ha, hp1, h1⟩ := list_ok hs 0 q (by omega)
  obtain ⟨v, p2, q2, h2, hp2⟩ := near_ok hs p1 q1 40 hp1 (by omega)
  obtain ⟨w, p3, q3, h3, _, hp3⟩ := pick_ok hs p2 q2 ([0, 1, 2, v] : List Int) hp2 (by simp)
  refine ⟨a, w, ha, fun k hk => ?_⟩
  unfold spec_DrawShiftSeries.f
  rw [h0 k (by omega), bnd]; simp only []
  rw [h1 k (by omega), bnd]; simp only []
  rw [h2, bnd]; simp only []
  rw [h3, bnd]
theorem d_sod (s : List Int) (hs : okB s) : ∃ a b, a.length ≤ 100 ∧ ∀ k, 6000 < k → spec_DrawSeriesOfDegrees.f k s = some (a, b) := by
  obtain ⟨q, h0⟩ := from_ok s hs
  obtain ⟨a, p1, q1, ha, hp1, h1⟩ := numbers_ok hs 0 q (by omega)
  obtain ⟨v, p2, q2, h2, hp2⟩ := near_ok hs p1 q1 40 hp1 (by omega)
  obtain ⟨w, p3, q3, h3, _, hp3⟩ := pick_ok hs p2 q2 ([4, 8, v] : List Int) hp2 (by simp)
  refine ⟨a, w, ha, fun k hk => ?_⟩
  unfold spec_DrawSeriesOfDegrees.f
  rw [h0 k (by omega), bnd]; simp only []
  rw [h1 k (by omega), bnd]; simp only []
  rw [h2, bnd]; simp only []
  rw [h3, bnd]
theorem d_num (s : List Int) (hs : okB s) : ∃ a b, a.length ≤ 100 ∧ b.length ≤ 100 ∧ ∀ k, 6000 < k → spec_DrawNumeratorOf.f k s = some (a, b) := by
  obtain ⟨q, h0⟩ := from_ok s hs
  obtain ⟨a, p1, q1, ha, hp1, h1⟩ := list_ok hs 0 q (by omega)
  obtain ⟨b, p2, q2, hb, hp2, h2⟩ := numbers_ok hs p1 q1 hp1
  refine ⟨a, b, ha, hb, fun k hk => ?_⟩
  unfold spec_DrawNumeratorOf.f
  rw [h0 k (by omega), bnd]; simp only []
  rw [h1 k (by omega), bnd]; simp only []
  rw [h2 k (by omega), bnd]
theorem behind_l0 : ∀ (m : Nat) (x : List Int), m ≤ x.length → x.length + m ≤ 200 →
    ∃ r, r.length = x.length + m ∧ ∀ k, m < k → spec_DrawIsFromBehind.l0 k x ((m : Int) - 1) = some r := by
  intro m
  induction m with
  | zero =>
    intro x h1 h2
    refine ⟨x, rfl, fun k hk => ?_⟩
    obtain ⟨k, rfl⟩ := step_k hk
    simp only [spec_DrawIsFromBehind.l0]; rw [if_neg (by omega)]
  | succ m ih =>
    intro x h1 h2
    have e0 : ((m + 1 : Nat) : Int) - 1 = (m : Int) := by omega
    have e2 : wrap64 ((m : Int) - 1) = (m : Int) - 1 := wrap_in (by omega) (by omega)
    obtain ⟨r, hr, h⟩ := ih (x ++ [rd x (m : Int)]) (by simp; omega) (by simp; omega)
    refine ⟨r, by simp at hr; omega, fun k hk => ?_⟩
    obtain ⟨k, rfl⟩ := step_k hk
    rw [e0]
    simp only [spec_DrawIsFromBehind.l0]; rw [if_pos (by omega), if_pos (by omega), if_pos (by omega), if_pos (by omega), e2]
    exact h k (by omega)
theorem d_behind (s : List Int) (hs : okB s) : ∃ a, a.length ≤ 200 ∧ ∀ k, 6000 < k → spec_DrawIsFromBehind.f k s = some a := by
  obtain ⟨q, h0⟩ := from_ok s hs
  obtain ⟨a, p1, q1, ha, hp1, h1⟩ := list_ok hs 0 q (by omega)
  by_cases hl : (a.length : Int) < 20
  · obtain ⟨v, p2, q2, h2, hv, hp2⟩ := next_ok hs p1 q1 2 hp1 (by omega)
    by_cases hv0 : v = 0
    · obtain ⟨v3, p3, q3, h3, hv3, hp3⟩ := next_ok hs p2 q2 2 hp2 (by omega)
      have e1 : wrap64 ((a.length : Int) - 1) = (a.length : Int) - 1 := wrap_in (by omega) (by omega)
      have e2 : wrap64 ((a.length : Int) - 1 - v3) = (a.length : Int) - 1 - v3 := wrap_in (by omega) (by omega)
      by_cases hm : (a.length : Int) - v3 < 0
      · refine ⟨a, by omega, fun k hk => ?_⟩
        obtain ⟨k, rfl⟩ := step_k hk
        obtain ⟨k, rfl⟩ := step_k (n := 100) (k := k) (by omega)
        unfold spec_DrawIsFromBehind.f
        rw [h0 _ (by omega), bnd]; simp only []
        rw [h1 _ (by omega), bnd]; simp only []
        rw [if_pos hl, h2, bnd]; simp only []
        rw [hv0, spec_DrawIsFromBehind.j0, if_pos (by decide), h3, bnd]; simp only []
        rw [e1, e2, spec_DrawIsFromBehind.l0, if_neg (by omega)]
      · obtain ⟨r, hr, h⟩ := behind_l0 ((a.length : Int) - v3).toNat a (by omega) (by omega)
        refine ⟨r, by omega, fun k hk => ?_⟩
        obtain ⟨k, rfl⟩ := step_k hk
        unfold spec_DrawIsFromBehind.f
        rw [h0 _ (by omega), bnd]; simp only []
        rw [h1 _ (by omega), bnd]; simp only []
        rw [if_pos hl, h2, bnd]; simp only []
        rw [hv0, spec_DrawIsFromBehind.j0, if_pos (by decide), h3, bnd]; simp only []
        rw [e1, e2, show (a.length : Int) - 1 - v3 = ((((a.length : Int) - v3).toNat : Nat) : Int) - 1 by omega]
        exact h k (by omega)
    · refine ⟨a, by omega, fun k hk => ?_⟩
      obtain ⟨k, rfl⟩ := step_k hk
      unfold spec_DrawIsFromBehind.f
      rw [h0 _ (by omega), bnd]; simp only []
      rw [h1 _ (by omega), bnd]; simp only []
      rw [if_pos hl, h2, bnd]; simp only []
      rw [spec_DrawIsFromBehind.j0, if_neg (by simpa using hv0)]
  · refine ⟨a, by omega, fun k hk => ?_⟩
    obtain ⟨k, rfl⟩ := step_k hk
    unfold spec_DrawIsFromBehind.f
    rw [h0 _ (by omega), bnd]; simp only []
    rw [h1 _ (by omega), bnd]; simp only []
    rw [if_neg hl, spec_DrawIsFromBehind.j0, if_neg (by simp)]
theorem like_loop : ∀ (suf pre : List Int) (k : Nat), suf.length < k → (pre ++ suf).length ≤ 1048576 →
    laws_likeInts.l0 k (pre ++ suf) (pre ++ suf) pre.length = some true := by
  intro suf
  induction suf with
  | nil =>
    intro pre k hk _
    obtain ⟨k, rfl⟩ := step_k hk
    simp only [laws_likeInts.l0]; rw [if_neg (by simp)]
  | cons a suf ih =>
    intro pre k hk hl
    obtain ⟨k, rfl⟩ := step_k hk
    simp only [List.length_append, List.length_cons] at hl hk
    have e2 : wrap64 ((pre.length : Int) + 1) = ((pre ++ [a]).length : Int) := by rw [wrap_in (by omega) (by omega)]; simp
    simp only [laws_likeInts.l0]
    rw [if_pos (by simp only [List.length_append, List.length_cons]; omega), if_pos (by omega), if_pos (by simp only [List.length_append, List.length_cons]; omega), if_pos trivial, e2]
    have := ih (pre ++ [a]) k (by omega) (by simp; omega)
    simpa using this
theorem like_is (l : List Int) (k : Nat) (hk : l.length < k) (hl : l.length ≤ 1048576) : laws_likeInts.f k l l = some true := by
  unfold laws_likeInts.f; rw [if_pos rfl]; exact like_loop l [] k hk (by simpa using hl)
theorem fb_no (x : List Int) (n : Nat) : ∀ (m i : Nat), i + m = n → n ≤ 41 → ∀ k, m < k → spec_IsFromBehind.l1 k x n false i = some (false, 0) := by
  intro m
  induction m with
  | zero =>
    intro i h1 h2 k hk
    obtain ⟨k, rfl⟩ := step_k hk
    simp only [spec_IsFromBehind.l1]; rw [if_neg (by omega)]
  | succ m ih =>
    intro i h1 h2 k hk
    obtain ⟨k, rfl⟩ := step_k hk
    have e2 : wrap64 ((i : Int) + 1) = ((i + 1 : Nat) : Int) := by rw [wrap_in (by omega) (by omega)]; simp
    simp only [spec_IsFromBehind.l1]; rw [if_pos (by omega), if_neg (by simp), e2]
    exact ih (i + 1) (by omega) h2 k (by omega)
theorem fb_both (x : List Int) (n : Nat) (hn : 0 < n) (hn2 : n ≤ 41) (hx : n ≤ x.length) : ∀ (m i : Nat), i + m = n →
    ∃ b, ∀ k, m < k → spec_IsFromBehind.l1 k x n true i = some (b, 0) ∧ impl_IsFromBehind.l1 k x n n i = some (b, 0) := by
  intro m
  induction m with
  | zero =>
    intro i h1
    refine ⟨true, fun k hk => ?_⟩
    obtain ⟨k, rfl⟩ := step_k hk
    simp only [spec_IsFromBehind.l1, impl_IsFromBehind.l1]; rw [if_neg (by omega), if_neg (by omega), decide_eq_true (by omega)]; exact ⟨rfl, rfl⟩
  | succ m ih =>
    intro i h1
    have e2 : wrap64 ((i : Int) + 1) = ((i + 1 : Nat) : Int) := by rw [wrap_in (by omega) (by omega)]; simp
    have e3 : wrap64 ((n : Int) - 1) = (n : Int) - 1 := wrap_in (by omega) (by omega)
    have e4 : wrap64 ((n : Int) - 1 - i) = ((n - 1 - i : Nat) : Int) := by rw [wrap_in (by omega) (by omega)]; omega
    by_cases h : rd x (i : Int) = rd x ((n - 1 - i : Nat) : Int)
    · obtain ⟨b, hb⟩ := ih (i + 1) (by omega)
      refine ⟨b, fun k hk => ?_⟩
      obtain ⟨k, rfl⟩ := step_k hk
      constructor
      · simp only [spec_IsFromBehind.l1]
        rw [if_pos (by omega), if_pos trivial, if_pos (by omega), if_pos (by omega), e3, e4, if_pos (by omega), if_pos (by omega), e2, h, beq_self_eq_true]
        exact (hb k (by omega)).1
      · simp only [impl_IsFromBehind.l1]
        rw [if_pos (by omega), if_pos (by omega), if_pos (by omega), e3, e4, if_pos (by omega), if_pos (by omega), e2, if_pos h]
        exact (hb k (by omega)).2
    · refine ⟨false, fun k hk => ?_⟩
      obtain ⟨k, rfl⟩ := step_k hk
      constructor
      · simp only [spec_IsFromBehind.l1]
        rw [if_pos (by omega), if_pos trivial, if_pos (by omega), if_pos (by omega), e3, e4, if_pos (by omega), if_pos (by omega), e2, beq_false_of_ne h]
        exact fb_no x n m (i + 1) (by omega) hn2 k (by omega)
      · simp only [impl_IsFromBehind.l1]
        rw [if_pos (by omega), if_pos (by omega), if_pos (by omega), e3, e4, if_pos (by omega), if_pos (by omega), if_neg h]
theorem fb_end (x : List Int) (hx : x.length ≤ 41) : ∀ (n : Nat), n ≤ x.length →
    ∃ b, ∀ k, n + 60 < k → spec_IsFromBehind.l0 k x n = some (b, 0) ∧ impl_IsFromBehind.l0 k x n = some (b, 0) := by
  intro n
  induction n with
  | zero =>
    intro _
    refine ⟨false, fun k hk => ?_⟩
    obtain ⟨k, rfl⟩ := step_k hk
    obtain ⟨k, rfl⟩ := step_k (n := 10) (k := k) (by omega)
    obtain ⟨k, rfl⟩ := step_k (n := 5) (k := k) (by omega)
    constructor
    · rw [spec_IsFromBehind.l0, if_neg (by omega), spec_IsFromBehind.j1, spec_IsFromBehind.l1, if_neg (by omega), decide_eq_false (by omega)]
    · rw [impl_IsFromBehind.l0, if_neg (by omega), impl_IsFromBehind.j1, impl_IsFromBehind.l1, if_neg (by omega), decide_eq_false (by omega)]
  | succ n ih =>
    intro hn
    have e3 : wrap64 (((n + 1 : Nat) : Int) - 1) = (n : Int) := by rw [wrap_in (by omega) (by omega)]; omega
    by_cases h : rd x (n : Int) = 0
    · obtain ⟨b, hb⟩ := ih (by omega)
      refine ⟨b, fun k hk => ?_⟩
      obtain ⟨k, rfl⟩ := step_k hk
      constructor
      · rw [spec_IsFromBehind.l0, if_pos (by omega), e3, if_pos (by omega), if_pos (by omega), if_pos h]; exact (hb k (by omega)).1
      · rw [impl_IsFromBehind.l0, if_pos (by omega), e3, if_pos (by omega), if_pos (by omega), if_pos h]; exact (hb k (by omega)).2
    · obtain ⟨b, hb⟩ := fb_both x (n + 1) (by omega) (by omega) hn (n + 1) 0 (by omega)
      refine ⟨b, fun k hk => ?_⟩
      obtain ⟨k, rfl⟩ := step_k hk
      obtain ⟨k, rfl⟩ := step_k (n := 50) (k := k) (by omega)
      constructor
      · rw [spec_IsFromBehind.l0, if_pos (by omega), e3, if_pos (by omega), if_pos (by omega), if_neg h, spec_IsFromBehind.j1, decide_eq_true (by omega)]; exact (hb k (by omega)).1
      · rw [impl_IsFromBehind.l0, if_pos (by omega), e3, if_pos (by omega), if_pos (by omega), if_neg h, impl_IsFromBehind.j1]; exact (hb k (by omega)).2
theorem fb_told (x : List Int) (hx : x.length ≤ 1000) : ∃ b c, ∀ k, 4000 < k → spec_IsFromBehind.f k x = some (b, c) ∧ impl_IsFromBehind.f k x = some (b, c) := by
  by_cases h : okS x = true
  · obtain ⟨h1, h2⟩ := okS_len h
    obtain ⟨b, hb⟩ := fb_end x h2 x.length (Nat.le_refl _)
    refine ⟨b, 0, fun k hk => ?_⟩
    unfold spec_IsFromBehind.f impl_IsFromBehind.f
    rw [isS_is x _ (by omega) (by omega), isI_is x _ (by omega) (by omega), bnd, bnd, if_pos h, if_pos h]
    exact hb k (by omega)
  · refine ⟨false, 2, fun k hk => ?_⟩
    unfold spec_IsFromBehind.f impl_IsFromBehind.f
    rw [isS_is x _ (by omega) (by omega), isI_is x _ (by omega) (by omega), bnd, bnd, if_neg h, if_neg h]
    exact ⟨rfl, rfl⟩
theorem shift_told (l : List Int) (a : Int) (hl : l.length ≤ 200) : ∃ r c, (c = 0 → okS l = true ∧ 0 ≤ a ∧ a ≤ 40 ∧ r.length = l.length ∧ ∀ j, j < l.length → r.getD j 0 = back l a.toNat j) ∧ r.length ≤ 41 ∧
    ∀ k, 1000 < k → spec_ShiftSeries.f k l a = some (r, c) ∧ impl_ShiftSeries.f k l a = some (r, c) := by
  obtain ⟨r, c, hr, h1, h2⟩ := sameSh l a 1000 (by omega) (by omega)
  refine ⟨r, c, fun hc => ?_, hr, fun k hk => ⟨more (spec_ShiftSeries.mono l a) h1 k (by omega), more (impl_ShiftSeries.mono l a) h2 k (by omega)⟩⟩
  subst hc
  unfold spec_ShiftSeries.f at h1
  rw [isS_is l _ (by omega) (by omega), bnd] at h1
  by_cases h : okS l = true
  · rw [if_pos h] at h1
    by_cases h0 : 0 ≤ a
    · by_cases h3 : a ≤ 40
      · have e : spec_l01In.f a 0 40 = some true := by unfold spec_l01In.f; rw [if_pos h0]; simp [h3]
        obtain ⟨n, rfl⟩ : ∃ n : Nat, a = (n : Int) := ⟨a.toNat, by omega⟩
        obtain ⟨h4, h5⟩ := okS_len h
        obtain ⟨r', g1, g2, g3⟩ := shf_is l n h5 (by omega)
        rw [e, bnd, if_pos rfl, g3 1000 (by omega), bnd] at h1
        simp only [Option.some.injEq, Prod.mk.injEq] at h1
        obtain ⟨rfl, _⟩ := h1
        exact ⟨h, h0, h3, g1, by simpa using g2⟩
      · have e : spec_l01In.f a 0 40 = some false := by unfold spec_l01In.f; rw [if_pos h0]; simp [h3]
        rw [e, bnd] at h1; simp at h1
    · have e : spec_l01In.f a 0 40 = some false := by unfold spec_l01In.f; rw [if_neg h0]
      rw [e, bnd] at h1; simp at h1
  · rw [if_neg h] at h1; simp at h1
theorem sod_told (l : List Int) (a : Int) (hl : l.length ≤ 200) : ∃ r c, (c = 0 → l.all okD = true ∧ l.length ≤ 6 ∧ ∃ kk : Nat, kk ≤ 40 ∧ Bd 115856201 (kk + 1) r ∧ fd l r = one kk) ∧ r.length ≤ 41 ∧
    ∀ k, 1000 < k → spec_SeriesOfDegrees.f k l a = some (r, c) ∧ impl_SeriesOfDegrees.f k l a = some (r, c) := by
  by_cases h : okDs l = true
  · have h2 := h
    simp only [okDs, Bool.and_eq_true, decide_eq_true_eq] at h2
    obtain ⟨hl1, hl2⟩ := h2
    by_cases h0 : 0 ≤ a
    · by_cases h1 : a ≤ 40
      · have e : spec_l01In.f a 0 40 = some true := by unfold spec_l01In.f; rw [if_pos h0]; simp [h1]
        obtain ⟨kk, rfl⟩ : ∃ n : Nat, a = (n : Int) := ⟨a.toNat, by omega⟩
        obtain ⟨z, ⟨hz, hfd⟩, f1, f2⟩ := ways_both2 l kk (by omega) 5 (by omega) hl1 hl2
        rw [up5e] at hz
        refine ⟨z, 0, fun _ => ⟨hl1, hl2, kk, by omega, hz, hfd⟩, by have := hz.1; omega, fun k hk => ?_⟩
        obtain ⟨k, rfl⟩ := step_k hk
        unfold spec_SeriesOfDegrees.f impl_SeriesOfDegrees.f
        rw [dS_is l _ (by omega) (by omega), dI_is l _ (by omega) (by omega), bnd, bnd, if_pos h, if_pos h]
        refine ⟨?_, ?_⟩
        · rw [e, bnd, if_pos rfl, f1 _ (by omega), bnd]
        · rw [if_neg (by omega), decide_eq_false (by omega)]; rw [impl_SeriesOfDegrees.j0, if_neg (by simp), f2 _ (by omega), bnd]
          refine cnt_loop z [] k (by have := hz.1; omega) (by have := hz.1; simpa using (by omega : z.length ≤ 41)) (fun x hx => ?_)
          obtain ⟨i, hi, rfl⟩ := List.getElem_of_mem hx
          have := hz.2 i
          simp only [List.getD_eq_getElem?_getD, List.getElem?_eq_getElem hi, Option.getD_some] at this
          omega
      · have e : spec_l01In.f a 0 40 = some false := by unfold spec_l01In.f; rw [if_pos h0]; simp [h1]
        refine ⟨[], 2, by simp, by simp, fun k hk => ?_⟩
        obtain ⟨k, rfl⟩ := step_k hk
        unfold spec_SeriesOfDegrees.f impl_SeriesOfDegrees.f
        rw [dS_is l _ (by omega) (by omega), dI_is l _ (by omega) (by omega), bnd, bnd, if_pos h, if_pos h]
        refine ⟨?_, ?_⟩
        · rw [e, bnd, if_neg (by simp)]
        · rw [if_neg (by omega), decide_eq_true (by omega)]; simp only [impl_SeriesOfDegrees.j0, if_true]
    · have e : spec_l01In.f a 0 40 = some false := by unfold spec_l01In.f; rw [if_neg h0]
      refine ⟨[], 2, by simp, by simp, fun k hk => ?_⟩
      obtain ⟨k, rfl⟩ := step_k hk
      unfold spec_SeriesOfDegrees.f impl_SeriesOfDegrees.f
      rw [dS_is l _ (by omega) (by omega), dI_is l _ (by omega) (by omega), bnd, bnd, if_pos h, if_pos h]
      refine ⟨?_, ?_⟩
      · rw [e, bnd, if_neg (by simp)]
      · rw [if_pos (by omega)]; simp only [impl_SeriesOfDegrees.j0, if_true]
  · refine ⟨[], 2, by simp, by simp, fun k hk => ?_⟩
    obtain ⟨k, rfl⟩ := step_k hk
    unfold spec_SeriesOfDegrees.f impl_SeriesOfDegrees.f
    rw [dS_is l _ (by omega) (by omega), dI_is l _ (by omega) (by omega), bnd, bnd, if_neg h, if_neg h]
    exact ⟨by simp only [], by simp only [impl_SeriesOfDegrees.j0, if_true]⟩
theorem num_told (l l' : List Int) (hl : l.length ≤ 200) (hl' : l'.length ≤ 200) : ∃ r c, r.length ≤ 41 ∧ ∀ k, 4000 < k → spec_NumeratorOf.f k l l' = some (r, c) ∧ impl_NumeratorOf.f k l l' = some (r, c) := by
  obtain ⟨r, c, hr, h1, h2⟩ := sameN l l' 4000 (by omega) (by omega) (by omega)
  exact ⟨r, c, hr, fun k hk => ⟨more (spec_NumeratorOf.mono l l') h1 k (by omega), more (impl_NumeratorOf.mono l l') h2 k (by omega)⟩⟩
theorem one_nn (kk : Nat) : ∀ j, 0 ≤ (one kk).getD j 0 := fun j => ((start_is kk).2 j).1
/-- the degrees taken out again, one by one -/
theorem num_back (D : List Int) (hD : D.all okD = true) (hDl : D.length ≤ 6) (kk : Nat) (hkk : kk ≤ 40) : ∀ (m i : Nat) (y : List Int), i + m = D.length → Bd 115856201 (kk + 1) y → fd (D.drop i) y = one kk →
    ∀ k, m * 60 + 60 < k → impl_NumeratorOf.l0 k y D D.length i = some (one kk, 0) := by
  intro m
  induction m with
  | zero =>
    intro i y h1 h2 h3 k hk
    obtain ⟨k, rfl⟩ := step_k hk
    rw [List.drop_of_length_le (by omega)] at h3
    have h3 : y = one kk := h3
    simp only [impl_NumeratorOf.l0]
    rw [if_neg (by omega), h3]
  | succ m ih =>
    intro i y h1 h2 h3 k hk
    obtain ⟨hd1, hd2⟩ := okD_at hD i (by omega)
    obtain ⟨d, hd⟩ : ∃ d : Nat, D.getD i 0 = (d : Int) := ⟨(D.getD i 0).toNat, by omega⟩
    have hrd : rd D (i : Int) = (d : Int) := by simp only [rd, Int.toNat_natCast]; exact hd
    have e0 : wrap64 ((y.length : Int) - 1) = (y.length : Int) - 1 := wrap_in (by have := h2.1; omega) (by have := h2.1; omega)
    have hy := h2.1
    rw [drop_at D i (by omega), hd, fd_cons, Int.toNat_natCast] at h3
    have hnn : ∀ j, 0 ≤ (news y d).getD j 0 := fd_nn (D.drop (i + 1)) (by
      rw [List.all_eq_true] at hD ⊢
      exact fun x hx => hD x (List.mem_of_mem_drop hx)) _ (by rw [h3]; exact one_nn kk)
    have hB : Bd 115856201 (kk + 1) (news y d) := by
      refine ⟨by rw [news_len]; exact hy, fun j => ⟨hnn j, ?_⟩⟩
      by_cases hj : j < y.length
      · rw [news_at _ _ _ hj]; unfold new back
        have a1 := h2.2 j
        have a2 := h2.2 (j - d)
        split <;> omega
      · rw [List.getD_eq_getElem?_getD, List.getElem?_eq_none (by rw [news_len]; omega)]; simp
    have hok : ∀ j, okN (y.getD j 0) = true := fun j => by have := h2.2 j; simp only [okN, Bool.and_eq_true, decide_eq_true_eq]; omega
    have h6 : ∀ j, j < y.length → okN (new y d j) = true := fun j hj => by
      have := hB.2 j
      rw [news_at _ _ _ hj] at this
      simp [okN]; omega
    have HI := numI D (D.length : Int) y d i (by omega) (by omega) (by omega) (by omega) hok (y.length - d) y.length y (Nat.le_refl _) rfl rfl (by intro j hj hj2; omega) (fun _ _ => rfl) (by intro j hj hj2; omega)
    obtain ⟨k, rfl⟩ := step_k hk
    simp only [impl_NumeratorOf.l0]
    rw [if_pos (by omega), if_pos (by omega), if_pos (by omega), hrd, e0, HI.1 h6 k (by omega)]
    exact ih (i + 1) _ (by omega) hB h3 _ (by omega)
theorem num_of_sod (D z : List Int) (hD : D.all okD = true) (hDl : D.length ≤ 6) (kk : Nat) (hkk : kk ≤ 40) (hz : Bd 115856201 (kk + 1) z) (hf : fd D z = one kk) (k : Nat) (hk : 4000 < k) :
    impl_NumeratorOf.f k z D = some (one kk, 0) := by
  have hzl := hz.1
  have hS : okS z = true := by
    have h1 : z.all okN = true := by
      rw [List.all_eq_true]
      intro x hx
      obtain ⟨i, hi, rfl⟩ := List.getElem_of_mem hx
      have := hz.2 i
      rw [List.getD_eq_getElem?_getD, List.getElem?_eq_getElem hi, Option.getD_some] at this
      simp [okN]; omega
    simp [okS, h1]; omega
  have hDs : okDs D = true := by simp [okDs, hD, hDl]
  obtain ⟨k, rfl⟩ := step_k hk
  unfold impl_NumeratorOf.f
  rw [isI_is z _ (by omega) (by omega), bnd, if_pos hS, dI_is D _ (by omega) (by omega), bnd, hDs]
  simp only [impl_NumeratorOf.j0]
  rw [if_neg (by simp), clone_is z (by omega), bnd]
  exact num_back D hD hDl kk hkk D.length 0 z (by omega) hz (by rw [List.drop_zero]; exact hf) k (by omega)
theorem one_at (kk j : Nat) : (one kk).getD j 0 = if j = 0 then 1 else 0 := by
  unfold one
  rw [getD_set _ _ _ _ (by simp)]
  by_cases h : j = 0
  · rw [if_pos h, if_pos h]
  · rw [if_neg h, if_neg h]; simp only [List.getD_eq_getElem?_getD, List.getElem?_replicate]; split <;> simp
theorem ones (kk : Nat) (hkk : kk ≤ 40) (a b c : List Int) (d : Int) (e : List Int) (f : Int) (g : List Int) (h : Int) : ∀ (m i : Nat), i + m = kk + 1 → 1 ≤ i → ∀ k, m < k →
    laws_FnSeries.l0 k a b c d e f g h (one kk) i = laws_FnSeries.j7 (k - m - 1) a b c d e f g h := by
  intro m
  have hl : (one kk).length = kk + 1 := by simp [one]
  induction m with
  | zero =>
    intro i h1 h2 k hk
    obtain ⟨k, rfl⟩ := step_k hk
    simp only [laws_FnSeries.l0]; rw [if_neg (by omega)]; simp
  | succ m ih =>
    intro i h1 h2 k hk
    obtain ⟨k, rfl⟩ := step_k hk
    have e2 : wrap64 ((i : Int) + 1) = ((i + 1 : Nat) : Int) := by rw [wrap_in (by omega) (by omega)]; simp
    have hz : rd (one kk) (i : Int) = 0 := by simp only [rd, Int.toNat_natCast]; rw [one_at, if_neg (by omega)]
    simp only [laws_FnSeries.l0]; rw [if_pos (by omega), if_pos (by omega), if_pos hz, e2, ih (i + 1) (by omega) (by omega) k (by omega)]
    congr 1; omega
/-- the last part of the law: products do not depend on the order -/
theorem fin_j9 (a b r : List Int) (c : Int) (ha : a.length ≤ 200) (hb : b.length ≤ 200)
    (hr : c = 0 ∧ okS a = true ∧ okS b = true ∧ r.length = min a.length b.length ∧ (∀ j, j < min a.length b.length → r.getD j 0 = cv a b j) ∨
        c ≠ 0 ∧ r = [] ∧ (okS a = true → okS b = true → ∃ K, K < min a.length b.length ∧ inn a b K (K + 1) 0 0 = none)) (k : Nat) (hk : 5000 < k) :
    laws_FnSeries.j9 k a b r c = some true := by
  obtain ⟨k, rfl⟩ := step_k hk
  rw [laws_FnSeries.j9]
  rcases hr with ⟨h0, hA, hB, hl, hcv⟩ | ⟨h0, hl, _⟩
  · rw [if_pos h0]
    obtain ⟨r2, c2, h2, h3⟩ := mul_told b a hb ha
    rw [(h3 k (by omega)).2, bnd]; simp only []
    rcases h2 with ⟨g0, _, _, gl, gcv⟩ | ⟨g0, _, _⟩
    · rw [if_pos g0]
      have hrr : r2 = r := ext_getD (by omega) (fun j hj => by rw [gcv j (by omega), hcv j (by omega), cv_comm])
      rw [hrr, like_is r k (by omega) (by omega), bnd]
    · rw [if_neg g0]
  · rw [if_neg h0, hl]; rfl
theorem FnSeries : laws_FnSeries.Pure := by
  intro l _ _ hw
  by_cases hbig : (l.length : Int) > 4096
  · refine ⟨1, ?_⟩
    unfold laws_FnSeries.f laws_big.f; rw [bnd, decide_eq_true hbig, if_pos rfl]
  · have hs : okB l := okB_of (by omega) hw
    obtain ⟨a, b, ha, hb, dab⟩ := d_mul l hs
    obtain ⟨r, c, hr, hrc⟩ := mul_told a b (by omega) (by omega)
    obtain ⟨x, n, hx, dxn⟩ := d_shift l hs
    obtain ⟨r1, c1, hr1, hl1, hrc1⟩ := shift_told x n (by omega)
    obtain ⟨D, n2, hD, dD⟩ := d_sod l hs
    obtain ⟨r2, c2, hr2, hl2, hrc2⟩ := sod_told D n2 (by omega)
    obtain ⟨y, G, hy, hG, dyG⟩ := d_num l hs
    obtain ⟨r3, c3, hl3, hrc3⟩ := num_told y G (by omega) (by omega)
    obtain ⟨e, he, de⟩ := d_behind l hs
    obtain ⟨b5, c5, hb5⟩ := fb_told e (by omega)
    have hlr : r.length ≤ 41 := by
      rcases hr with ⟨_, h1, _, h2, _⟩ | ⟨_, h1, _⟩
      · have := okS_len h1; omega
      · rw [h1]; simp
    have J9 : ∀ k, 5000 < k → laws_FnSeries.j9 k a b r c = some true := fin_j9 a b r c (by omega) (by omega) hr
    have J7 : ∀ k, 6000 < k → laws_FnSeries.j7 k a b r c x n r1 c1 = some true := by
      intro k hk
      obtain ⟨k, rfl⟩ := step_k hk
      obtain ⟨k, rfl⟩ := step_k (n := 5900) (k := k) (by omega)
      rw [laws_FnSeries.j7]
      by_cases h0 : c1 = 0
      · rw [if_pos h0]
        obtain ⟨hok, hn0, hn1, hlen, hsh⟩ := hr1 h0
        obtain ⟨g1, g2⟩ := okS_len hok
        by_cases hlt : n < (x.length : Int)
        · have hm := mul_told x ((List.replicate x.length 0).set n.toNat 1) (by omega) (by simp; omega)
          obtain ⟨r7, c7, h7, h8⟩ := hm
          have hat : ∀ j, j < x.length → ((List.replicate x.length (0 : Int)).set n.toNat 1).getD j 0 = if j = n.toNat then 1 else 0 := by
            intro j hj
            rw [getD_put _ _ _ _ (by simp; omega)]
            by_cases h : n.toNat = j
            · rw [if_pos h, if_pos h.symm]
            · rw [if_neg h, if_neg (fun e => h e.symm)]; simp [List.getD_eq_getElem?_getD, hj]
          have hpow : okS ((List.replicate x.length (0 : Int)).set n.toNat 1) = true := by
            have h1 : ((List.replicate x.length (0 : Int)).set n.toNat 1).all okN = true := by
              rw [List.all_eq_true]
              intro z hz
              rcases List.mem_or_eq_of_mem_set hz with h | h
              · rw [(List.mem_replicate.1 h).2]; rfl
              · rw [h]; rfl
            simp [okS, h1]; omega
          have hxN : x.all okN = true := by have h := hok; simp only [okS, Bool.and_eq_true] at h; exact h.1
          have hinn : ∀ K, K < x.length → inn x ((List.replicate x.length (0 : Int)).set n.toNat 1) K (K + 1) 0 0 = some (back x n.toNat K) :=
            fun K hK => inn_pow x _ n.toNat K hxN hat hK (K + 1) 0 0 (by omega) (by rw [if_neg (by omega)])
          rcases h7 with ⟨q0, _, _, ql, qcv⟩ | ⟨_, _, q3⟩
          · have hrr : r7 = r1 := ext_getD (by simp at ql; omega) (fun j hj => by
              have hj2 : j < x.length := by simp at ql; omega
              rw [qcv j (by simp; omega), hsh j hj2]
              have := inn_some x _ j (j + 1) 0 0 _ (hinn j hj2)
              unfold cv; omega)
            rw [decide_eq_true hlt, laws_FnSeries.j8, if_pos rfl, if_pos (by omega), if_pos (by simp only [Int.toNat_natCast]; omega), bnd]
            rw [if_pos hn0, if_pos (by simp; omega)]
            simp only [Int.toNat_natCast]
            rw [(h8 k (by omega)).2, bnd]; simp only []
            rw [if_pos q0, hrr, like_is r1 k (by omega) (by omega), bnd, if_pos rfl]
            exact J9 k (by omega)
          · obtain ⟨K, hK, hK2⟩ := q3 hok hpow
            rw [hinn K (by simp at hK; omega)] at hK2
            exact absurd hK2 (by simp)
        · rw [decide_eq_false hlt, laws_FnSeries.j8, if_neg (by simp)]; exact J9 k (by omega)
      · rw [if_neg h0, laws_FnSeries.j8, if_neg (by simp)]; exact J9 k (by omega)
    refine ⟨20000, ?_⟩
    have hk : (6000 : Nat) < 20000 := by decide
    unfold laws_FnSeries.f laws_big.f
    rw [bnd, decide_eq_false hbig, if_neg (by simp), dab _ (by omega), bnd]; simp only []
    rw [(hrc 20000 (by omega)).2, bnd]; simp only []
    rw [(hrc 20000 (by omega)).1, bnd]; simp only []
    rw [if_pos trivial, like_is r 20000 (by omega) (by omega), bnd]
    rw [show (20000 : Nat) = 19999 + 1 from rfl, laws_FnSeries.j0, if_neg (by simp), dxn 19999 (by omega), bnd]; simp only []
    rw [(hrc1 19999 (by omega)).2, bnd]; simp only []
    rw [(hrc1 19999 (by omega)).1, bnd]; simp only []
    rw [if_pos trivial, like_is r1 19999 (by omega) (by omega), bnd]
    rw [show (19999 : Nat) = 19998 + 1 from rfl, laws_FnSeries.j1, if_neg (by simp), dD 19998 (by omega), bnd]; simp only []
    rw [(hrc2 19998 (by omega)).2, bnd]; simp only []
    rw [(hrc2 19998 (by omega)).1, bnd]; simp only []
    rw [if_pos trivial, like_is r2 19998 (by omega) (by omega), bnd]
    rw [show (19998 : Nat) = 19997 + 1 from rfl, laws_FnSeries.j2, if_neg (by simp), dyG 19997 (by omega), bnd]; simp only []
    rw [(hrc3 19997 (by omega)).2, bnd]; simp only []
    rw [(hrc3 19997 (by omega)).1, bnd]; simp only []
    rw [if_pos trivial, like_is r3 19997 (by omega) (by omega), bnd]
    rw [show (19997 : Nat) = 19996 + 1 from rfl, laws_FnSeries.j3, if_neg (by simp), de 19996 (by omega), bnd]
    rw [(hb5 19996 (by omega)).2, bnd]; simp only []
    rw [(hb5 19996 (by omega)).1, bnd]; simp only []
    rw [if_pos trivial, bne_self_eq_false]
    rw [show (19996 : Nat) = 19995 + 1 from rfl, laws_FnSeries.j4, if_neg (by simp)]
    by_cases h0 : c2 = 0
    · obtain ⟨w1, w2, kk, w3, w4, w5⟩ := hr2 h0
      have hol : (one kk).length = kk + 1 := by simp [one]
      rw [if_pos h0, num_of_sod D r2 w1 w2 kk w3 w4 w5 19995 (by omega), bnd]; simp only []
      rw [if_pos trivial, if_pos (by omega)]
      have hz : rd (one kk) 0 = 1 := by
        have := one_at kk 0
        rw [if_pos rfl] at this
        simpa [rd] using this
      rw [hz, bne_self_eq_false, show (19995 : Nat) = 19994 + 1 from rfl, laws_FnSeries.j5, if_neg (by simp)]
      have := ones kk w3 a b r c x n r1 c1 kk 1 (by omega) (by omega) 19994 (by omega)
      rw [show (1 : Int) = ((1 : Nat) : Int) from rfl, this]
      exact J7 _ (by omega)
    · rw [if_neg h0]; exact J7 _ (by omega)

end Go.Proofs.Ythdalmlbpmljmaa.Pure
