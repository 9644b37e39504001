/- FnPermutationSeries: what the program computes is what the reference computes, for all arguments. -/
import Derived.Test.YtpegpdcdcfcgdaaEFnPermutationSeriesx10
namespace Go.Proofs.Ytpegpdcdcfcgdaa.Pure
open Go.RowKit Go.Proofs.Ytpegpdcdcfcgdaa.EFnPermutationSeries Go.Proofs.YtpegpdcdcfcgdaaW.PrintWords Go.Proofs.YtpegpdcdcfcgdaaW.PrintLast

/-- no definitional step: the kernel is never asked to compute what follows -/
theorem bnd {α β : Type} (a : α) (f : α → Option β) : (some a).bind f = f a := by
  have h : ∀ o : Option α, o = some a → o.bind f = f a := fun o h => by subst h; rfl
  exact h _ rfl
theorem wrap_in {x : Int} (h0 : -9223372036854775808 ≤ x) (h1 : x ≤ 9223372036854775807) : wrap64 x = x := by unfold wrap64; omega
theorem rd_mid (pre suf : List Int) (a : Int) : rd (pre ++ a :: suf) (pre.length : Int) = a := by simp [rd]
theorem step_k {n k : Nat} (h : n < k) : ∃ m, k = m + 1 := ⟨k - 1, by omega⟩
theorem getD_put (l : List Int) (i j : Nat) (v : Int) (h : i < l.length) : (l.set i v).getD j 0 = if i = j then v else l.getD j 0 := by
  simp only [List.getD_eq_getElem?_getD, List.getElem?_set]
  by_cases h1 : i = j
  · subst h1; simp [h]
  · simp [h1]
theorem ext_getD {l l' : List Int} (h : l.length = l'.length) (h2 : ∀ j, j < l.length → l.getD j 0 = l'.getD j 0) : l = l' := by
  apply List.ext_getElem h
  intro j h3 h4
  have := h2 j h3
  simpa [List.getD_eq_getElem?_getD, List.getElem?_eq_getElem h3, List.getElem?_eq_getElem h4] using this
theorem and_bd (x : Int) : 0 ≤ Go.bits .and .u64 x 16777215 ∧ Go.bits .and .u64 x 16777215 ≤ 16777215 := by
  have h : (BitVec.ofInt 64 x &&& BitVec.ofInt 64 16777215).toNat ≤ 16777215 := by
    rw [BitVec.toNat_and]; exact Nat.le_trans Nat.and_le_right (by decide)
  have e : Go.bits .and .u64 x 16777215 = IntKind.u64.wrap (((BitVec.ofInt 64 x &&& BitVec.ofInt 64 16777215).toNat : Nat) : Int) := rfl
  rw [e]
  generalize (BitVec.ofInt 64 x &&& BitVec.ofInt 64 16777215).toNat = n at h ⊢
  simp only [IntKind.wrap, IntKind.bits, IntKind.signed]
  simp
  omega
/-- what a source is drawn from: no more than 4096 bytes -/
def okB (s : List Int) : Prop := s.length ≤ 4096 ∧ ∀ i, 0 ≤ s.getD i 0 ∧ s.getD i 0 ≤ 255
theorem next_ok {s : List Int} (hs : okB s) (p q a : Int) (hp : 0 ≤ p ∧ p ≤ 4096) (ha : 1 ≤ a ∧ a ≤ 1000000) :
    ∃ v p' q', spec_l01Next.f s p q a = some (v, p', q') ∧ (0 ≤ v ∧ v < a) ∧ (0 ≤ p' ∧ p' ≤ 4096) := by
  have hm : ∀ x : Int, 0 ≤ x → 0 ≤ Int.tmod x a ∧ Int.tmod x a < a := fun x hx => ⟨Int.tmod_nonneg _ hx, Int.tmod_lt_of_pos _ (by omega)⟩
  have hb := and_bd ((IntKind.u64.wrap ((IntKind.u64.wrap (q * 6364136223846793005)) + 1442695040888963407)) / 8589934592)
  unfold spec_l01Next.f
  generalize Go.bits .and .u64 ((IntKind.u64.wrap ((IntKind.u64.wrap (q * 6364136223846793005)) + 1442695040888963407)) / 8589934592) 16777215 = b at hb ⊢
  rw [if_neg (by omega)]
  have eb : wrap64 b = b := wrap_in (by omega) (by omega)
  by_cases h : p < (s.length : Int)
  · have hl := hs.1
    have hv := hs.2 p.toNat
    have e1 : wrap64 (rd s p) = rd s p := wrap_in (by simp only [rd]; omega) (by simp only [rd]; omega)
    have e2 : wrap64 (b + rd s p) = b + rd s p := wrap_in (by simp only [rd]; omega) (by simp only [rd]; omega)
    have e3 : wrap64 (p + 1) = p + 1 := wrap_in (by omega) (by omega)
    rw [if_pos h, if_pos hp.1, if_neg (by omega), eb, e1, e2, e3]
    exact ⟨_, _, _, rfl, hm _ (by simp only [rd]; omega), by omega⟩
  · rw [if_neg h, if_neg (by omega), eb]
    exact ⟨_, _, _, rfl, hm _ (by omega), hp⟩
theorem pick_ok {s : List Int} (hs : okB s) (p q : Int) (l : List Int) (hp : 0 ≤ p ∧ p ≤ 4096) (hl : 1 ≤ l.length ∧ l.length ≤ 1000) :
    ∃ v p' q', spec_l01Pick.f s p q l = some (v, p', q') ∧ v ∈ l ∧ (0 ≤ p' ∧ p' ≤ 4096) := by
  obtain ⟨v, p', q', h, hv, hp'⟩ := next_ok hs p q l.length hp (by omega)
  unfold spec_l01Pick.f
  rw [h, bnd, if_pos (by show 0 ≤ v; omega), if_pos (by show v < _; omega)]
  refine ⟨_, _, _, rfl, ?_, hp'⟩
  show rd l v ∈ l
  simp only [rd, List.getD_eq_getElem?_getD]
  rw [List.getElem?_eq_getElem (by omega)]
  exact List.getElem_mem _
theorem from_loop (s : List Int) (hs : s.length ≤ 4096) : ∀ (m i : Nat) (q : Int), i + m = s.length → ∃ q', ∀ k, m < k → spec_l01From.l0 k s i s 0 q = some (s, 0, q') := by
  intro m
  induction m with
  | zero =>
    intro i q h
    refine ⟨q, fun k hk => ?_⟩
    obtain ⟨k, rfl⟩ := step_k hk
    simp only [spec_l01From.l0]; rw [if_neg (by omega)]
  | succ m ih =>
    intro i q h
    have e2 : wrap64 ((i : Int) + 1) = ((i + 1 : Nat) : Int) := by rw [wrap_in (by omega) (by omega)]; simp
    obtain ⟨q', h'⟩ := ih (i + 1) (IntKind.u64.wrap ((IntKind.u64.wrap ((IntKind.u64.wrap (q * 1099511628211)) + (IntKind.u64.wrap (rd s i)))) + 101)) (by omega)
    refine ⟨q', fun k hk => ?_⟩
    obtain ⟨k, rfl⟩ := step_k hk
    simp only [spec_l01From.l0]; rw [if_pos (by omega), if_pos (by omega), if_pos (by omega), e2]
    exact h' k (by omega)
theorem from_ok (s : List Int) (hs : okB s) : ∃ q', ∀ k, 5000 < k → spec_l01From.f k s = some (s, 0, q') := by
  obtain ⟨q', h⟩ := from_loop s hs.1 s.length 0 (IntKind.u64.wrap (12851 + (IntKind.u64.wrap ((s.length : Int))))) (by omega)
  refine ⟨q', fun k hk => ?_⟩
  unfold spec_l01From.f
  have := hs.1
  exact h k (by omega)
theorem okB_of {s : List Int} (h : s.length ≤ 4096) (h2 : ∀ x ∈ s, (Lit.int .u8 x).wf = true) : okB s := by
  refine ⟨h, fun i => ?_⟩
  by_cases hi : i < s.length
  · have := h2 _ (List.getElem_mem hi)
    rw [List.getD_eq_getElem?_getD, List.getElem?_eq_getElem hi]
    simp only [Option.getD_some]
    generalize s[i] = x at this ⊢
    simp [Lit.wf, IntKind.min, IntKind.max, IntKind.bits, IntKind.signed] at this
    omega
  · rw [List.getD_eq_getElem?_getD, List.getElem?_eq_none (by omega)]; simp
def okD (x : Int) : Bool := decide (1 ≤ x) && decide (x ≤ 40)
theorem okD_at {l : List Int} (h : l.all okD = true) (i : Nat) (hi : i < l.length) : 1 ≤ l.getD i 0 ∧ l.getD i 0 ≤ 40 := by
  have := List.all_eq_true.mp h _ (List.getElem_mem hi)
  simp only [okD, Bool.and_eq_true, decide_eq_true_eq] at this
  simpa [List.getD_eq_getElem?_getD, List.getElem?_eq_getElem hi] using this
/-- what one degree takes away -/
def back (y : List Int) (d j : Nat) : Int := if d ≤ j then y.getD (j - d) 0 else 0
def new (y : List Int) (d j : Nat) : Int := y.getD j 0 - back y d j
def news (y : List Int) (d : Nat) : List Int := (List.range y.length).map (new y d)
theorem news_at (y : List Int) (d j : Nat) (h : j < y.length) : (news y d).getD j 0 = new y d j := by
  simp [news, List.getD_eq_getElem?_getD, h]
theorem news_len (y : List Int) (d : Nat) : (news y d).length = y.length := by simp [news]
/-- what is known of a row in the making: its length, and that no number is below 0 or above B -/
def Bd (B : Int) (n : Nat) (y : List Int) : Prop := y.length = n ∧ ∀ i, 0 ≤ y.getD i 0 ∧ y.getD i 0 ≤ B
/-- one degree, from i on: the numbers from place i on have been left at most B, those ahead of i may be up to (i + 1) B -/
theorem getD_set (y : List Int) (i j : Nat) (v : Int) (hi : i < y.length) : (y.set i v).getD j 0 = if j = i then v else y.getD j 0 := by
  simp only [List.getD_eq_getElem?_getD, List.getElem?_set]
  by_cases h : i = j
  · subst h; simp [hi]
  · rw [if_neg h, if_neg (fun e => h e.symm)]
/-- behind a degree's round at place i: at most B times (place + 1) ahead of i, at most B from i on -/
def Mid (B : Int) (n i : Nat) (y : List Int) : Prop :=
  y.length = n ∧ ∀ j : Nat, 0 ≤ y.getD j 0 ∧ (j < i → y.getD j 0 ≤ B * ((j : Int) + 1)) ∧ (i ≤ j → y.getD j 0 ≤ B)
/-- one degree's round, under whatever is kept of the row -/
theorem ways_deg (l : List Int) (kk : Nat) (hkk : kk ≤ 40) (q : Nat) (d : Nat) (hd1 : 1 ≤ d) (hq : q < l.length) (hdl : l.getD q 0 = (d : Int)) (Q : Nat → List Int → Prop)
    (hlen : ∀ i y, Q i y → y.length = kk + 1) (hin : ∀ i y, Q i y → d ≤ i → i ≤ kk → wrap64 (y.getD i 0 + y.getD (i - d) 0) = y.getD i 0 + y.getD (i - d) 0)
    (hst : ∀ i y, Q i y → d ≤ i → i ≤ kk → Q (i + 1) (y.set i (y.getD i 0 + y.getD (i - d) 0))) :
    ∀ (m : Nat) (i : Nat) (y : List Int), d ≤ i → i ≤ kk + 1 → kk + 1 - i = m → Q i y →
      ∃ z, Q (kk + 1) z ∧
        (∀ k, m < k → spec_l04Of.l1 k l kk y q i = spec_l04Of.l0 (k - m - 1) l kk z (wrap64 ((q : Int) + 1))) ∧
        (∀ k, m < k → impl_ways.l1 k kk y d i l l.length q = impl_ways.l0 (k - m - 1) kk z l l.length (wrap64 ((q : Int) + 1))) := by
  intro m
  induction m with
  | zero =>
    intro i y h1 h2 h3 hM
    have hi : i = kk + 1 := by omega
    subst hi
    refine ⟨y, hM, ?_, ?_⟩
    · intro k hk; obtain ⟨k, rfl⟩ := step_k hk
      simp only [spec_l04Of.l1]; rw [if_neg (by omega)]; simp
    · intro k hk; obtain ⟨k, rfl⟩ := step_k hk
      simp only [impl_ways.l1]; rw [if_neg (by omega)]; simp
  | succ m ih =>
    intro i y h1 h2 h3 hM
    have hy := hlen i y hM
    have e2 : wrap64 ((i : Int) + 1) = ((i + 1 : Nat) : Int) := by rw [wrap_in (by omega) (by omega)]; simp
    have e3 : wrap64 ((i : Int) - d) = ((i - d : Nat) : Int) := by rw [wrap_in (by omega) (by omega)]; omega
    have e4 : wrap64 (rd y i + rd y ((i - d : Nat) : Int)) = y.getD i 0 + y.getD (i - d) 0 := by
      simp only [rd, Int.toNat_natCast]; exact hin i y hM h1 (by omega)
    have hrd : rd l (q : Int) = (d : Int) := by simp only [rd, Int.toNat_natCast]; exact hdl
    obtain ⟨z, hz, g1, g2⟩ := ih (i + 1) _ (by omega) (by omega) (by omega) (hst i y hM h1 (by omega))
    refine ⟨z, hz, ?_, ?_⟩
    · intro k hk; obtain ⟨k, rfl⟩ := step_k hk
      simp only [spec_l04Of.l1]
      rw [if_pos (by omega), if_pos (by omega), if_pos (by omega), if_pos (by omega), if_pos (by omega), hrd, e3, if_pos (by omega), if_pos (by omega), e4, e2, Int.toNat_natCast]
      rw [g1 k (by omega)]; congr 1; omega
    · intro k hk; obtain ⟨k, rfl⟩ := step_k hk
      simp only [impl_ways.l1]
      rw [if_pos (by omega), if_pos (by omega), if_pos (by omega), e3, if_pos (by omega), if_pos (by omega), e4, e2, Int.toNat_natCast]
      rw [g2 k (by omega)]; congr 1; omega
theorem mid_sum {B : Int} {n i d : Nat} {y : List Int} (hB0 : 0 ≤ B) (h : Mid B n i y) (hd1 : 1 ≤ d) (h1 : d ≤ i) :
    0 ≤ y.getD i 0 + y.getD (i - d) 0 ∧ y.getD i 0 + y.getD (i - d) 0 ≤ B * ((i : Int) + 1) := by
  have ha := h.2 i
  have hb := h.2 (i - d)
  have hb2 := hb.2.1 (by omega)
  have hBi : B * (((i - d : Nat) : Int) + 1) ≤ B * (i : Int) := Int.mul_le_mul_of_nonneg_left (by omega) hB0
  have hBs : B * ((i : Int) + 1) = B * i + B := by rw [Int.mul_add, Int.mul_one]
  have ha3 := ha.2.2 (Nat.le_refl _)
  omega
theorem ways_mid (l : List Int) (kk : Nat) (hkk : kk ≤ 40) (B : Int) (hB0 : 0 ≤ B) (hB : B ≤ 1000000000000) (q : Nat) (d : Nat) (hd1 : 1 ≤ d) (hq : q < l.length) (hdl : l.getD q 0 = (d : Int)) :
    ∀ (m : Nat) (i : Nat) (y : List Int), d ≤ i → i ≤ kk + 1 → kk + 1 - i = m → Mid B (kk + 1) i y →
      ∃ z, Mid B (kk + 1) (kk + 1) z ∧
        (∀ k, m < k → spec_l04Of.l1 k l kk y q i = spec_l04Of.l0 (k - m - 1) l kk z (wrap64 ((q : Int) + 1))) ∧
        (∀ k, m < k → impl_ways.l1 k kk y d i l l.length q = impl_ways.l0 (k - m - 1) kk z l l.length (wrap64 ((q : Int) + 1))) :=
  ways_deg l kk hkk q d hd1 hq hdl (Mid B (kk + 1)) (fun _ _ h => h.1)
    (fun i y h h1 h2 => by
      have := mid_sum hB0 h hd1 h1
      have hBm : B * ((i : Int) + 1) ≤ B * 41 := Int.mul_le_mul_of_nonneg_left (by omega) hB0
      exact wrap_in (by omega) (by omega))
    (fun i y h h1 h2 => by
      have hs := mid_sum hB0 h hd1 h1
      refine ⟨by simpa using h.1, fun j => ?_⟩
      rw [getD_set _ _ _ _ (by rw [h.1]; omega)]
      have hj := h.2 j
      by_cases hji : j = i
      · subst hji; rw [if_pos rfl]; refine ⟨hs.1, fun _ => hs.2, fun h => by omega⟩
      · rw [if_neg hji]; exact ⟨hj.1, fun h => hj.2.1 (by omega), fun h => hj.2.2 (by omega)⟩)
/-- the first degree's round: 0 and 1 -/
def Fst (n i : Nat) (y : List Int) : Prop := y.length = n ∧ ∀ j : Nat, 0 ≤ y.getD j 0 ∧ y.getD j 0 ≤ 1 ∧ (i ≤ j → 1 ≤ j → y.getD j 0 = 0)
theorem ways_fst (l : List Int) (kk : Nat) (hkk : kk ≤ 40) (q : Nat) (d : Nat) (hd1 : 1 ≤ d) (hq : q < l.length) (hdl : l.getD q 0 = (d : Int)) :
    ∀ (m : Nat) (i : Nat) (y : List Int), d ≤ i → i ≤ kk + 1 → kk + 1 - i = m → Fst (kk + 1) i y →
      ∃ z, Fst (kk + 1) (kk + 1) z ∧
        (∀ k, m < k → spec_l04Of.l1 k l kk y q i = spec_l04Of.l0 (k - m - 1) l kk z (wrap64 ((q : Int) + 1))) ∧
        (∀ k, m < k → impl_ways.l1 k kk y d i l l.length q = impl_ways.l0 (k - m - 1) kk z l l.length (wrap64 ((q : Int) + 1))) :=
  ways_deg l kk hkk q d hd1 hq hdl (Fst (kk + 1)) (fun _ _ h => h.1)
    (fun i y h h1 h2 => by have a := h.2 i; have b := h.2 (i - d); exact wrap_in (by omega) (by omega))
    (fun i y h h1 h2 => by
      refine ⟨by simpa using h.1, fun j => ?_⟩
      rw [getD_set _ _ _ _ (by rw [h.1]; omega)]
      have hj := h.2 j
      have a := h.2 i
      have a3 := a.2.2 (Nat.le_refl _) (by omega)
      have b := h.2 (i - d)
      by_cases hji : j = i
      · subst hji; rw [if_pos rfl]; refine ⟨by omega, by omega, fun h => by omega⟩
      · rw [if_neg hji]; exact ⟨hj.1, hj.2.1, fun h => hj.2.2 (by omega)⟩)
/-- the numbers behind one more degree are at most 41 times as great -/
theorem mid_bd {B : Int} {n : Nat} {z : List Int} (hB : 0 ≤ B) (hn : n ≤ 41) (h : Mid B n n z) : Bd (B * 41) n z := by
  refine ⟨h.1, fun i => ⟨(h.2 i).1, ?_⟩⟩
  by_cases hi : i < n
  · have h1 := (h.2 i).2.1 hi
    have h2 : B * ((i : Int) + 1) ≤ B * 41 := Int.mul_le_mul_of_nonneg_left (by omega) hB
    omega
  · have h1 := (h.2 i).2.2 (by omega)
    have : B * 1 ≤ B * 41 := Int.mul_le_mul_of_nonneg_left (by omega) hB
    omega
theorem bd_mid {B : Int} {n i : Nat} {y : List Int} (hB : 0 ≤ B) (h : Bd B n y) : Mid B n i y := by
  refine ⟨h.1, fun j => ⟨(h.2 j).1, fun _ => ?_, fun _ => (h.2 j).2⟩⟩
  have h1 := (h.2 j).2
  have : B * 1 ≤ B * ((j : Int) + 1) := Int.mul_le_mul_of_nonneg_left (by omega) hB
  omega
def up : Int → Nat → Int
  | B, 0 => B
  | B, m + 1 => up (B * 41) m
theorem up_ge : ∀ (m : Nat) (B : Int), 0 ≤ B → B ≤ up B m
  | 0, B, _ => Int.le_refl _
  | m + 1, B, h => by have := up_ge m (B * 41) (by omega); simp only [up]; omega
theorem ways_all (l : List Int) (kk : Nat) (hkk : kk ≤ 40) (hl : l.all okD = true) (hn : l.length ≤ 6) :
    ∀ (m : Nat) (q : Nat) (B : Int) (y : List Int), q ≤ l.length → l.length - q = m → 0 ≤ B → up B m ≤ 1000000000000 → Bd B (kk + 1) y →
      ∃ z, Bd (up B m) (kk + 1) z ∧ (∀ k, m * 44 < k → spec_l04Of.l0 k l kk y q = some z) ∧ (∀ k, m * 44 < k → impl_ways.l0 k kk y l l.length q = some z) := by
  intro m
  induction m with
  | zero =>
    intro q B y h1 h2 hB0 hB hy
    have hq : q = l.length := by omega
    subst hq
    refine ⟨y, hy, ?_, ?_⟩
    · intro k hk; obtain ⟨k, rfl⟩ := step_k hk
      simp only [spec_l04Of.l0]; rw [if_neg (by omega)]
    · intro k hk; obtain ⟨k, rfl⟩ := step_k hk
      simp only [impl_ways.l0]; rw [if_neg (by omega)]
  | succ m ih =>
    intro q B y h1 h2 hB0 hB hy
    have hq : q < l.length := by omega
    obtain ⟨d1, d2⟩ := okD_at hl q hq
    obtain ⟨d, hd⟩ : ∃ d : Nat, l.getD q 0 = (d : Int) := ⟨(l.getD q 0).toNat, by omega⟩
    simp only [up] at hB ⊢
    have hp2 := up_ge m (B * 41) (by omega)
    have e2 : wrap64 ((q : Int) + 1) = ((q + 1 : Nat) : Int) := by rw [wrap_in (by omega) (by omega)]; simp
    have hrd : rd l (q : Int) = (d : Int) := by simp only [rd, Int.toNat_natCast]; exact hd
    by_cases hdk : d ≤ kk + 1
    · obtain ⟨z1, hz1, g1, g2⟩ := ways_mid l kk hkk B hB0 (by omega) q d (by omega) hq hd (kk + 1 - d) d y (Nat.le_refl _) hdk rfl (bd_mid hB0 hy)
      obtain ⟨z, hz, f1, f2⟩ := ih (q + 1) (B * 41) z1 (by omega) (by omega) (by omega) (by omega) (mid_bd hB0 (by omega) hz1)
      refine ⟨z, hz, ?_, ?_⟩
      · intro k hk; obtain ⟨k, rfl⟩ := step_k hk
        simp only [spec_l04Of.l0]; rw [if_pos (by omega), if_pos (by omega), hrd, g1 k (by omega), e2]
        exact f1 _ (by omega)
      · intro k hk; obtain ⟨k, rfl⟩ := step_k hk
        simp only [impl_ways.l0]; rw [if_pos (by omega), if_pos (by omega), if_pos (by omega), hrd, g2 k (by omega), e2]
        exact f2 _ (by omega)
    · obtain ⟨z, hz, f1, f2⟩ := ih (q + 1) (B * 41) y (by omega) (by omega) (by omega) (by omega) (mid_bd hB0 (by omega) (bd_mid hB0 hy))
      refine ⟨z, hz, ?_, ?_⟩
      · intro k hk; obtain ⟨k, rfl⟩ := step_k hk
        simp only [spec_l04Of.l0]; rw [if_pos (by omega), if_pos (by omega), hrd]
        obtain ⟨k, rfl⟩ := step_k (n := m * 44) (k := k) (by omega)
        simp only [spec_l04Of.l1]; rw [if_neg (by omega), e2]
        exact f1 _ (by omega)
      · intro k hk; obtain ⟨k, rfl⟩ := step_k hk
        simp only [impl_ways.l0]; rw [if_pos (by omega), if_pos (by omega), if_pos (by omega), hrd]
        obtain ⟨k, rfl⟩ := step_k (n := m * 44) (k := k) (by omega)
        simp only [impl_ways.l1]; rw [if_neg (by omega), e2]
        exact f2 _ (by omega)
theorem start_is (kk : Nat) : Fst (kk + 1) 1 ((List.replicate (kk + 1) (0 : Int)).set 0 1) := by
  refine ⟨by simp, fun i => ?_⟩
  rw [getD_set _ _ _ _ (by simp)]
  by_cases h : i = 0
  · rw [if_pos h]; omega
  · rw [if_neg h]; simp only [List.getD_eq_getElem?_getD, List.getElem?_replicate]; split <;> simp
theorem fst_bd {n i : Nat} {y : List Int} (h : Fst n i y) : Bd 1 n y := ⟨h.1, fun j => ⟨(h.2 j).1, (h.2 j).2.1⟩⟩
theorem fst_later {n i j : Nat} {y : List Int} (h : Fst n i y) (hij : i ≤ j) : Fst n j y := ⟨h.1, fun p => ⟨(h.2 p).1, (h.2 p).2.1, fun hp => (h.2 p).2.2 (by omega)⟩⟩
theorem up5 : ∀ m, m ≤ 5 → up 1 m ≤ 115856201 := by decide
/-- one degree's round at place i, over what it began with -/
def Ch (y0 : List Int) (d n i : Nat) (y : List Int) : Prop := ∀ j, j < n → (j < i → y.getD j 0 = y0.getD j 0 + back y d j) ∧ (i ≤ j → y.getD j 0 = y0.getD j 0)
theorem ch_start (y0 : List Int) (d n : Nat) : Ch y0 d n d y0 := by
  intro j _
  refine ⟨fun h => ?_, fun _ => rfl⟩
  unfold back; rw [if_neg (by omega)]; simp
theorem ch_step {y0 : List Int} {d n i : Nat} {y : List Int} (hd : 1 ≤ d) (hl : i < y.length) (h1 : d ≤ i) (h : Ch y0 d n i y) :
    Ch y0 d n (i + 1) (y.set i (y.getD i 0 + y.getD (i - d) 0)) := by
  intro j hj
  have hbk : ∀ j, j ≤ i → back (y.set i (y.getD i 0 + y.getD (i - d) 0)) d j = back y d j := by
    intro j hj
    unfold back
    by_cases hh : d ≤ j
    · rw [if_pos hh, if_pos hh, getD_put _ _ _ _ hl, if_neg (by omega)]
    · rw [if_neg hh, if_neg hh]
  refine ⟨fun hji => ?_, fun hji => ?_⟩
  · rw [hbk j (by omega), getD_put _ _ _ _ hl]
    by_cases hh : i = j
    · subst hh; rw [if_pos rfl, (h i hj).2 (Nat.le_refl _)]; unfold back; rw [if_pos h1]
    · rw [if_neg hh]; exact (h j hj).1 (by omega)
  · rw [getD_put _ _ _ _ hl, if_neg (by omega)]; exact (h j hj).2 (by omega)
theorem ch_end {y0 : List Int} {d n : Nat} {y : List Int} (h0 : y0.length = n) (hy : y.length = n) (h : Ch y0 d n n y) : news y d = y0 := by
  refine ext_getD (by rw [news_len]; omega) (fun j hj => ?_)
  rw [news_len] at hj
  rw [news_at _ _ _ hj]; unfold new
  have := (h j (by omega)).1 (by omega)
  omega
theorem news_low (y : List Int) (d : Nat) (h : y.length ≤ d) : news y d = y := by
  refine ext_getD (news_len _ _) (fun j hj => ?_)
  rw [news_len] at hj
  rw [news_at _ _ _ hj]; unfold new back; rw [if_neg (by omega)]; simp
theorem ways_mid2 (l : List Int) (kk : Nat) (hkk : kk ≤ 40) (B : Int) (hB0 : 0 ≤ B) (hB : B ≤ 1000000000000) (q : Nat) (d : Nat) (hd1 : 1 ≤ d) (hq : q < l.length) (hdl : l.getD q 0 = (d : Int)) (y0 : List Int) :
    ∀ (m : Nat) (i : Nat) (y : List Int), d ≤ i → i ≤ kk + 1 → kk + 1 - i = m → Mid B (kk + 1) i y ∧ Ch y0 d (kk + 1) i y →
      ∃ z, (Mid B (kk + 1) (kk + 1) z ∧ Ch y0 d (kk + 1) (kk + 1) z) ∧
        (∀ k, m < k → spec_l04Of.l1 k l kk y q i = spec_l04Of.l0 (k - m - 1) l kk z (wrap64 ((q : Int) + 1))) ∧
        (∀ k, m < k → impl_ways.l1 k kk y d i l l.length q = impl_ways.l0 (k - m - 1) kk z l l.length (wrap64 ((q : Int) + 1))) :=
  ways_deg l kk hkk q d hd1 hq hdl (fun i y => Mid B (kk + 1) i y ∧ Ch y0 d (kk + 1) i y) (fun _ _ h => h.1.1)
    (fun i y h h1 h2 => by
      have := mid_sum hB0 h.1 hd1 h1
      have hBm : B * ((i : Int) + 1) ≤ B * 41 := Int.mul_le_mul_of_nonneg_left (by omega) hB0
      exact wrap_in (by omega) (by omega))
    (fun i y hh h1 h2 => by
      have h := hh.1
      have hs := mid_sum hB0 h hd1 h1
      refine ⟨⟨by simpa using h.1, fun j => ?_⟩, ch_step hd1 (by rw [h.1]; omega) h1 hh.2⟩
      rw [getD_set _ _ _ _ (by rw [h.1]; omega)]
      have hj := h.2 j
      by_cases hji : j = i
      · subst hji; rw [if_pos rfl]; refine ⟨hs.1, fun _ => hs.2, fun h => by omega⟩
      · rw [if_neg hji]; exact ⟨hj.1, fun h => hj.2.1 (by omega), fun h => hj.2.2 (by omega)⟩)
theorem ways_fst2 (l : List Int) (kk : Nat) (hkk : kk ≤ 40) (q : Nat) (d : Nat) (hd1 : 1 ≤ d) (hq : q < l.length) (hdl : l.getD q 0 = (d : Int)) (y0 : List Int) :
    ∀ (m : Nat) (i : Nat) (y : List Int), d ≤ i → i ≤ kk + 1 → kk + 1 - i = m → Fst (kk + 1) i y ∧ Ch y0 d (kk + 1) i y →
      ∃ z, (Fst (kk + 1) (kk + 1) z ∧ Ch y0 d (kk + 1) (kk + 1) z) ∧
        (∀ k, m < k → spec_l04Of.l1 k l kk y q i = spec_l04Of.l0 (k - m - 1) l kk z (wrap64 ((q : Int) + 1))) ∧
        (∀ k, m < k → impl_ways.l1 k kk y d i l l.length q = impl_ways.l0 (k - m - 1) kk z l l.length (wrap64 ((q : Int) + 1))) :=
  ways_deg l kk hkk q d hd1 hq hdl (fun i y => Fst (kk + 1) i y ∧ Ch y0 d (kk + 1) i y) (fun _ _ h => h.1.1)
    (fun i y h h1 h2 => by have a := h.1.2 i; have b := h.1.2 (i - d); exact wrap_in (by omega) (by omega))
    (fun i y hh h1 h2 => by
      have h := hh.1
      refine ⟨⟨by simpa using h.1, fun j => ?_⟩, ch_step hd1 (by rw [h.1]; omega) h1 hh.2⟩
      rw [getD_set _ _ _ _ (by rw [h.1]; omega)]
      have hj := h.2 j
      have a := h.2 i
      have a3 := a.2.2 (Nat.le_refl _) (by omega)
      have b := h.2 (i - d)
      by_cases hji : j = i
      · subst hji; rw [if_pos rfl]; refine ⟨by omega, by omega, fun h => by omega⟩
      · rw [if_neg hji]; exact ⟨hj.1, hj.2.1, fun h => hj.2.2 (by omega)⟩)
/-- degree after degree taken out -/
def fd (l : List Int) (y : List Int) : List Int := l.foldl (fun y d => news y d.toNat) y
theorem fd_cons (d : Int) (l y : List Int) : fd (d :: l) y = fd l (news y d.toNat) := rfl
theorem fd_snoc (d : Int) (l y : List Int) : fd (l ++ [d]) y = news (fd l y) d.toNat := by simp [fd]
theorem back_at (y : List Int) (d e j : Nat) (hj : j < y.length) : back (news y d) e j = if e ≤ j then new y d (j - e) else 0 := by
  unfold back
  by_cases h : e ≤ j
  · rw [if_pos h, if_pos h, news_at _ _ _ (by omega)]
  · rw [if_neg h, if_neg h]
theorem news_comm (y : List Int) (d e : Nat) : news (news y d) e = news (news y e) d := by
  refine ext_getD (by simp [news_len]) (fun j hj => ?_)
  simp only [news_len] at hj
  rw [news_at _ _ _ (by rw [news_len]; exact hj), news_at _ _ _ (by rw [news_len]; exact hj)]
  simp only [new]
  rw [back_at _ _ _ _ hj, back_at _ _ _ _ hj, news_at _ _ _ hj, news_at _ _ _ hj]
  simp only [new, back]
  by_cases h1 : e ≤ j <;> by_cases h2 : d ≤ j <;> simp only [h1, h2, if_true, if_false]
  · by_cases h3 : d ≤ j - e
    · rw [if_pos h3, if_pos (by omega), show j - e - d = j - d - e by omega]; omega
    · rw [if_neg h3, if_neg (by omega)]; omega
  · rw [if_neg (by omega)]; omega
  · rw [if_neg (by omega)]; omega
theorem fd_news (l : List Int) : ∀ (y : List Int) (d : Nat), fd l (news y d) = news (fd l y) d := by
  induction l with
  | nil => intro y d; rfl
  | cons e l ih => intro y d; rw [fd_cons, fd_cons, news_comm, ih]
theorem fd_rev (l : List Int) : ∀ y, fd l.reverse y = fd l y := by
  induction l with
  | nil => intro y; rfl
  | cons e l ih => intro y; rw [List.reverse_cons, fd_snoc, fd_cons, fd_news, ih]
theorem fd_len (l : List Int) : ∀ y, (fd l y).length = y.length := by
  induction l with
  | nil => intro y; rfl
  | cons e l ih => intro y; rw [fd_cons, ih, news_len]
theorem drop_at (l : List Int) (q : Nat) (hq : q < l.length) : l.drop q = l.getD q 0 :: l.drop (q + 1) := by
  rw [List.drop_eq_getElem_cons hq]; simp [List.getD_eq_getElem?_getD, List.getElem?_eq_getElem hq]
theorem ways_all2 (l : List Int) (kk : Nat) (hkk : kk ≤ 40) (hl : l.all okD = true) (hn : l.length ≤ 8) :
    ∀ (m : Nat) (q : Nat) (B : Int) (y : List Int), q ≤ l.length → l.length - q = m → 0 ≤ B → up B m ≤ 1000000000000 → Bd B (kk + 1) y →
      ∃ z, (Bd (up B m) (kk + 1) z ∧ fd (l.drop q) z = y) ∧ (∀ k, m * 44 < k → spec_l04Of.l0 k l kk y q = some z) ∧ (∀ k, m * 44 < k → impl_ways.l0 k kk y l l.length q = some z) := by
  intro m
  induction m with
  | zero =>
    intro q B y h1 h2 hB0 hB hy
    have hq : q = l.length := by omega
    subst hq
    refine ⟨y, ⟨hy, by simp [fd]⟩, ?_, ?_⟩
    · intro k hk; obtain ⟨k, rfl⟩ := step_k hk
      simp only [spec_l04Of.l0]; rw [if_neg (by omega)]
    · intro k hk; obtain ⟨k, rfl⟩ := step_k hk
      simp only [impl_ways.l0]; rw [if_neg (by omega)]
  | succ m ih =>
    intro q B y h1 h2 hB0 hB hy
    have hq : q < l.length := by omega
    obtain ⟨d1, d2⟩ := okD_at hl q hq
    obtain ⟨d, hd⟩ : ∃ d : Nat, l.getD q 0 = (d : Int) := ⟨(l.getD q 0).toNat, by omega⟩
    simp only [up] at hB ⊢
    have hp2 := up_ge m (B * 41) (by omega)
    have e2 : wrap64 ((q : Int) + 1) = ((q + 1 : Nat) : Int) := by rw [wrap_in (by omega) (by omega)]; simp
    have hrd : rd l (q : Int) = (d : Int) := by simp only [rd, Int.toNat_natCast]; exact hd
    have hdr := drop_at l q hq
    rw [hd] at hdr
    by_cases hdk : d ≤ kk + 1
    · obtain ⟨z1, ⟨hz1, hc1⟩, g1, g2⟩ := ways_mid2 l kk hkk B hB0 (by omega) q d (by omega) hq hd y (kk + 1 - d) d y (Nat.le_refl _) hdk rfl ⟨bd_mid hB0 hy, ch_start _ _ _⟩
      obtain ⟨z, ⟨hz, hf⟩, f1, f2⟩ := ih (q + 1) (B * 41) z1 (by omega) (by omega) (by omega) (by omega) (mid_bd hB0 (by omega) hz1)
      refine ⟨z, ⟨hz, ?_⟩, ?_, ?_⟩
      · rw [hdr, fd_cons, fd_news, hf, Int.toNat_natCast]; exact ch_end hy.1 hz1.1 hc1
      · intro k hk; obtain ⟨k, rfl⟩ := step_k hk
        simp only [spec_l04Of.l0]; rw [if_pos (by omega), if_pos (by omega), hrd, g1 k (by omega), e2]
        exact f1 _ (by omega)
      · intro k hk; obtain ⟨k, rfl⟩ := step_k hk
        simp only [impl_ways.l0]; rw [if_pos (by omega), if_pos (by omega), if_pos (by omega), hrd, g2 k (by omega), e2]
        exact f2 _ (by omega)
    · obtain ⟨z, ⟨hz, hf⟩, f1, f2⟩ := ih (q + 1) (B * 41) y (by omega) (by omega) (by omega) (by omega) (mid_bd hB0 (by omega) (bd_mid hB0 hy))
      refine ⟨z, ⟨hz, ?_⟩, ?_, ?_⟩
      · rw [hdr, fd_cons, fd_news, hf, Int.toNat_natCast]; exact news_low _ _ (by have := hy.1; omega)
      · intro k hk; obtain ⟨k, rfl⟩ := step_k hk
        simp only [spec_l04Of.l0]; rw [if_pos (by omega), if_pos (by omega), hrd]
        obtain ⟨k, rfl⟩ := step_k (n := m * 44) (k := k) (by omega)
        simp only [spec_l04Of.l1]; rw [if_neg (by omega), e2]
        exact f1 _ (by omega)
      · intro k hk; obtain ⟨k, rfl⟩ := step_k hk
        simp only [impl_ways.l0]; rw [if_pos (by omega), if_pos (by omega), if_pos (by omega), hrd]
        obtain ⟨k, rfl⟩ := step_k (n := m * 44) (k := k) (by omega)
        simp only [impl_ways.l1]; rw [if_neg (by omega), e2]
        exact f2 _ (by omega)
def one (kk : Nat) : List Int := (List.replicate (kk + 1) (0 : Int)).set 0 1
theorem up7 : ∀ m, m ≤ 7 → up 1 m ≤ 1000000000000 := by decide
theorem up_le : ∀ n, n ≤ 7 → ∀ m, m ≤ n → up 1 m ≤ up 1 n := by decide
theorem up5e : up 1 5 = 115856201 := by decide
/-- what both compute from the start on -/
theorem ways_both2 (l : List Int) (kk : Nat) (hkk : kk ≤ 40) (b : Nat) (hb : b ≤ 7) (hl : l.all okD = true) (hn : l.length ≤ b + 1) :
    ∃ z, (Bd (up 1 b) (kk + 1) z ∧ fd l z = one kk) ∧ (∀ k, 400 < k → spec_l04Of.f k l kk = some z) ∧ (∀ k, 400 < k → impl_ways.f k l kk = some z) := by
  have e1 : wrap64 ((kk : Int) + 1) = ((kk + 1 : Nat) : Int) := by rw [wrap_in (by omega) (by omega)]; simp
  suffices h : ∃ z, (Bd (up 1 b) (kk + 1) z ∧ fd l z = one kk) ∧ (∀ k, 400 < k → spec_l04Of.l0 k l kk (one kk) ((0 : Nat) : Int) = some z) ∧
      (∀ k, 400 < k → impl_ways.l0 k kk (one kk) l l.length ((0 : Nat) : Int) = some z) by
    obtain ⟨z, hz, h1, h2⟩ := h
    refine ⟨z, hz, fun k hk => ?_, fun k hk => ?_⟩
    · unfold spec_l04Of.f; rw [e1, if_pos (by omega), if_pos (by simp; omega)]; simp only [Option.bind_some]
      rw [if_pos (by simp only [List.length_replicate, Int.toNat_natCast]; omega)]; exact h1 k hk
    · unfold impl_ways.f; rw [e1, if_pos (by omega), if_pos (by simp; omega)]; simp only [Option.bind_some]
      rw [if_pos (by simp only [List.length_replicate, Int.toNat_natCast]; omega)]; exact h2 k hk
  by_cases h0 : l.length = 0
  · have hl0 : l = [] := List.eq_nil_of_length_eq_zero h0
    subst hl0
    refine ⟨_, ⟨⟨(start_is kk).1, fun i => ?_⟩, rfl⟩, fun k hk => ?_, fun k hk => ?_⟩
    · have := (start_is kk).2 i; have := up_ge b 1 (by omega); omega
    · obtain ⟨k, rfl⟩ := step_k hk; simp only [spec_l04Of.l0]; rw [if_neg (by simp)]; rfl
    · obtain ⟨k, rfl⟩ := step_k hk; simp only [impl_ways.l0]; rw [if_neg (by simp)]; rfl
  · obtain ⟨d1, d2⟩ := okD_at hl 0 (by omega)
    obtain ⟨d, hd⟩ : ∃ d : Nat, l.getD 0 0 = (d : Int) := ⟨(l.getD 0 0).toNat, by omega⟩
    have hrd : rd l ((0 : Nat) : Int) = (d : Int) := by simp only [rd, Int.toNat_natCast]; exact hd
    have e2 : wrap64 (((0 : Nat) : Int) + 1) = ((1 : Nat) : Int) := by rw [wrap_in (by omega) (by omega)]; simp
    have hdr := drop_at l 0 (by omega)
    rw [hd, List.drop_zero] at hdr
    by_cases hdk : d ≤ kk + 1
    · obtain ⟨z1, ⟨hz1, hc1⟩, g1, g2⟩ := ways_fst2 l kk hkk 0 d (by omega) (by omega) hd (one kk) (kk + 1 - d) d (one kk) (Nat.le_refl _) hdk rfl ⟨fst_later (start_is kk) (by omega), ch_start _ _ _⟩
      obtain ⟨z, ⟨hz, hf⟩, f1, f2⟩ := ways_all2 l kk hkk hl (by omega) (l.length - 1) 1 1 z1 (by omega) (by omega) (by omega) (up7 _ (by omega)) (fst_bd hz1)
      refine ⟨z, ⟨⟨hz.1, fun i => ⟨(hz.2 i).1, ?_⟩⟩, ?_⟩, ?_, ?_⟩
      · have h1 := (hz.2 i).2
        have := up_le b hb (l.length - 1) (by omega)
        omega
      · rw [hdr, fd_cons, fd_news, hf, Int.toNat_natCast]; exact ch_end (start_is kk).1 hz1.1 hc1
      · intro k hk; obtain ⟨k, rfl⟩ := step_k hk
        simp only [spec_l04Of.l0]; rw [if_pos (by omega), if_pos (by omega), hrd, g1 k (by omega), e2]
        exact f1 _ (by omega)
      · intro k hk; obtain ⟨k, rfl⟩ := step_k hk
        simp only [impl_ways.l0]; rw [if_pos (by omega), if_pos (by omega), if_pos (by omega), hrd, g2 k (by omega), e2]
        exact f2 _ (by omega)
    · obtain ⟨z, ⟨hz, hf⟩, f1, f2⟩ := ways_all2 l kk hkk hl (by omega) (l.length - 1) 1 1 (one kk) (by omega) (by omega) (by omega) (up7 _ (by omega)) (fst_bd (start_is kk))
      refine ⟨z, ⟨⟨hz.1, fun i => ⟨(hz.2 i).1, ?_⟩⟩, ?_⟩, ?_, ?_⟩
      · have h1 := (hz.2 i).2
        have := up_le b hb (l.length - 1) (by omega)
        omega
      · rw [hdr, fd_cons, fd_news, hf, Int.toNat_natCast]; exact news_low _ _ (by have := (start_is kk).1; unfold one; omega)
      · intro k hk; obtain ⟨k, rfl⟩ := step_k hk
        simp only [spec_l04Of.l0]; rw [if_pos (by omega), if_pos (by omega), hrd]
        obtain ⟨k, rfl⟩ := step_k (n := 300) (k := k) (by omega)
        simp only [spec_l04Of.l1]; rw [if_neg (by omega), e2]
        exact f1 _ (by omega)
      · intro k hk; obtain ⟨k, rfl⟩ := step_k hk
        simp only [impl_ways.l0]; rw [if_pos (by omega), if_pos (by omega), if_pos (by omega), hrd]
        obtain ⟨k, rfl⟩ := step_k (n := 300) (k := k) (by omega)
        simp only [impl_ways.l1]; rw [if_neg (by omega), e2]
        exact f2 _ (by omega)
/-- nothing below 0 behind what all degrees take out: nothing below 0 ahead of it -/
theorem news_nn (y : List Int) (d : Nat) (hd : 1 ≤ d) (h : ∀ j, 0 ≤ (news y d).getD j 0) : ∀ j, 0 ≤ y.getD j 0 := by
  intro j
  induction j using Nat.strongRecOn with
  | ind j ih =>
    by_cases hj : j < y.length
    · have h1 := h j
      rw [news_at _ _ _ hj] at h1
      unfold new back at h1
      by_cases hh : d ≤ j
      · rw [if_pos hh] at h1; have := ih (j - d) (by omega); omega
      · rw [if_neg hh] at h1; omega
    · rw [List.getD_eq_getElem?_getD, List.getElem?_eq_none (by omega)]; simp
theorem fd_nn (l : List Int) (hl : l.all okD = true) : ∀ y, (∀ j, 0 ≤ (fd l y).getD j 0) → ∀ j, 0 ≤ y.getD j 0 := by
  induction l with
  | nil => intro y h; exact h
  | cons e l ih =>
    intro y h
    simp only [List.all_cons, Bool.and_eq_true] at hl
    rw [fd_cons] at h
    refine news_nn y e.toNat ?_ (ih hl.2 _ h)
    have := hl.1; simp only [okD, Bool.and_eq_true, decide_eq_true_eq] at this; omega
/-! ### permutations and their cycles -/
def upd (b : Nat → Bool) (v : Nat) : Nat → Bool := fun j => if j = v then true else b j
theorem upd_at (b : Nat → Bool) (v j : Nat) : upd b v j = if j = v then true else b j := rfl
def inR (n : Nat) (v : Int) : Bool := decide (0 ≤ v) && decide (v < (n : Int))
def pm (n : Nat) : List Int → (Nat → Bool) → Bool
  | [], _ => true
  | v :: vs, b => if inR n v = true then (if b v.toNat = true then false else pm n vs (upd b v.toNat)) else false
theorem pm_nil (n : Nat) (b : Nat → Bool) : pm n [] b = true := rfl
theorem pm_cons (n : Nat) (v : Int) (vs : List Int) (b : Nat → Bool) : pm n (v :: vs) b = if inR n v = true then (if b v.toNat = true then false else pm n vs (upd b v.toNat)) else false := rfl
theorem rdI (l : List Int) (i : Nat) : rd l (i : Int) = l.getD i 0 := by unfold rd; rw [Int.toNat_natCast]
theorem sIn4_is (x lo hi : Int) : spec_l01In.f x lo hi = some (decide (lo ≤ x) && decide (x ≤ hi)) := by
  unfold spec_l01In.f
  by_cases h : x ≥ lo
  · rw [if_pos h]; simp only [ge_iff_le] at h; simp [h]
  · rw [if_neg h]; simp only [ge_iff_le] at h; simp [h]
theorem inR_iff {n : Nat} {v : Int} : inR n v = true ↔ 0 ≤ v ∧ v < (n : Int) := by unfold inR; simp only [Bool.and_eq_true, decide_eq_true_eq]
theorem chain8 {α : Type} (v : Int) (w : Nat) (hv : v = (w : Int)) (hw : w < 8) (f : Nat → α) (z : α) :
    (if v = 0 then f 0 else if v = 1 then f 1 else if v = 2 then f 2 else if v = 3 then f 3 else if v = 4 then f 4 else if v = 5 then f 5 else if v = 6 then f 6 else if v = 7 then f 7 else z) = f w := by
  subst hv
  rcases (by omega : w = 0 ∨ w = 1 ∨ w = 2 ∨ w = 3 ∨ w = 4 ∨ w = 5 ∨ w = 6 ∨ w = 7) with rfl | rfl | rfl | rfl | rfl | rfl | rfl | rfl <;> rfl
theorem drop_cons (l : List Int) (i : Nat) (h : i < l.length) : l.drop i = l.getD i 0 :: l.drop (i + 1) := by
  rw [List.drop_eq_getElem_cons h, List.getD_eq_getElem?_getD, List.getElem?_eq_getElem h]; rfl
theorem wrap_suc (i : Nat) (h : i ≤ 1000000000) : wrap64 ((i : Int) + 1) = ((i + 1 : Nat) : Int) := by rw [wrap_in (by omega) (by omega)]; simp
theorem perm_is (l : List Int) (h8 : l.length ≤ 8) : ∀ (m i k : Nat) (b : Nat → Bool), i + m = l.length →
    spec_l04Permutation.l0 (k + (2 * m + 2)) l i (b 0) (b 1) (b 2) (b 3) (b 4) (b 5) (b 6) (b 7) = some (if pm l.length (l.drop i) b = true then decide (1 ≤ l.length) else false) := by
  intro m
  induction m with
  | zero =>
    intro i k b h1
    rw [show k + (2 * 0 + 2) = (k + 1) + 1 from rfl]
    simp only [spec_l04Permutation.l0]
    rw [if_neg (by omega)]
    simp only [spec_l04Permutation.j1]
    rw [if_neg (by decide), List.drop_eq_nil_of_le (by omega)]
    rw [pm_nil, if_pos rfl]
    by_cases h : (l.length : Int) ≥ 1
    · rw [if_pos h, decide_eq_true (by omega : (l.length : Int) ≤ 8), decide_eq_true (by omega : 1 ≤ l.length)]
    · rw [if_neg h, decide_eq_false (by omega : ¬ 1 ≤ l.length)]
  | succ m ih =>
    intro i k b h1
    have e1 : wrap64 ((l.length : Int) - 1) = (l.length : Int) - 1 := wrap_in (by omega) (by omega)
    rw [show k + (2 * (m + 1) + 2) = ((k + (2 * m + 2)) + 1) + 1 from by omega]
    simp only [spec_l04Permutation.l0]
    rw [if_pos (by omega), decide_eq_true (by omega : (l.length : Int) ≤ 8)]
    simp only [spec_l04Permutation.j1]
    rw [if_pos trivial, if_pos (by omega), if_pos (by omega), sIn4_is, bnd, e1, rdI, drop_cons l i (by omega), wrap_suc i (by omega), pm_cons]
    by_cases hr : inR l.length (l.getD i 0) = true
    · have hr' := inR_iff.1 hr
      obtain ⟨w, hw⟩ : ∃ w : Nat, l.getD i 0 = (w : Int) := ⟨(l.getD i 0).toNat, by omega⟩
      rw [if_pos hr, if_pos (by rw [decide_eq_true hr'.1, decide_eq_true (by omega : l.getD i 0 ≤ (l.length : Int) - 1)]; rfl)]
      refine (chain8 (l.getD i 0) w hw (by omega) (fun j => if b j = true then some false else spec_l04Permutation.l0 (k + (2 * m + 2)) l ((i + 1 : Nat) : Int) (upd b j 0) (upd b j 1) (upd b j 2) (upd b j 3) (upd b j 4) (upd b j 5) (upd b j 6) (upd b j 7)) none).trans ?_
      rw [show (l.getD i 0).toNat = w from by omega]
      by_cases hb : b w = true
      · show (if b w = true then _ else _) = _
        rw [if_pos hb, if_pos hb, if_neg (by decide)]
      · show (if b w = true then _ else _) = _
        rw [if_neg hb, if_neg hb]
        exact ih (i + 1) k (upd b w) (by omega)
    · have hr' : ¬ (0 ≤ l.getD i 0 ∧ l.getD i 0 < (l.length : Int)) := fun h => hr (inR_iff.2 h)
      rw [if_neg hr, if_neg (by simp only [Bool.and_eq_true, decide_eq_true_eq]; omega)]; rfl
theorem pm_iff (n : Nat) : ∀ (vs : List Int) (b : Nat → Bool), pm n vs b = true ↔ (∀ v ∈ vs, inR n v = true ∧ b v.toNat = false) ∧ vs.Nodup := by
  intro vs
  induction vs with
  | nil => intro b; simp [pm]
  | cons v vs ih =>
    intro b
    rw [pm_cons]
    by_cases hr : inR n v = true
    · rw [if_pos hr]
      by_cases hb : b v.toNat = true
      · rw [if_pos hb]
        constructor
        · intro h; cases h
        · intro h; have := (h.1 v (by simp)).2; rw [hb] at this; cases this
      · rw [if_neg hb, ih]
        have hb' : b v.toNat = false := by simpa using hb
        have hr' := inR_iff.1 hr
        constructor
        · rintro ⟨h1, h2⟩
          refine ⟨fun x hx => ?_, List.nodup_cons.2 ⟨fun hv => ?_, h2⟩⟩
          · rcases List.mem_cons.1 hx with rfl | hx
            · exact ⟨hr, hb'⟩
            · have := h1 x hx
              refine ⟨this.1, ?_⟩
              have h3 := this.2
              rw [upd_at] at h3
              by_cases e : x.toNat = v.toNat
              · rw [if_pos e] at h3; cases h3
              · rwa [if_neg e] at h3
          · have := (h1 v hv).2
            rw [upd_at, if_pos rfl] at this; cases this
        · rintro ⟨h1, h2⟩
          rw [List.nodup_cons] at h2
          refine ⟨fun x hx => ?_, h2.2⟩
          have := h1 x (by simp [hx])
          refine ⟨this.1, ?_⟩
          rw [upd_at, if_neg ?_]
          · exact this.2
          · intro e
            have hx' := inR_iff.1 this.1
            have : x = v := by omega
            subst this
            exact h2.1 hx
    · rw [if_neg hr]
      constructor
      · intro h; cases h
      · intro h; exact absurd (h.1 v (by simp)).1 hr
/-! ### the walk along a cycle -/
def unseen : Nat → (Nat → Bool) → Nat
  | 0, _ => 0
  | n + 1, b => unseen n b + (if b n = true then 0 else 1)
theorem unseen_ge (n x : Nat) (b : Nat → Bool) (h : n ≤ x) : unseen n (upd b x) = unseen n b := by
  induction n with
  | zero => rfl
  | succ n ih => simp only [unseen]; rw [ih (by omega), show upd b x n = b n from if_neg (by omega)]
theorem unseen_upd (n x : Nat) (b : Nat → Bool) (h : x < n) (hb : ¬ b x = true) : unseen n (upd b x) + 1 = unseen n b := by
  induction n with
  | zero => omega
  | succ n ih =>
    simp only [unseen]
    by_cases e : x = n
    · subst e; rw [unseen_ge x x b (by omega), upd_at, if_pos rfl, if_pos rfl, if_neg hb]
    · have := ih (by omega)
      rw [show upd b x n = b n from if_neg (by omega)]; omega
theorem unseen_le (n : Nat) (b : Nat → Bool) : unseen n b ≤ n := by
  induction n with
  | zero => exact Nat.le_refl _
  | succ n ih => simp only [unseen]; split <;> omega
theorem unseen_zero (n : Nat) (b : Nat → Bool) (h : ∀ j, j < n → b j = true) : unseen n b = 0 := by
  induction n with
  | zero => rfl
  | succ n ih => simp only [unseen]; rw [ih (fun j hj => h j (by omega)), if_pos (h n (by omega))]
theorem unseen_all (n : Nat) : unseen n (fun _ => false) = n := by
  induction n with
  | zero => rfl
  | succ n ih => simp only [unseen]; rw [ih, if_neg (by decide)]
def sumL : List Int → Int
  | [] => 0
  | x :: xs => x + sumL xs
theorem sumL_perm {a b : List Int} (h : a.Perm b) : sumL a = sumL b := by
  induction h with
  | nil => rfl
  | cons x _ ih => simp only [sumL]; rw [ih]
  | swap x y l => simp only [sumL]; omega
  | trans _ _ i j => exact i.trans j
theorem rdB (l : List Bool) (i : Nat) : rdOf false l (i : Int) = l.getD i false := by unfold rdOf; rw [Int.toNat_natCast]
theorem walk_is (l : List Int) (h8 : l.length ≤ 8) (hf : ∀ j, j < l.length → inR l.length (l.getD j 0) = true) : ∀ (m : Nat) (b : Nat → Bool) (s : List Bool) (x c : Nat), unseen l.length b ≤ m → x < l.length → s.length = l.length → (∀ j, j < l.length → s.getD j false = b j) → c + m ≤ 100 →
    ∃ (c' : Nat) (b' : Nat → Bool) (s' : List Bool) (t : Nat), c' ≤ c + m ∧ (¬ b x = true → c < c') ∧ c ≤ c' ∧ (unseen l.length b' + c' = unseen l.length b + c ∧ (∀ j, b j = true → b' j = true) ∧ b' x = true) ∧ s'.length = l.length ∧ (∀ j, j < l.length → s'.getD j false = b' j) ∧
      (∀ (k : Nat) (out : List Int) (i : Int), spec_l04Cycles.l1 (k + t) l out i c x (b 0) (b 1) (b 2) (b 3) (b 4) (b 5) (b 6) (b 7) = spec_l04Cycles.j2 k l out i c' (b' 0) (b' 1) (b' 2) (b' 3) (b' 4) (b' 5) (b' 6) (b' 7)) ∧
      (∀ (k : Nat) (out : List Int) (x3 x6 x7 x12 x13 x25 x28 x29 x31 x32 : Int), impl_cycleType.l1 (k + t) l x3 s out x6 x7 c x x12 x13 x25 x28 x29 x31 x32 =
        (if (c' : Int) > 0 then (if out.length < 17592186044416 then impl_cycleType.l0 k l x3 s' (out ++ [(c' : Int)]) (wrap64 (x6 + (c' : Int))) x12 x13 x25 x28 (wrap64 (x29 + 1)) else none) else impl_cycleType.l0 k l x3 s' out (wrap64 (x6 + (c' : Int))) x12 x13 x25 x28 (wrap64 (x29 + 1)))) := by
  intro m
  induction m with
  | zero =>
    intro b s x c hu hx hs ha hc
    have hb : b x = true := by
      cases hh : b x with
      | true => rfl
      | false => have := unseen_upd l.length x b hx (by simp [hh]); omega
    refine ⟨c, b, s, 1, by omega, fun h => absurd hb h, Nat.le_refl _, ⟨rfl, fun _ h => h, hb⟩, hs, ha, fun k out i => ?_, fun k out x3 x6 x7 x12 x13 x25 x28 x29 x31 x32 => ?_⟩
    · simp only [spec_l04Cycles.l1]
      refine (chain8 (x : Int) x rfl (by omega) (fun j => if b j = true then spec_l04Cycles.j2 k l out i c (b 0) (b 1) (b 2) (b 3) (b 4) (b 5) (b 6) (b 7) else (if (j : Int) < (l.length : Int) then spec_l04Cycles.l1 k l out i (wrap64 ((c : Int) + 1)) (rd l (j : Int)) (upd b j 0) (upd b j 1) (upd b j 2) (upd b j 3) (upd b j 4) (upd b j 5) (upd b j 6) (upd b j 7) else none)) none).trans ?_
      show (if b x = true then _ else _) = _
      rw [if_pos hb]
    · simp only [impl_cycleType.l1]
      rw [if_pos (by omega), if_pos (by omega), rdB, ha x hx, if_pos hb]
  | succ m ih =>
    intro b s x c hu hx hs ha hc
    by_cases hb : b x = true
    · refine ⟨c, b, s, 1, by omega, fun h => absurd hb h, Nat.le_refl _, ⟨rfl, fun _ h => h, hb⟩, hs, ha, fun k out i => ?_, fun k out x3 x6 x7 x12 x13 x25 x28 x29 x31 x32 => ?_⟩
      · simp only [spec_l04Cycles.l1]
        refine (chain8 (x : Int) x rfl (by omega) (fun j => if b j = true then spec_l04Cycles.j2 k l out i c (b 0) (b 1) (b 2) (b 3) (b 4) (b 5) (b 6) (b 7) else (if (j : Int) < (l.length : Int) then spec_l04Cycles.l1 k l out i (wrap64 ((c : Int) + 1)) (rd l (j : Int)) (upd b j 0) (upd b j 1) (upd b j 2) (upd b j 3) (upd b j 4) (upd b j 5) (upd b j 6) (upd b j 7) else none)) none).trans ?_
        show (if b x = true then _ else _) = _
        rw [if_pos hb]
      · simp only [impl_cycleType.l1]
        rw [if_pos (by omega), if_pos (by omega), rdB, ha x hx, if_pos hb]
    · have hr := inR_iff.1 (hf x hx)
      obtain ⟨y, hy⟩ : ∃ y : Nat, l.getD x 0 = (y : Int) := ⟨(l.getD x 0).toNat, by omega⟩
      have hu' := unseen_upd l.length x b hx hb
      obtain ⟨c', b', s', t, g1, g2, g3, ⟨u1, u2, u3⟩, g4, g5, g6, g7⟩ := ih (upd b x) (s.set x true) y (c + 1) (by omega) (by omega) (by rw [List.length_set]; exact hs) (fun j hj => by
        rw [upd_at, List.getD_eq_getElem?_getD, List.getElem?_set]
        by_cases e : x = j
        · subst e; rw [if_pos rfl, if_pos rfl, if_pos (by omega)]; rfl
        · rw [if_neg e, if_neg (Ne.symm e), ← List.getD_eq_getElem?_getD]; exact ha j hj) (by omega)
      refine ⟨c', b', s', t + 1, by omega, fun _ => by omega, by omega, ⟨by omega, fun j hj => u2 j (by rw [upd_at]; split <;> first | rfl | exact hj), u2 x (by rw [upd_at, if_pos rfl])⟩, g4, g5, fun k out i => ?_, fun k out x3 x6 x7 x12 x13 x25 x28 x29 x31 x32 => ?_⟩
      · rw [show k + (t + 1) = (k + t) + 1 from rfl]
        simp only [spec_l04Cycles.l1]
        refine (chain8 (x : Int) x rfl (by omega) (fun j => if b j = true then spec_l04Cycles.j2 (k + t) l out i c (b 0) (b 1) (b 2) (b 3) (b 4) (b 5) (b 6) (b 7) else (if (j : Int) < (l.length : Int) then spec_l04Cycles.l1 (k + t) l out i (wrap64 ((c : Int) + 1)) (rd l (j : Int)) (upd b j 0) (upd b j 1) (upd b j 2) (upd b j 3) (upd b j 4) (upd b j 5) (upd b j 6) (upd b j 7) else none)) none).trans ?_
        show (if b x = true then _ else _) = _
        rw [if_neg hb, if_pos (by omega), rdI, hy, wrap_suc c (by omega)]
        exact g6 k out i
      · rw [show k + (t + 1) = (k + t) + 1 from rfl]
        simp only [impl_cycleType.l1]
        rw [if_pos (by omega), if_pos (by omega), rdB, ha x hx, if_neg hb, if_pos (by omega), rdI, hy, wrap_suc c (by omega), Int.toNat_natCast]
        exact g7 k out x3 x6 x7 x12 x13 x25 x28 x29 x31 x32
/-! ### the reference's insertion -/
theorem own4_is (l : List Int) (h : l.length ≤ 1000000000) : spec_l01Own.f l = some l := by
  unfold spec_l01Own.f
  rw [bnd, if_pos (by rw [List.length_nil]; omega), List.nil_append]
theorem ins_fin (out : List Int) (c : Int) (a : Nat) (hp : out.Pairwise (fun x y => y ≤ x)) (ha : a ≤ out.length) (h1 : ∀ j, a ≤ j → j < out.length → out.getD j 0 < c) (h2 : ∀ j, j < a → c ≤ out.getD j 0) :
    (out.take a ++ ([c] ++ out.drop a)).Pairwise (fun x y => y ≤ x) ∧ (out.take a ++ ([c] ++ out.drop a)).Perm (c :: out) := by
  refine ⟨?_, ?_⟩
  · rw [List.singleton_append, List.pairwise_append, List.pairwise_cons]
    refine ⟨hp.sublist (List.take_sublist _ _), ⟨fun x hx => ?_, hp.sublist (List.drop_sublist _ _)⟩, fun x hx y hy => ?_⟩
    · obtain ⟨j, hj, rfl⟩ := List.getElem_of_mem hx
      rw [List.length_drop] at hj
      rw [List.getElem_drop]
      have := h1 (a + j) (by omega) (by omega)
      rw [List.getD_eq_getElem?_getD, List.getElem?_eq_getElem (by omega), Option.getD_some] at this
      omega
    · obtain ⟨j, hj, rfl⟩ := List.getElem_of_mem hx
      rw [List.length_take] at hj
      rw [List.getElem_take]
      have hcj := h2 j (by omega)
      rw [List.getD_eq_getElem?_getD, List.getElem?_eq_getElem (by omega), Option.getD_some] at hcj
      rcases List.mem_cons.1 hy with rfl | hy
      · exact hcj
      · obtain ⟨q, hq, rfl⟩ := List.getElem_of_mem hy
        rw [List.length_drop] at hq
        rw [List.getElem_drop]
        have := h1 (a + q) (by omega) (by omega)
        rw [List.getD_eq_getElem?_getD, List.getElem?_eq_getElem (by omega), Option.getD_some] at this
        omega
  · rw [List.singleton_append]
    refine List.perm_middle.trans ?_
    rw [List.take_append_drop]
theorem ins_is (l out : List Int) (i c : Nat) (hc : 0 < c) (hcc : c ≤ 1000) (b : Nat → Bool) (hp : out.Pairwise (fun x y => y ≤ x)) (hol : out.length ≤ 1000) : ∀ a : Nat, a ≤ out.length → (∀ j, a ≤ j → j < out.length → out.getD j 0 < (c : Int)) →
    ∃ (out' : List Int) (t : Nat), out'.Pairwise (fun x y => y ≤ x) ∧ out'.Perm ((c : Int) :: out) ∧ ∀ k, spec_l04Cycles.l2 (k + t) l out i c a (b 0) (b 1) (b 2) (b 3) (b 4) (b 5) (b 6) (b 7) = spec_l04Cycles.l0 k l out' (wrap64 ((i : Int) + 1)) (b 0) (b 1) (b 2) (b 3) (b 4) (b 5) (b 6) (b 7) := by
  intro a
  induction a with
  | zero =>
    intro ha h1
    obtain ⟨f1, f2⟩ := ins_fin out c 0 hp (by omega) h1 (fun j hj => by omega)
    refine ⟨_, 1, f1, f2, fun k => ?_⟩
    simp only [spec_l04Cycles.l2]
    rw [if_neg (by omega), if_pos (by omega), bnd, if_pos (by omega), if_pos (by omega), bnd, show ((0 : Nat) : Int).toNat = 0 from rfl, if_pos (by simp only [List.length_cons, List.length_nil, List.length_drop]; omega), bnd, own4_is _ (by rw [List.length_take]; omega), bnd, if_pos (by simp only [List.length_append, List.length_cons, List.length_nil, List.length_drop, List.length_take]; omega)]
  | succ a ih =>
    intro ha h1
    have e1 : wrap64 (((a + 1 : Nat) : Int) - 1) = (a : Int) := by rw [wrap_in (by omega) (by omega)]; omega
    by_cases hlt : out.getD a 0 < (c : Int)
    · obtain ⟨out', t, f1, f2, f3⟩ := ih (by omega) (fun j hj hj2 => by
        by_cases e : j = a
        · subst e; exact hlt
        · exact h1 j (by omega) hj2)
      refine ⟨out', t + 1, f1, f2, fun k => ?_⟩
      rw [show k + (t + 1) = (k + t) + 1 from rfl]
      simp only [spec_l04Cycles.l2]
      rw [if_pos (by omega), e1, if_pos (by omega), if_pos (by omega), rdI, if_pos hlt]
      exact f3 k
    · have hmono : ∀ j, j < a + 1 → (c : Int) ≤ out.getD j 0 := by
        intro j hj
        by_cases e : j = a
        · subst e; omega
        · have hpw := List.pairwise_iff_getElem.1 hp j a (by omega) (by omega) (by omega)
          rw [List.getD_eq_getElem?_getD, List.getElem?_eq_getElem (by omega), Option.getD_some] at hlt ⊢
          omega
      obtain ⟨f1, f2⟩ := ins_fin out c (a + 1) hp ha h1 hmono
      refine ⟨_, 1, f1, f2, fun k => ?_⟩
      simp only [spec_l04Cycles.l2]
      rw [if_pos (by omega), e1, if_pos (by omega), if_pos (by omega), rdI, if_neg hlt, if_pos (by omega), bnd, if_pos (by omega), if_pos (by omega), bnd, Int.toNat_natCast, if_pos (by simp only [List.length_cons, List.length_nil, List.length_drop]; omega), bnd, own4_is _ (by rw [List.length_take]; omega), bnd, if_pos (by simp only [List.length_append, List.length_cons, List.length_nil, List.length_drop, List.length_take]; omega)]
theorem ins0_is (l out : List Int) (i : Nat) (b : Nat → Bool) (hpos : ∀ x ∈ out, 1 ≤ x) (hol : out.length ≤ 1000) : ∀ k, spec_l04Cycles.l2 (k + 1) l out i ((0 : Nat) : Int) out.length (b 0) (b 1) (b 2) (b 3) (b 4) (b 5) (b 6) (b 7) = spec_l04Cycles.l0 k l out (wrap64 ((i : Int) + 1)) (b 0) (b 1) (b 2) (b 3) (b 4) (b 5) (b 6) (b 7) := by
  intro k
  simp only [spec_l04Cycles.l2]
  by_cases h0 : out.length = 0
  · rw [if_neg (by omega), if_neg (by omega)]
  · have e1 : wrap64 ((out.length : Int) - 1) = ((out.length - 1 : Nat) : Int) := by rw [wrap_in (by omega) (by omega)]; omega
    have hx : 1 ≤ out.getD (out.length - 1) 0 := by
      rw [List.getD_eq_getElem?_getD, List.getElem?_eq_getElem (by omega), Option.getD_some]
      exact hpos _ (List.getElem_mem _)
    rw [if_pos (by omega), e1, if_pos (by omega), if_pos (by omega), rdI, if_neg (by omega), if_neg (by omega)]
open Go.Proofs.YtpegpdcdcfcgdaaX
/-! ### both lists of lengths -/
def tailI (l ri : List Int) : Option (List Int) := (slices_Clone_int64_int64.f l).bind fun t195 => ((slices_Sort.f t195).bind fun t198 => ((slices_Compact.f t198).bind fun t199 => (if (t199.length : Int) = (l.length : Int) then ((slices_Sort.f ri).bind fun t202 => ((slices_Reverse.f t202).bind fun t203 => (some t203))) else (some ([] : List Int)))))
theorem cyc_is (l : List Int) (h8 : l.length ≤ 8) (hf : ∀ j, j < l.length → inR l.length (l.getD j 0) = true) : ∀ (m i : Nat) (b : Nat → Bool) (s : List Bool) (oS oI : List Int), i + m = l.length → s.length = l.length → (∀ j, j < l.length → s.getD j false = b j) → oS.Pairwise (fun x y => y ≤ x) → oS.Perm oI → (∀ x ∈ oS, 1 ≤ x ∧ x ≤ 8) → oS.length ≤ i → sumL oS + (unseen l.length b : Int) = l.length → (∀ j, j < i → b j = true) →
    ∃ (r ri : List Int) (tS tI : Nat), r.Pairwise (fun x y => y ≤ x) ∧ r.Perm ri ∧ (r.length ≤ 8 ∧ (∀ x ∈ r, 1 ≤ x ∧ x ≤ 8) ∧ sumL r = l.length) ∧ (oI ≠ [] ∨ (0 < m ∧ ¬ b i = true) → ri ≠ []) ∧
      (∀ k, spec_l04Cycles.l0 (k + tS) l oS i (b 0) (b 1) (b 2) (b 3) (b 4) (b 5) (b 6) (b 7) = some r) ∧
      (∀ (k : Nat) (x3 x6 x12 x13 x25 : Int), impl_cycleType.l0 (k + tI) l x3 s oI x6 x12 x13 x25 l.length i = tailI l ri) := by
  intro m
  induction m with
  | zero =>
    intro i b s oS oI h1 hs ha hp hperm hpos hlen hsum hseen
    refine ⟨oS, oI, 1, 1, hp, hperm, ⟨by omega, hpos, by have := unseen_zero l.length b (fun j hj => hseen j (by omega)); omega⟩, fun h => h.elim id (fun h2 => by omega), fun k => ?_, fun k x3 x6 x12 x13 x25 => ?_⟩
    · simp only [spec_l04Cycles.l0]; rw [if_neg (by omega)]
    · simp only [impl_cycleType.l0]; rw [if_neg (by omega)]; rfl
  | succ m ih =>
    intro i b s oS oI h1 hs ha hp hperm hpos hlen hsum hseen
    have hpl := hperm.length_eq
    obtain ⟨c, b', s', t, g1, g2, g3, ⟨u1, u2, u3⟩, g4, g5, g6, g7⟩ := walk_is l h8 hf 8 b s i 0 (Nat.le_trans (unseen_le _ _) h8) (by omega) hs ha (by omega)
    have hseen' : ∀ j, j < i + 1 → b' j = true := fun j hj => by
      by_cases e : j = i
      · subst e; exact u3
      · exact u2 j (hseen j (by omega))
    by_cases hc : 0 < c
    · obtain ⟨oS', t2, f1, f2, f3⟩ := ins_is l oS i c hc (by omega) b' hp (by omega) oS.length (Nat.le_refl _) (fun j hj hj2 => by omega)
      have hpl' := f2.length_eq
      rw [List.length_cons] at hpl'
      obtain ⟨r, ri, tS, tI, q1, q2, q3, q4, q5, q6⟩ := ih (i + 1) b' s' oS' (oI ++ [(c : Int)]) (by omega) g4 g5 f1 (f2.trans ((List.Perm.cons _ hperm).trans (List.perm_append_singleton _ _).symm)) (fun x hx => by
        rcases List.mem_cons.1 (f2.subset hx) with rfl | hx
        · omega
        · exact hpos x hx) (by omega) (by rw [sumL_perm f2]; simp only [sumL]; omega) hseen'
      refine ⟨r, ri, tS + t2 + 1 + t + 1, tI + t + 1, q1, q2, q3, fun _ => q4 (.inl (by simp)), fun k => ?_, fun k x3 x6 x12 x13 x25 => ?_⟩
      · rw [show k + (tS + t2 + 1 + t + 1) = (((k + tS) + t2 + 1) + t) + 1 from by omega]
        simp only [spec_l04Cycles.l0]
        rw [if_pos (by omega)]
        have := g6 ((k + tS) + t2 + 1) oS i
        rw [show ((0 : Nat) : Int) = 0 from rfl] at this
        rw [this]
        simp only [spec_l04Cycles.j2]
        rw [f3 (k + tS), wrap_suc i (by omega)]
        exact q5 k
      · rw [show k + (tI + t + 1) = ((k + tI) + t) + 1 from by omega]
        simp only [impl_cycleType.l0]
        rw [if_pos (by omega)]
        have := g7 (k + tI) oI x3 x6 i x12 x13 x25 l.length i i i
        rw [show ((0 : Nat) : Int) = 0 from rfl] at this
        rw [this, if_pos (by omega), if_pos (by omega), wrap_suc i (by omega)]
        exact q6 k _ _ _ _ _
    · have hc0 : c = 0 := by omega
      subst hc0
      obtain ⟨r, ri, tS, tI, q1, q2, q3, q4, q5, q6⟩ := ih (i + 1) b' s' oS oI (by omega) g4 g5 hp hperm hpos (by omega) (by omega) hseen'
      refine ⟨r, ri, tS + 1 + 1 + t + 1, tI + t + 1, q1, q2, q3, fun h => q4 (h.elim .inl (fun h2 => absurd (g2 h2.2) (by omega))), fun k => ?_, fun k x3 x6 x12 x13 x25 => ?_⟩
      · rw [show k + (tS + 1 + 1 + t + 1) = (((k + tS) + 1 + 1) + t) + 1 from by omega]
        simp only [spec_l04Cycles.l0]
        rw [if_pos (by omega)]
        have := g6 ((k + tS) + 1 + 1) oS i
        rw [show ((0 : Nat) : Int) = 0 from rfl] at this
        rw [this]
        simp only [spec_l04Cycles.j2]
        have h0 := ins0_is l oS i b' (fun x hx => (hpos x hx).1) (by omega) (k + tS)
        rw [show ((0 : Nat) : Int) = 0 from rfl] at h0
        rw [h0, wrap_suc i (by omega)]
        exact q5 k
      · rw [show k + (tI + t + 1) = ((k + tI) + t) + 1 from by omega]
        simp only [impl_cycleType.l0]
        rw [if_pos (by omega)]
        have := g7 (k + tI) oI x3 x6 i x12 x13 x25 l.length i i i
        rw [show ((0 : Nat) : Int) = 0 from rfl] at this
        rw [this, if_neg (by omega), wrap_suc i (by omega)]
        exact q6 k _ _ _ _ _
/-! ### the library's answers -/
theorem sorted_is (l : List Int) : (l.mergeSort fun x y => decide (x ≤ y)).Pairwise (fun x y => x ≤ y) := by
  have h := List.pairwise_mergeSort (le := fun (x y : Int) => decide (x ≤ y)) (fun a b c h1 h2 => by simp only [decide_eq_true_eq] at *; omega) (fun a b => by simp only [Bool.or_eq_true, decide_eq_true_eq]; omega) l
  exact h.imp (fun h => by simpa using h)
theorem compact_iff (s : List Int) (hs : s.Pairwise (fun x y => x ≤ y)) : (Go.Lib.compactUpTo s.toArray s.length).length = s.length ↔ s.Nodup := by
  unfold Go.Lib.compactUpTo
  have hlen : ((List.range s.length).filter (Go.Lib.keeps s.toArray)).length = s.length ↔ ∀ j, j < s.length → Go.Lib.keeps s.toArray j = true := by
    have h := List.length_filter_eq_length_iff (l := List.range s.length) (p := Go.Lib.keeps s.toArray)
    rw [List.length_range] at h
    rw [h]
    exact ⟨fun h j hj => h j (List.mem_range.2 hj), fun h j hj => h j (List.mem_range.1 hj)⟩
  rw [List.length_map, hlen]
  have hk : ∀ j (hj : j < s.length) (h0 : 0 < j), Go.Lib.keeps s.toArray j = true ↔ s[j] ≠ s[j - 1] := by
    intro j hj h0
    unfold Go.Lib.keeps
    rw [getElem!_pos s.toArray j (by simpa using hj), getElem!_pos s.toArray (j - 1) (by simp; omega)]
    simp only [List.getElem_toArray, decide_eq_true_eq]
    exact ⟨fun h => h.elim (fun h2 => by omega) id, .inr⟩
  rw [List.pairwise_iff_getElem] at hs
  constructor
  · intro h
    rw [List.nodup_iff_pairwise_ne] 
    rw [List.pairwise_iff_getElem]
    intro i j hi hj hij
    have h1 := (hk j hj (by omega)).1 (h j hj)
    have h2 := hs (j - 1) j (by omega) hj (by omega)
    by_cases e : i = j - 1
    · subst e; exact fun h => h1 h.symm
    · have h3 := hs i (j - 1) hi (by omega) (by omega)
      intro he; omega
  · intro h j hj
    by_cases h0 : j = 0
    · subst h0; unfold Go.Lib.keeps; simp
    · refine (hk j hj (by omega)).2 ?_
      rw [List.nodup_iff_pairwise_ne] at h
      rw [List.pairwise_iff_getElem] at h
      exact fun he => h (j - 1) j (by omega) hj (by omega) he.symm
theorem tail_is (l ri : List Int) (h1 : 1 ≤ l.length) (h8 : l.length ≤ 8) (hr1 : ri ≠ []) (hr8 : ri.length ≤ 8) : tailI l ri = some (if l.Nodup then (ri.mergeSort fun x y => decide (x ≤ y)).reverse else []) := by
  have hm : (l.mergeSort fun x y => decide (x ≤ y)).length = l.length := List.length_mergeSort _
  have hm2 : (ri.mergeSort fun x y => decide (x ≤ y)).length = ri.length := List.length_mergeSort _
  have hr0 : 0 < ri.length := List.length_pos_iff.2 hr1
  have hnd : (l.mergeSort fun x y => decide (x ≤ y)).Nodup ↔ l.Nodup := (List.mergeSort_perm l _).nodup_iff
  have hc := compact_iff _ (sorted_is l)
  unfold tailI slices_Clone_int64_int64.f
  rw [if_pos (by omega), bnd]
  unfold slices_Sort.f slices_Compact.f slices_Reverse.f
  rw [if_pos (by omega), if_pos (by omega), bnd, if_pos (by omega), if_pos (by omega), bnd]
  by_cases hn : l.Nodup
  · have := hc.2 (hnd.2 hn)
    rw [if_pos (by omega), if_pos hr0, if_pos (by omega), bnd, if_pos (by omega), if_pos (by omega), bnd, if_pos hn]
  · have : ¬ _ := fun h => hn (hnd.1 (hc.1 h))
    rw [if_neg (by omega), if_neg hn]
theorem field_is (n : Nat) (l : List Int) (hl : l.length ≤ 1000) : ∀ (m i k : Nat), i + m = l.length → m < k → impl_field.l0 k n l l.length i = some ((l.drop i).all (inR n)) := by
  intro m
  induction m with
  | zero =>
    intro i k h1 hk
    obtain ⟨k, rfl⟩ := step_k hk
    simp only [impl_field.l0]; rw [if_neg (by omega), List.drop_eq_nil_of_le (by omega)]; rfl
  | succ m ih =>
    intro i k h1 hk
    obtain ⟨k, rfl⟩ := step_k hk
    simp only [impl_field.l0]
    rw [if_pos (by omega), if_pos (by omega), if_pos (by omega), rdI, drop_cons l i (by omega), List.all_cons, wrap_suc i (by omega)]
    by_cases h0 : l.getD i 0 < 0
    · rw [if_pos h0, show inR n (l.getD i 0) = false from by unfold inR; rw [decide_eq_false (by omega)]; rfl, Bool.false_and]
    · by_cases h2 : l.getD i 0 ≥ (n : Int)
      · rw [if_neg h0, if_pos h2, show inR n (l.getD i 0) = false from by unfold inR; rw [decide_eq_false (by omega : ¬ l.getD i 0 < (n : Int)), Bool.and_false], Bool.false_and]
      · rw [if_neg h0, if_neg h2, ih (i + 1) k (by omega) (by omega), show inR n (l.getD i 0) = true from inR_iff.2 ⟨by omega, by omega⟩, Bool.true_and]
theorem ct_is (l : List Int) : ∃ (pb : Bool) (r : List Int) (K : Nat), (pb = true → r ≠ [] ∧ r.length ≤ 8 ∧ (∀ x ∈ r, 1 ≤ x ∧ x ≤ 8) ∧ sumL r = l.length) ∧
    ∀ k, K < k → spec_l04Permutation.f k l = some pb ∧ (pb = true → spec_l04Cycles.f k l = some r) ∧ impl_cycleType.f k l = some (if pb = true then r else []) := by
  by_cases hn : 1 ≤ l.length ∧ l.length ≤ 8
  · obtain ⟨h1, h8⟩ := hn
    have hperm := fun k => perm_is l h8 l.length 0 k (fun _ => false) (by omega)
    have hpm := pm_iff l.length l (fun _ => false)
    have hfield := field_is l.length l (by omega) l.length 0
    rw [List.drop_zero, show ((0 : Nat) : Int) = 0 from rfl] at hfield
    simp only [List.drop_zero, show ((0 : Nat) : Int) = 0 from rfl] at hperm
    by_cases hall : l.all (inR l.length) = true
    · have hf : ∀ j, j < l.length → inR l.length (l.getD j 0) = true := fun j hj => by
        rw [List.getD_eq_getElem?_getD, List.getElem?_eq_getElem hj]
        exact List.all_eq_true.1 hall _ (List.getElem_mem hj)
      obtain ⟨r, ri, tS, tI, q1, q2, q3, q4, q5, q6⟩ := cyc_is l h8 hf l.length 0 (fun _ => false) (List.replicate l.length false) [] [] (by omega) (by simp) (fun j hj => by rw [List.getD_eq_getElem?_getD, List.getElem?_replicate, if_pos hj]; rfl) List.Pairwise.nil (List.Perm.refl _) (fun x hx => by cases hx) (Nat.le_refl _) (by rw [unseen_all]; simp [sumL]) (fun j hj => by omega)
      have hri : ri ≠ [] := q4 (.inr ⟨by omega, by simp⟩)
      have hrl := q2.length_eq
      have ht := tail_is l ri h1 h8 hri (by omega)
      have himpl : ∀ k, impl_cycleType.f (k + tI + l.length + 3) l = tailI l ri := by
        intro k
        unfold impl_cycleType.f impl_field.f
        rw [if_neg (by omega), if_neg (by omega), hfield _ (by omega) (by omega), bnd, hall]
        rw [show k + tI + l.length + 3 = ((k + l.length + 2) + tI) + 1 from by omega]
        simp only [impl_cycleType.j0]
        rw [if_neg (by simp), if_pos (by omega), if_pos (by omega), Int.toNat_natCast]
        have := q6 (k + l.length + 2) l.length 0 l.length l.length l.length
        rw [show ((0 : Nat) : Int) = 0 from rfl] at this
        exact this
      by_cases hnd : l.Nodup
      · have hpmt : pm l.length l (fun _ => false) = true := hpm.2 ⟨fun v hv => ⟨List.all_eq_true.1 hall v hv, rfl⟩, hnd⟩
        have heq : (ri.mergeSort fun x y => decide (x ≤ y)).reverse = r := by
          refine List.Perm.eq_of_pairwise (le := fun (x y : Int) => y ≤ x) (fun a b _ _ h1 h2 => by omega) ?_ q1 ((List.reverse_perm _).trans ((List.mergeSort_perm ri _).trans q2.symm))
          rw [List.pairwise_reverse]
          exact sorted_is ri
        rw [if_pos hnd, heq] at ht
        have hrne : r ≠ [] := fun h => hri (List.eq_nil_of_length_eq_zero (by rw [← hrl, h]; rfl))
        refine ⟨true, r, tS + tI + 3 * l.length + 10, fun _ => ⟨hrne, q3⟩, fun k hk => ⟨?_, fun _ => ?_, ?_⟩⟩
        · obtain ⟨k', rfl⟩ : ∃ k', k = k' + (2 * l.length + 2) := ⟨k - (2 * l.length + 2), by omega⟩
          unfold spec_l04Permutation.f
          rw [hperm k', hpmt, if_pos rfl, decide_eq_true h1]
        · unfold spec_l04Cycles.f
          obtain ⟨k'', rfl⟩ : ∃ k'', k = k'' + tS := ⟨k - tS, by omega⟩
          have := q5 k''
          rw [show ((0 : Nat) : Int) = 0 from rfl] at this
          exact this
        · obtain ⟨k', rfl⟩ : ∃ k', k = k' + tI + l.length + 3 := ⟨k - (tI + l.length + 3), by omega⟩
          rw [himpl k', ht, if_pos rfl]
      · have hpmf : ¬ pm l.length l (fun _ => false) = true := fun h => hnd (hpm.1 h).2
        rw [if_neg hnd] at ht
        refine ⟨false, [], tS + tI + 3 * l.length + 10, fun h => (by cases h), fun k hk => ⟨?_, fun h => (by cases h), ?_⟩⟩
        · obtain ⟨k', rfl⟩ : ∃ k', k = k' + (2 * l.length + 2) := ⟨k - (2 * l.length + 2), by omega⟩
          unfold spec_l04Permutation.f
          rw [hperm k', if_neg hpmf]
        · obtain ⟨k', rfl⟩ : ∃ k', k = k' + tI + l.length + 3 := ⟨k - (tI + l.length + 3), by omega⟩
          rw [himpl k', ht, if_neg (by decide)]
    · have hall' : l.all (inR l.length) = false := by simpa using hall
      have hpmf : ¬ pm l.length l (fun _ => false) = true := fun h => hall (List.all_eq_true.2 (fun v hv => ((hpm.1 h).1 v hv).1))
      refine ⟨false, [], 3 * l.length + 10, fun h => (by cases h), fun k hk => ⟨?_, fun h => (by cases h), ?_⟩⟩
      · obtain ⟨k', rfl⟩ : ∃ k', k = k' + (2 * l.length + 2) := ⟨k - (2 * l.length + 2), by omega⟩
        unfold spec_l04Permutation.f
        rw [hperm k', if_neg hpmf]
      · unfold impl_cycleType.f impl_field.f
        rw [if_neg (by omega), if_neg (by omega), hfield k (by omega) (by omega), bnd, hall']
        obtain ⟨k, rfl⟩ := step_k (by omega : 0 < k)
        simp only [impl_cycleType.j0, Bool.not_false, if_true]
        rw [if_neg (by decide)]
  · refine ⟨false, [], 10, fun h => (by cases h), fun k hk => ⟨?_, fun h => (by cases h), ?_⟩⟩
    · obtain ⟨k, rfl⟩ : ∃ k', k = k' + 2 := ⟨k - 2, by omega⟩
      unfold spec_l04Permutation.f
      rw [show k + 2 = (k + 1) + 1 from rfl]
      simp only [spec_l04Permutation.l0]
      by_cases h0 : (0 : Int) < (l.length : Int)
      · rw [if_pos h0, decide_eq_false (by omega : ¬ (l.length : Int) ≤ 8)]
        simp only [spec_l04Permutation.j1]
        rw [if_neg (by decide), if_pos (by omega), decide_eq_false (by omega : ¬ (l.length : Int) ≤ 8)]
      · rw [if_neg h0]
        simp only [spec_l04Permutation.j1]
        rw [if_neg (by decide), if_neg (by omega)]
    · obtain ⟨k, rfl⟩ := step_k (by omega : 0 < k)
      unfold impl_cycleType.f
      have hj : impl_cycleType.j0 (k + 1) l l.length l.length l.length true = some [] := by simp only [impl_cycleType.j0, if_true]
      by_cases h1 : (l.length : Int) < 1
      · rw [if_pos h1, hj, if_neg (by decide)]
      · rw [if_neg h1, if_pos (by omega), hj, if_neg (by decide)]
/-! ### lists of lists -/
def lat (L : List (List Int)) (i : Nat) : List Int := L.getD i []
theorem rdLL (L : List (List Int)) (i : Nat) : rd_L2 L (i : Int) = lat L i := by unfold rd_L2 lat; rw [Int.toNat_natCast]
theorem rdLL0 (L : List (List Int)) : rd_L2 L 0 = lat L 0 := rdLL L 0
/-! ### the sums -/
def addF : Nat → Nat → List Int → List Int → List Int
  | 0, _, out, _ => out
  | m + 1, i, out, own => addF m (i + 1) (out.set i (wrap64 (out.getD i 0 + own.getD i 0))) own
theorem addF_len : ∀ (m i : Nat) (out own : List Int), (addF m i out own).length = out.length := by
  intro m
  induction m with
  | zero => intro i out own; rfl
  | succ m ih => intro i out own; simp only [addF]; rw [ih, List.length_set]
def divF (q : Int) : Nat → Nat → List Int → Option (List Int)
  | 0, _, out => some out
  | m + 1, i, out => if Int.tmod (out.getD i 0) q = 0 then divF q m (i + 1) (out.set i (wrap64 (Int.tdiv (out.getD i 0) q))) else none
theorem divF_len (q : Int) : ∀ (m i : Nat) (out z : List Int), divF q m i out = some z → z.length = out.length := by
  intro m
  induction m with
  | zero => intro i out z h; simp only [divF, Option.some.injEq] at h; rw [h]
  | succ m ih =>
    intro i out z h
    simp only [divF] at h
    split at h
    · have := ih _ _ _ h; rw [List.length_set] at this; exact this
    · cases h
def endF (o : Option (List Int)) : List Int × Int := match o with | some z => (z, 0) | none => ([], 5)
theorem sAdd_is (L : List (List Int)) (n : Nat) (hn : n ≤ 12) (own : List Int) (ho : own.length = n + 1) (x8 : Int) : ∀ (m i : Nat) (out : List Int) (k : Nat), i + m = n + 1 → out.length = n + 1 →
    spec_CountingSeries.l2 (k + (m + 1)) L n out x8 own i = spec_CountingSeries.l1 k L n (addF m i out own) (wrap64 (x8 + 1)) := by
  intro m
  induction m with
  | zero => intro i out k h1 h2; simp only [spec_CountingSeries.l2]; rw [if_neg (by omega)]; rfl
  | succ m ih =>
    intro i out k h1 h2
    rw [show k + (m + 1 + 1) = (k + (m + 1)) + 1 from rfl]
    simp only [spec_CountingSeries.l2]
    rw [if_pos (by omega), if_pos (by omega), if_pos (by omega), if_pos (by omega), rdI, rdI, Int.toNat_natCast, wrap_suc i (by omega)]
    exact ih (i + 1) _ k (by omega) (by rw [List.length_set]; exact h2)
theorem iAdd_is (L : List (List Int)) (x1 : Int) (n : Nat) (hn : n ≤ 12) (own : List Int) (ho : own.length = n + 1) (x33 : List (List Int)) (x34 x35 : Int) : ∀ (m i : Nat) (out : List Int) (k : Nat), i + m = n + 1 → out.length = n + 1 →
    impl_CountingSeries.l1 (k + (m + 1)) L x1 out x33 x34 x35 own own.length i = impl_CountingSeries.l0 k L x1 (addF m i out own) x33 x34 (wrap64 (x35 + 1)) := by
  intro m
  induction m with
  | zero => intro i out k h1 h2; simp only [impl_CountingSeries.l1]; rw [if_neg (by omega)]; rfl
  | succ m ih =>
    intro i out k h1 h2
    rw [show k + (m + 1 + 1) = (k + (m + 1)) + 1 from rfl]
    simp only [impl_CountingSeries.l1]
    rw [if_pos (by omega), if_pos (by omega), if_pos (by omega), if_pos (by omega), rdI, rdI, Int.toNat_natCast, wrap_suc i (by omega)]
    exact ih (i + 1) _ k (by omega) (by rw [List.length_set]; exact h2)
theorem sDiv_is (L : List (List Int)) (n : Nat) (hn : n ≤ 12) (hL : L.length ≠ 0) : ∀ (m i : Nat) (out : List Int) (k : Nat), i + m = n + 1 → out.length = n + 1 → m < k →
    spec_CountingSeries.l3 k L n out i = some (endF (divF L.length m i out)) := by
  intro m
  induction m with
  | zero => intro i out k h1 h2 hk; obtain ⟨k, rfl⟩ := step_k hk; simp only [spec_CountingSeries.l3]; rw [if_neg (by omega)]; rfl
  | succ m ih =>
    intro i out k h1 h2 hk
    obtain ⟨k, rfl⟩ := step_k hk
    simp only [spec_CountingSeries.l3, divF]
    rw [if_pos (by omega), if_pos (by omega), if_pos (by omega), if_neg (by omega), rdI, Int.toNat_natCast, wrap_suc i (by omega)]
    by_cases h : Int.tmod (out.getD i 0) L.length = 0
    · rw [if_pos h, if_pos h]; exact ih (i + 1) _ k (by omega) (by rw [List.length_set]; exact h2) (by omega)
    · rw [if_neg h, if_neg h]; rfl
theorem iDiv_is (q : Int) (n : Nat) (hn : n ≤ 12) (hq : q ≠ 0) : ∀ (m i : Nat) (out : List Int) (k : Nat), i + m = n + 1 → out.length = n + 1 → m < k →
    impl_CountingSeries.l2 k out q ((n + 1 : Nat) : Int) i = some (endF (divF q m i out)) := by
  intro m
  induction m with
  | zero => intro i out k h1 h2 hk; obtain ⟨k, rfl⟩ := step_k hk; simp only [impl_CountingSeries.l2]; rw [if_neg (by omega)]; rfl
  | succ m ih =>
    intro i out k h1 h2 hk
    obtain ⟨k, rfl⟩ := step_k hk
    simp only [impl_CountingSeries.l2, divF]
    rw [if_pos (by omega), if_pos (by omega), if_pos (by omega), if_neg hq, rdI, Int.toNat_natCast, wrap_suc i (by omega)]
    by_cases h : Int.tmod (out.getD i 0) q = 0
    · rw [if_pos h, if_pos h]; exact ih (i + 1) _ k (by omega) (by rw [List.length_set]; exact h2) (by omega)
    · rw [if_neg h, if_neg h]; rfl
/-! ### one list -/
theorem fd_zero : ∀ (r z : List Int), r.all okD = true → 0 < z.length → (fd r z).getD 0 0 = z.getD 0 0 := by
  intro r
  induction r with
  | nil => intro z _ _; rfl
  | cons d r ih =>
    intro z h hz
    simp only [List.all_cons, Bool.and_eq_true] at h
    rw [fd_cons, ih _ h.2 (by rw [news_len]; exact hz), news_at _ _ _ hz]
    have hd := h.1
    simp only [okD, Bool.and_eq_true, decide_eq_true_eq] at hd
    unfold new back
    rw [if_neg (by omega)]; omega
theorem one_zero (n : Nat) : (one n).getD 0 0 = 1 := by simp [one]
theorem one_is (n : Nat) (hn : n ≤ 12) (l : List Int) : ∃ (pb : Bool) (r z : List Int) (K : Nat), (pb = true → r ≠ []) ∧ (z.length = n + 1 ∧ z.getD 0 0 = 1) ∧
    ∀ k, K < k → spec_l04Permutation.f k l = some pb ∧ (pb = true → spec_l04Cycles.f k l = some r) ∧ impl_cycleType.f k l = some (if pb = true then r else []) ∧ (pb = true → spec_l04Of.f k r n = some z ∧ impl_ways.f k r n = some z) := by
  obtain ⟨pb, r, K, h1, h2⟩ := ct_is l
  by_cases hp : pb = true
  · obtain ⟨g1, g2, g3, _⟩ := h1 hp
    have hD : r.all okD = true := by
      rw [List.all_eq_true]
      intro x hx
      have := g3 x hx
      simp only [okD, Bool.and_eq_true, decide_eq_true_eq]; omega
    obtain ⟨z, ⟨hz, hfd⟩, f1, f2⟩ := ways_both2 r n (by omega) 7 (by omega) hD (by omega)
    refine ⟨pb, r, z, K + 401, fun _ => g1, ⟨hz.1, by rw [← fd_zero r z hD (by have := hz.1; omega), hfd, one_zero]⟩, fun k hk => ?_⟩
    obtain ⟨a, b, c⟩ := h2 k (by omega)
    exact ⟨a, b, c, fun _ => ⟨f1 k (by omega), f2 k (by omega)⟩⟩
  · refine ⟨pb, r, one n, K, fun h => absurd h hp, ⟨by simp [one], one_zero n⟩, fun k hk => ?_⟩
    obtain ⟨a, b, c⟩ := h2 k hk
    exact ⟨a, b, c, fun h => absurd h hp⟩
structure One (n : Nat) (l : List Int) (K : Nat) (pb : Bool) (r z : List Int) : Prop where
  ne : pb = true → r ≠ []
  len : z.length = n + 1
  fst : z.getD 0 0 = 1
  run : ∀ k, K < k → spec_l04Permutation.f k l = some pb ∧ (pb = true → spec_l04Cycles.f k l = some r) ∧ impl_cycleType.f k l = some (if pb = true then r else []) ∧ (pb = true → spec_l04Of.f k r n = some z ∧ impl_ways.f k r n = some z)
theorem all_is (n : Nat) (hn : n ≤ 12) : ∀ L : List (List Int), ∃ (K : Nat) (P : Nat → Bool) (R Z : Nat → List Int), ∀ i, i < L.length → One n (lat L i) K (P i) (R i) (Z i) := by
  intro L
  induction L with
  | nil => exact ⟨0, fun _ => false, fun _ => [], fun _ => [], fun i hi => absurd hi (by simp)⟩
  | cons l L ih =>
    obtain ⟨K, P, R, Z, h⟩ := ih
    obtain ⟨pb, r, z, K1, g1, g2, g3⟩ := one_is n hn l
    refine ⟨K + K1, fun i => match i with | 0 => pb | i + 1 => P i, fun i => match i with | 0 => r | i + 1 => R i, fun i => match i with | 0 => z | i + 1 => Z i, fun i hi => ?_⟩
    cases i with
    | zero => exact ⟨g1, g2.1, g2.2, fun k hk => g3 k (by omega)⟩
    | succ i =>
      have := h i (by simp at hi; omega)
      exact ⟨this.ne, this.len, this.fst, fun k hk => this.run k (by omega)⟩
/-! ### both counts -/
def sumF (n : Nat) (Z : Nat → List Int) : Nat → Nat → List Int → List Int
  | 0, _, out => out
  | m + 1, i, out => sumF n Z m (i + 1) (addF (n + 1) 0 out (Z i))
def goodF (L : List (List Int)) (P : Nat → Bool) (i : Nat) : Bool := P i && decide ((lat L i).length = (lat L 0).length)
def goods (L : List (List Int)) (P : Nat → Bool) : Nat → Nat → Bool
  | 0, _ => true
  | m + 1, i => goodF L P i && goods L P m (i + 1)
theorem goods_succ (L : List (List Int)) (P : Nat → Bool) (m i : Nat) : goods L P (m + 1) i = (goodF L P i && goods L P m (i + 1)) := rfl
def resF (L : List (List Int)) (n : Nat) (o : List Int) : List Int × Int := endF (divF L.length (n + 1) 0 o)
theorem sSum_is2 (L : List (List Int)) (n : Nat) (hn : n ≤ 12) (h120 : L.length ≤ 120) (hL : L.length ≠ 0) (K : Nat) (P : Nat → Bool) (R Z : Nat → List Int) (hall : ∀ i, i < L.length → One n (lat L i) K (P i) (R i) (Z i)) :
    ∀ (m i : Nat) (out : List Int) (k : Nat), i + m = L.length → out.length = n + 1 → goods L P m i = true → K + 20 * m + 20 < k → spec_CountingSeries.l1 k L n out i = some (resF L n (sumF n Z m i out)) := by
  intro m
  induction m with
  | zero =>
    intro i out k h1 h2 _ hk
    obtain ⟨k, rfl⟩ := step_k (by omega : 0 < k)
    simp only [spec_CountingSeries.l1]
    rw [if_neg (by omega)]
    have := sDiv_is L n hn hL (n + 1) 0 out k (by omega) h2 (by omega)
    rw [show ((0 : Nat) : Int) = 0 from rfl] at this
    exact this
  | succ m ih =>
    intro i out k h1 h2 hg hk
    obtain ⟨k, rfl⟩ := step_k (by omega : 0 < k)
    rw [goods_succ, Bool.and_eq_true] at hg
    have hP : P i = true := by have := hg.1; unfold goodF at this; rw [Bool.and_eq_true] at this; exact this.1
    have h := hall i (by omega)
    obtain ⟨_, b, _, d⟩ := h.run k (by omega)
    simp only [spec_CountingSeries.l1]
    rw [if_pos (by omega), if_pos (by omega), rdLL, b hP, bnd, (d hP).1, bnd]
    obtain ⟨k', rfl⟩ : ∃ k', k = k' + (n + 1 + 1) := ⟨k - (n + 2), by omega⟩
    have := sAdd_is L n hn (Z i) h.len i (n + 1) 0 out k' (by omega) h2
    rw [show ((0 : Nat) : Int) = 0 from rfl] at this
    rw [this, wrap_suc i (by omega)]
    exact ih (i + 1) _ k' (by omega) (by rw [addF_len]; exact h2) hg.2 (by omega)
theorem sChk_is (L : List (List Int)) (n : Nat) (hn : n ≤ 12) (h120 : L.length ≤ 120) (_hL : L.length ≠ 0) (K : Nat) (P : Nat → Bool) (R Z : Nat → List Int) (hall : ∀ i, i < L.length → One n (lat L i) K (P i) (R i) (Z i)) (hgall : goods L P L.length 0 = true → ∀ k, K + 5000 < k → spec_CountingSeries.l1 k L n (List.replicate (n + 1) 0) 0 = some (resF L n (sumF n Z L.length 0 (List.replicate (n + 1) 0)))) :
    ∀ (m i k : Nat), i + m = L.length → (goods L P L.length 0 = goods L P m i) → K + m + 5001 < k →
      spec_CountingSeries.l0 k L n i = some (if goods L P L.length 0 = true then resF L n (sumF n Z L.length 0 (List.replicate (n + 1) 0)) else ([], 2)) := by
  intro m
  induction m with
  | zero =>
    intro i k h1 h2 hk
    obtain ⟨k, rfl⟩ := step_k (by omega : 0 < k)
    have hg : goods L P L.length 0 = true := by rw [h2]; rfl
    simp only [spec_CountingSeries.l0]
    rw [if_neg (by omega), wrap_suc n (by omega), if_pos (by omega), if_pos (by omega), Int.toNat_natCast, hgall hg k (by omega), if_pos hg]
  | succ m ih =>
    intro i k h1 h2 hk
    obtain ⟨k, rfl⟩ := step_k (by omega : 0 < k)
    have h := hall i (by omega)
    obtain ⟨a, _, _, _⟩ := h.run k (by omega)
    simp only [spec_CountingSeries.l0]
    rw [if_pos (by omega), if_pos (by omega), rdLL, a, bnd]
    rw [goods_succ] at h2
    by_cases hP : P i = true
    · rw [if_pos hP, if_pos (by omega), rdLL0]
      by_cases hl : ((lat L i).length : Int) = ((lat L 0).length : Int)
      · rw [if_pos hl, wrap_suc i (by omega)]
        refine ih (i + 1) k (by omega) ?_ (by omega)
        rw [h2, show goodF L P i = true from by unfold goodF; rw [hP, decide_eq_true (by omega)]; rfl, Bool.true_and]
      · rw [if_neg hl, if_neg (by rw [h2, show goodF L P i = false from by unfold goodF; rw [decide_eq_false (by omega), Bool.and_false], Bool.false_and]; decide)]
    · rw [if_neg hP, if_neg (by rw [h2, show goodF L P i = false from by unfold goodF; rw [Bool.eq_false_iff.2 hP]; rfl, Bool.false_and]; decide)]
theorem iSum_is (L : List (List Int)) (n : Nat) (hn : n ≤ 12) (h120 : L.length ≤ 120) (hL : L.length ≠ 0) (K : Nat) (P : Nat → Bool) (R Z : Nat → List Int) (hall : ∀ i, i < L.length → One n (lat L i) K (P i) (R i) (Z i)) :
    ∀ (m i : Nat) (out : List Int) (k : Nat), i + m = L.length → out.length = n + 1 → K + 20 * m + 20 < k →
      impl_CountingSeries.l0 k L n out L L.length i = some (if goods L P m i = true then resF L n (sumF n Z m i out) else ([], 2)) := by
  intro m
  induction m with
  | zero =>
    intro i out k h1 h2 hk
    obtain ⟨k, rfl⟩ := step_k (by omega : 0 < k)
    simp only [impl_CountingSeries.l0]
    rw [if_neg (by omega), show goods L P 0 i = true from rfl, if_pos rfl, h2]
    have := iDiv_is L.length n hn (by omega) (n + 1) 0 out k (by omega) h2 (by omega)
    rw [show ((0 : Nat) : Int) = 0 from rfl] at this
    exact this
  | succ m ih =>
    intro i out k h1 h2 hk
    obtain ⟨k, rfl⟩ := step_k (by omega : 0 < k)
    have h := hall i (by omega)
    obtain ⟨_, _, c, d⟩ := h.run k (by omega)
    simp only [impl_CountingSeries.l0]
    rw [if_pos (by omega), if_pos (by omega), if_pos (by omega), rdLL, c, bnd, goods_succ]
    obtain ⟨k, rfl⟩ := step_k (by omega : 0 < k)
    obtain ⟨_, _, _, d⟩ := h.run k (by omega)
    by_cases hP : P i = true
    · have hne := List.length_pos_iff.2 (h.ne hP)
      rw [if_pos hP, if_neg (by omega), if_pos (by omega), rdLL0]
      simp only [impl_CountingSeries.j2]
      by_cases hl : ((lat L i).length : Int) = ((lat L 0).length : Int)
      · rw [if_neg (by simp [hl]), (d hP).2, bnd]
        obtain ⟨k', rfl⟩ : ∃ k', k = k' + (n + 1 + 1) := ⟨k - (n + 2), by omega⟩
        have := iAdd_is L n n hn (Z i) h.len L L.length i (n + 1) 0 out k' (by omega) h2
        rw [show ((0 : Nat) : Int) = 0 from rfl] at this
        rw [this, wrap_suc i (by omega), show goodF L P i = true from by unfold goodF; rw [hP, decide_eq_true (by omega)]; rfl, Bool.true_and]
        exact ih (i + 1) _ k' (by omega) (by rw [addF_len]; exact h2) (by omega)
      · rw [if_pos (by simp [hl]), show goodF L P i = false from by unfold goodF; rw [decide_eq_false (by omega), Bool.and_false], Bool.false_and, if_neg (by decide)]
    · rw [if_neg hP, if_pos (show ((([] : List Int).length : Int) = 0) from rfl)]
      simp only [impl_CountingSeries.j2]
      rw [if_pos trivial, show goodF L P i = false from by unfold goodF; rw [Bool.eq_false_iff.2 hP]; rfl, Bool.false_and, if_neg (by decide)]
theorem sumF_len (n : Nat) (Z : Nat → List Int) : ∀ (m i : Nat) (out : List Int), (sumF n Z m i out).length = out.length := by
  intro m
  induction m with
  | zero => intro i out; rfl
  | succ m ih => intro i out; simp only [sumF]; rw [ih, addF_len]
/-! ### the first number -/
theorem set_zero (out : List Int) (i : Nat) (v : Int) (h : 1 ≤ i) : (out.set i v).getD 0 0 = out.getD 0 0 := by
  rw [List.getD_eq_getElem?_getD, List.getElem?_set_ne (by omega), ← List.getD_eq_getElem?_getD]
theorem set_zero0 (out : List Int) (v : Int) (h : 0 < out.length) : (out.set 0 v).getD 0 0 = v := by
  rw [List.getD_eq_getElem?_getD, List.getElem?_set_self h]; rfl
theorem addF_zero : ∀ (m i : Nat) (out own : List Int), 1 ≤ i → (addF m i out own).getD 0 0 = out.getD 0 0 := by
  intro m
  induction m with
  | zero => intro i out own _; rfl
  | succ m ih => intro i out own h; simp only [addF]; rw [ih _ _ _ (by omega), set_zero _ _ _ h]
theorem divF_zero (q : Int) : ∀ (m i : Nat) (out z : List Int), 1 ≤ i → divF q m i out = some z → z.getD 0 0 = out.getD 0 0 := by
  intro m
  induction m with
  | zero => intro i out z _ h; simp only [divF, Option.some.injEq] at h; rw [h]
  | succ m ih =>
    intro i out z h1 h
    simp only [divF] at h
    split at h
    · rw [ih _ _ _ (by omega) h, set_zero _ _ _ h1]
    · cases h
theorem divF_one : ∀ (m i : Nat) (out : List Int), ∃ z, divF 1 m i out = some z := by
  intro m
  induction m with
  | zero => intro i out; exact ⟨out, rfl⟩
  | succ m ih => intro i out; simp only [divF]; rw [if_pos (Int.tmod_one _)]; exact ih _ _
theorem sumF_zero (n : Nat) (Z : Nat → List Int) : ∀ (m i : Nat) (out : List Int), out.length = n + 1 → (∀ j, i ≤ j → j < i + m → (Z j).getD 0 0 = 1) → 0 ≤ out.getD 0 0 → out.getD 0 0 + m ≤ 1000 → (sumF n Z m i out).getD 0 0 = out.getD 0 0 + m := by
  intro m
  induction m with
  | zero => intro i out _ _ _ _; simp [sumF]
  | succ m ih =>
    intro i out h1 h2 h3 h4
    have hz := h2 i (Nat.le_refl _) (by omega)
    have e0 : (addF (n + 1) 0 out (Z i)).getD 0 0 = out.getD 0 0 + 1 := by
      simp only [addF]
      rw [addF_zero _ _ _ _ (by omega), set_zero0 _ _ (by omega), hz, wrap_in (by omega) (by omega)]
    simp only [sumF]
    rw [ih (i + 1) _ (by rw [addF_len]; exact h1) (fun j hj hj2 => h2 j (by omega) (by omega)) (by rw [e0]; omega) (by rw [e0]; omega), e0]
    omega
theorem end_zero (L : List (List Int)) (n : Nat) (Z : Nat → List Int) (h0 : 0 < L.length) (h120 : L.length ≤ 120) (hZ : ∀ j, j < L.length → (Z j).getD 0 0 = 1) (h : (resF L n (sumF n Z L.length 0 (List.replicate (n + 1) 0))).2 = 0) :
    (resF L n (sumF n Z L.length 0 (List.replicate (n + 1) 0))).1.length = n + 1 ∧ (resF L n (sumF n Z L.length 0 (List.replicate (n + 1) 0))).1.getD 0 0 = 1 := by
  have hs := sumF_zero n Z L.length 0 (List.replicate (n + 1) 0) (by simp) (fun j _ hj => hZ j (by omega)) (by simp) (by simp; omega)
  have hl := sumF_len n Z L.length 0 (List.replicate (n + 1) 0)
  rw [List.length_replicate] at hl
  rw [show (List.replicate (n + 1) (0 : Int)).getD 0 0 = 0 from rfl, Int.zero_add] at hs
  generalize sumF n Z L.length 0 (List.replicate (n + 1) 0) = o at hs hl h
  unfold resF at h ⊢
  cases hd : divF L.length (n + 1) 0 o with
  | none => rw [hd] at h; unfold endF at h; simp at h
  | some z =>
    refine ⟨?_, ?_⟩
    · show z.length = n + 1
      rw [divF_len _ _ _ _ _ hd, hl]
    · show z.getD 0 0 = 1
      have hq : (L.length : Int) ≠ 0 := by omega
      simp only [divF] at hd
      rw [hs, if_pos (Int.tmod_self), Int.tdiv_self hq] at hd
      rw [divF_zero _ _ _ _ _ (by omega) hd, set_zero0 _ _ (by omega)]
      exact wrap_in (by omega) (by omega)
theorem same2 (L : List (List Int)) (n : Int) : ∃ (r : List Int) (c : Int), r.length ≤ 13 ∧ (c = 0 → 0 ≤ n ∧ (r.length : Int) = n + 1 ∧ r.getD 0 0 = 1) ∧ (∀ t, L = [t] → 0 ≤ n → n ≤ 12 → (∃ K', ∀ k, K' < k → spec_l04Permutation.f k t = some true) → c = 0) ∧ ∃ K, ∀ k, K < k → spec_CountingSeries.f k L n = some (r, c) ∧ impl_CountingSeries.f k L n = some (r, c) := by
  have hbad : ∀ k, spec_CountingSeries.j0 (k + 1) L n true = some ([], 2) ∧ impl_CountingSeries.j0 (k + 1) L n true = some ([], 2) := fun k => ⟨by simp only [spec_CountingSeries.j0, if_true], by simp only [impl_CountingSeries.j0, if_true]⟩
  by_cases h1 : (L.length : Int) < 1
  · refine ⟨[], 2, by simp, fun h => by omega, fun t ht => by rw [ht] at h1; simp at h1, 1, fun k hk => ?_⟩
    obtain ⟨k, rfl⟩ := step_k (by omega : 0 < k)
    unfold spec_CountingSeries.f impl_CountingSeries.f
    rw [if_pos h1, if_pos h1]; exact hbad k
  · by_cases h2 : (L.length : Int) > 120
    · refine ⟨[], 2, by simp, fun h => by omega, fun t ht => by rw [ht] at h2; simp at h2, 1, fun k hk => ?_⟩
      obtain ⟨k, rfl⟩ := step_k (by omega : 0 < k)
      unfold spec_CountingSeries.f impl_CountingSeries.f
      rw [if_neg h1, if_neg h1, if_pos h2, if_pos h2]; exact hbad k
    · by_cases h3 : 0 ≤ n ∧ n ≤ 12
      · obtain ⟨n, rfl⟩ : ∃ m : Nat, n = (m : Int) := ⟨n.toNat, by omega⟩
        have hn : n ≤ 12 := by omega
        obtain ⟨K, P, R, Z, hall⟩ := all_is n hn L
        have hS := sChk_is L n hn (by omega) (by omega) K P R Z hall (fun hg k hk => by
          have := sSum_is2 L n hn (by omega) (by omega) K P R Z hall L.length 0 (List.replicate (n + 1) 0) k (by omega) (by simp) hg (by omega)
          rw [show ((0 : Nat) : Int) = 0 from rfl] at this; exact this) L.length 0
        have hI := iSum_is L n hn (by omega) (by omega) K P R Z hall L.length 0 (List.replicate (n + 1) 0)
        rw [show ((0 : Nat) : Int) = 0 from rfl] at hS hI
        obtain ⟨p, hp⟩ : ∃ p, p = (if goods L P L.length 0 = true then resF L n (sumF n Z L.length 0 (List.replicate (n + 1) 0)) else ([], 2)) := ⟨_, rfl⟩
        refine ⟨p.1, p.2, ?_, fun hc => ?_, fun t ht _ _ hperm => ?_, K + 10000, fun k hk => ?_⟩
        · rw [hp]
          split
          · unfold resF endF
            cases hd : divF L.length (n + 1) 0 (sumF n Z L.length 0 (List.replicate (n + 1) 0)) with
            | none => simp
            | some z => have := divF_len _ _ _ _ _ hd; rw [sumF_len, List.length_replicate] at this; show z.length ≤ 13; omega
          · simp
        · rw [hp] at hc ⊢
          by_cases hg : goods L P L.length 0 = true
          · rw [if_pos hg] at hc ⊢
            obtain ⟨e1, e2⟩ := end_zero L n Z (by omega) (by omega) (fun j hj => (hall j hj).fst) hc
            exact ⟨by omega, by omega, e2⟩
          · rw [if_neg hg] at hc; simp at hc
        · subst ht
          obtain ⟨K', hK'⟩ := hperm
          have hP : P 0 = true := by
            have h0 := ((hall 0 (by simp)).run (K + K' + 1) (by omega)).1
            have h1' := hK' (K + K' + 1) (by omega)
            rw [show lat [t] 0 = t from rfl, h1'] at h0
            exact (Option.some.inj h0).symm
          have hg : goods [t] P [t].length 0 = true := by
            show (goodF [t] P 0 && true) = true
            unfold goodF; rw [hP, decide_eq_true rfl]; rfl
          rw [hp, if_pos hg]
          unfold resF
          obtain ⟨z, hz⟩ := divF_one (n + 1) 0 (sumF n Z [t].length 0 (List.replicate (n + 1) 0))
          rw [show (([t] : List (List Int)).length : Int) = 1 from rfl, hz]; rfl
        · obtain ⟨k, rfl⟩ := step_k (by omega : 0 < k)
          unfold spec_CountingSeries.f impl_CountingSeries.f
          rw [if_neg h1, if_neg h1, if_neg h2, if_neg h2, sIn4_is, bnd, if_neg (by omega : ¬ (n : Int) < 0), decide_eq_true h3.1, decide_eq_true h3.2, decide_eq_false (by omega : ¬ (n : Int) > 12)]
          simp only [spec_CountingSeries.j0, impl_CountingSeries.j0]
          refine ⟨?_, ?_⟩
          · rw [if_neg (by decide), hS k (by omega) rfl (by omega), ← hp]
          · rw [if_neg (by decide), wrap_suc n (by omega), if_pos (by omega), if_pos (by omega), Int.toNat_natCast, hI k (by omega) (by simp) (by omega), ← hp]
      · refine ⟨[], 2, by simp, fun h => by omega, fun t _ h4 h5 => absurd ⟨h4, h5⟩ h3, 1, fun k hk => ?_⟩
        obtain ⟨k, rfl⟩ := step_k (by omega : 0 < k)
        unfold spec_CountingSeries.f impl_CountingSeries.f
        rw [if_neg h1, if_neg h1, if_neg h2, if_neg h2, sIn4_is, bnd]
        by_cases h0 : n < 0
        · rw [if_pos h0, decide_eq_false (by omega : ¬ 0 ≤ n)]; exact hbad k
        · rw [if_neg h0, decide_eq_false (by omega : ¬ n ≤ 12), Bool.and_false, decide_eq_true (by omega : n > 12)]; exact hbad k
/-- what is told with enough rounds is told with more -/
theorem more {α : Type} {f : Nat → Option α} (hm : ∀ k, LeO (f k) (f (k + 1))) {n : Nat} {v : α} (h : f n = some v) : ∀ k, n ≤ k → f k = some v := by
  intro k hk
  obtain ⟨d, rfl⟩ : ∃ d, k = n + d := ⟨k - n, by omega⟩
  clear hk
  induction d with
  | zero => exact h
  | succ d ih => exact hm _ _ ih
/-! ### the draws -/
def Rg (n : Nat) (o : List Int) : Prop := o.length = n ∧ ∀ j, j < n → 0 ≤ o.getD j 0 ∧ o.getD j 0 < (n : Int)
theorem getD_set2 (y : List Int) (i j : Nat) (v : Int) (hi : i < y.length) : (y.set i v).getD j 0 = if i = j then v else y.getD j 0 := by
  rw [List.getD_eq_getElem?_getD, List.getD_eq_getElem?_getD, List.getElem?_set]
  by_cases h1 : i = j
  · subst h1; simp [hi]
  · simp [h1]
theorem rg_set {n : Nat} {o : List Int} (h : Rg n o) (i : Nat) (v : Int) (hi : i < n) (hv : 0 ≤ v ∧ v < (n : Int)) : Rg n (o.set i v) := by
  refine ⟨by rw [List.length_set]; exact h.1, fun j hj => ?_⟩
  rw [getD_set2 _ _ _ _ (by have := h.1; omega)]
  by_cases e : i = j
  · rw [if_pos e]; exact hv
  · rw [if_neg e]; exact h.2 j hj
theorem dp1_ok {s : List Int} (hs : okB s) (n : Nat) (hn : n ≤ 8) : ∀ (i : Nat) (o : List Int) (p q : Int), i < n → Rg n o → (0 ≤ p ∧ p ≤ 4096) →
    ∃ o' p' q', Rg n o' ∧ (0 ≤ p' ∧ p' ≤ 4096) ∧ ∀ k, i < k → spec_l04DrawPermutation.l1 k o i s p q = some (o', p', q') := by
  intro i
  induction i with
  | zero =>
    intro o p q _ h hp
    refine ⟨o, p, q, h, hp, fun k hk => ?_⟩
    obtain ⟨k, rfl⟩ := step_k hk
    simp only [spec_l04DrawPermutation.l1]; rw [if_neg (by omega)]
  | succ i ih =>
    intro o p q hi h hp
    obtain ⟨v, p', q', e, hv, hp'⟩ := next_ok hs p q (((i + 1 + 1 : Nat) : Int)) hp (by omega)
    obtain ⟨w, rfl⟩ : ∃ w : Nat, v = (w : Int) := ⟨v.toNat, by omega⟩
    have hl := h.1
    have e1 : wrap64 (((i + 1 : Nat) : Int) - 1) = (i : Int) := by rw [wrap_in (by omega) (by omega)]; omega
    have h' : Rg n ((o.set (i + 1) (o.getD w 0)).set w (o.getD (i + 1) 0)) := rg_set (rg_set h _ _ (by omega) (h.2 w (by omega))) _ _ (by omega) (h.2 (i + 1) (by omega))
    obtain ⟨o2, p2, q2, g1, g2, g3⟩ := ih _ p' q' (by omega) h' hp'
    refine ⟨o2, p2, q2, g1, g2, fun k hk => ?_⟩
    obtain ⟨k, rfl⟩ := step_k (by omega : 0 < k)
    simp only [spec_l04DrawPermutation.l1]
    rw [if_pos (by omega), wrap_suc (i + 1) (by omega), e, bnd, if_pos (by omega), if_pos (by omega), if_pos (by omega), if_pos (by omega), e1, rdI, rdI, Int.toNat_natCast, Int.toNat_natCast]
    exact g3 k (by omega)
theorem dp0_ok {s : List Int} (hs : okB s) (n : Nat) (hn : 1 ≤ n ∧ n ≤ 8) (p q : Int) (hp : 0 ≤ p ∧ p ≤ 4096) : ∀ (m i : Nat) (o : List Int), i + m = n → o.length = i → (∀ j, j < i → 0 ≤ o.getD j 0 ∧ o.getD j 0 < (n : Int)) →
    ∃ o' p' q', Rg n o' ∧ (0 ≤ p' ∧ p' ≤ 4096) ∧ ∀ k, m + 20 < k → spec_l04DrawPermutation.l0 k n o i s p q = some (o', p', q') := by
  intro m
  induction m with
  | zero =>
    intro i o h1 h2 h3
    have hi : i = n := by omega
    subst hi
    obtain ⟨o2, p2, q2, g1, g2, g3⟩ := dp1_ok hs i hn.2 (i - 1) o p q (by omega) ⟨h2, h3⟩ hp
    refine ⟨o2, p2, q2, g1, g2, fun k hk => ?_⟩
    obtain ⟨k, rfl⟩ := step_k (by omega : 0 < k)
    have e1 : wrap64 ((i : Int) - 1) = ((i - 1 : Nat) : Int) := by rw [wrap_in (by omega) (by omega)]; omega
    simp only [spec_l04DrawPermutation.l0]
    rw [if_neg (by omega), e1]
    exact g3 k (by omega)
  | succ m ih =>
    intro i o h1 h2 h3
    obtain ⟨o2, p2, q2, g1, g2, g3⟩ := ih (i + 1) (o ++ [(i : Int)]) (by omega) (by simp; omega) (fun j hj => by
      rw [List.getD_eq_getElem?_getD]
      by_cases e : j < o.length
      · rw [List.getElem?_append_left e, ← List.getD_eq_getElem?_getD]; exact h3 j (by omega)
      · rw [List.getElem?_append_right (by omega), show j - o.length = 0 from by omega]
        simp only [List.getElem?_cons_zero, Option.getD_some]; omega)
    refine ⟨o2, p2, q2, g1, g2, fun k hk => ?_⟩
    obtain ⟨k, rfl⟩ := step_k (by omega : 0 < k)
    simp only [spec_l04DrawPermutation.l0]
    rw [if_pos (by omega), if_pos (by omega), wrap_suc i (by omega)]
    exact g3 k (by omega)
theorem dp_ok {s : List Int} (hs : okB s) (n : Nat) (hn : 1 ≤ n ∧ n ≤ 8) (p q : Int) (hp : 0 ≤ p ∧ p ≤ 4096) : ∃ o p' q', Rg n o ∧ (0 ≤ p' ∧ p' ≤ 4096) ∧ ∀ k, 50 < k → spec_l04DrawPermutation.f k s p q n = some (o, p', q') := by
  obtain ⟨o, p', q', g1, g2, g3⟩ := dp0_ok hs n hn p q hp n 0 [] (by omega) rfl (fun j hj => by omega)
  exact ⟨o, p', q', g1, g2, fun k hk => g3 k (by omega)⟩
theorem one_more {v a : Int} (h : 0 ≤ v ∧ v < a) (ha : a ≤ 8) : ∃ n : Nat, wrap64 (1 + v) = (n : Int) ∧ 1 ≤ n ∧ (n : Int) ≤ a := ⟨(1 + v).toNat, by rw [wrap_in (by omega) (by omega)]; omega, by omega, by omega⟩
theorem dct_ok (s : List Int) (hs : okB s) : ∃ t, ∀ k, 6000 < k → spec_DrawCycleType.f k s = some t := by
  obtain ⟨q0, hf⟩ := from_ok s hs
  obtain ⟨v, p1, q1, e1, hv, hp1⟩ := next_ok hs 0 q0 8 (by omega) (by omega)
  obtain ⟨n, hn, hn1, hn8⟩ := one_more hv (by omega)
  obtain ⟨o, p2, q2, ho, hp2, hd⟩ := dp_ok hs n ⟨hn1, by omega⟩ p1 q1 hp1
  obtain ⟨v3, p3, q3, e3, hv3, hp3⟩ := next_ok hs p2 q2 20 hp2 (by omega)
  have hol := ho.1
  by_cases h0 : v3 = 0
  · obtain ⟨v4, p4, q4, e4, _, _⟩ := pick_ok hs p3 q3 [8, (-1), 0] hp3 (by simp)
    refine ⟨o.set 0 v4, fun k hk => ?_⟩
    unfold spec_DrawCycleType.f
    rw [hf k (by omega), bnd, e1, bnd, hn, hd k (by omega), bnd, e3, bnd, if_pos h0, e4, bnd, if_pos (show (0 : Int) < (o.length : Int) by omega)]; rfl
  · refine ⟨o, fun k hk => ?_⟩
    unfold spec_DrawCycleType.f
    rw [hf k (by omega), bnd, e1, bnd, hn, hd k (by omega), bnd, e3, bnd, if_neg h0]
theorem dj2_ok {s : List Int} (hs : okB s) (n : Nat) (hn : 1 ≤ n ∧ n ≤ 8) (L : List (List Int)) (hL : L.length ≤ 100) (p q : Int) (hp : 0 ≤ p ∧ p ≤ 4096) : ∃ r, ∀ k, 100 < k → spec_DrawCountingSeries.j2 k n L s p q = some r := by
  obtain ⟨v, p1, q1, e1, _, hp1⟩ := next_ok hs p q 12 hp (by omega)
  by_cases h0 : v = 0
  · obtain ⟨o, p2, q2, _, hp2, hd⟩ := dp_ok hs n hn p1 q1 hp1
    obtain ⟨v3, p3, q3, e3, _, hp3⟩ := next_ok hs p2 q2 14 hp2 (by omega)
    obtain ⟨v4, p4, q4, e4, _, _⟩ := pick_ok hs p3 q3 [2, 4, v3] hp3 (by simp)
    refine ⟨(L ++ [o], v4), fun k hk => ?_⟩
    obtain ⟨k, rfl⟩ := step_k (by omega : 0 < k)
    simp only [spec_DrawCountingSeries.j2]
    rw [e1, bnd, if_pos h0, hd k (by omega), bnd, if_pos (by omega), e3, bnd, e4, bnd]
  · by_cases h1 : v = 1
    · obtain ⟨v3, p3, q3, e3, _, hp3⟩ := next_ok hs p1 q1 14 hp1 (by omega)
      obtain ⟨v4, p4, q4, e4, _, _⟩ := pick_ok hs p3 q3 [2, 4, v3] hp3 (by simp)
      refine ⟨(L ++ [[0, 1]], v4), fun k hk => ?_⟩
      obtain ⟨k, rfl⟩ := step_k (by omega : 0 < k)
      simp only [spec_DrawCountingSeries.j2]
      rw [e1, bnd, if_neg h0, if_pos h1, if_pos (by omega), e3, bnd, e4, bnd]
    · obtain ⟨v3, p3, q3, e3, _, hp3⟩ := next_ok hs p1 q1 14 hp1 (by omega)
      obtain ⟨v4, p4, q4, e4, _, _⟩ := pick_ok hs p3 q3 [2, 4, v3] hp3 (by simp)
      refine ⟨(L, v4), fun k hk => ?_⟩
      obtain ⟨k, rfl⟩ := step_k (by omega : 0 < k)
      simp only [spec_DrawCountingSeries.j2]
      rw [e1, bnd, if_neg h0, if_neg h1, e3, bnd, e4, bnd]
theorem dl1_ok {s : List Int} (hs : okB s) (n : Nat) (hn : 1 ≤ n ∧ n ≤ 8) (us : List Int) (hus : Rg n us) (L : List (List Int)) (hL : L.length ≤ 100) (now : List Int) (hnow : Rg n now) (x9 : Int) (p q : Int) (hp : 0 ≤ p ∧ p ≤ 4096) (K : Nat)
    (H : ∀ now', Rg n now' → ∃ r, ∀ k, K < k → spec_DrawCountingSeries.l0 k n us L now' (wrap64 (x9 + 1)) s p q = some r) : ∀ (m i : Nat) (o : List Int) (un : Bool), i + m = n → o.length = i → (∀ j, j < i → 0 ≤ o.getD j 0 ∧ o.getD j 0 < (n : Int)) →
    ∃ r, ∀ k, K + m + 200 < k → spec_DrawCountingSeries.l1 k n us L now x9 o un i s p q = some r := by
  intro m
  induction m with
  | zero =>
    intro i o un h1 h2 h3
    have hl := hnow.1
    cases un with
    | true =>
      obtain ⟨r, hr⟩ := dj2_ok hs n hn L hL p q hp
      refine ⟨r, fun k hk => ?_⟩
      obtain ⟨k, rfl⟩ := step_k (by omega : 0 < k)
      simp only [spec_DrawCountingSeries.l1]
      rw [if_neg (by omega), if_pos trivial]; exact hr k (by omega)
    | false =>
      have hi : i = n := by omega
      subst hi
      obtain ⟨r, hr⟩ := H o ⟨h2, h3⟩
      refine ⟨r, fun k hk => ?_⟩
      obtain ⟨k, rfl⟩ := step_k (by omega : 0 < k)
      simp only [spec_DrawCountingSeries.l1]
      rw [if_neg (by omega), if_neg (by decide)]; exact hr k (by omega)
  | succ m ih =>
    intro i o un h1 h2 h3
    have hl := hnow.1
    have hv := hnow.2 i (by omega)
    obtain ⟨w, hw⟩ : ∃ w : Nat, now.getD i 0 = (w : Int) := ⟨(now.getD i 0).toNat, by omega⟩
    have hul := hus.1
    have hstep : ∀ un', ∃ r, ∀ k, K + m + 200 < k → spec_DrawCountingSeries.l1 k n us L now x9 (o ++ [us.getD w 0]) un' ((i + 1 : Nat) : Int) s p q = some r := fun un' => ih (i + 1) (o ++ [us.getD w 0]) un' (by omega) (by simp; omega) (fun j hj => by
      rw [List.getD_eq_getElem?_getD]
      by_cases e : j < o.length
      · rw [List.getElem?_append_left e, ← List.getD_eq_getElem?_getD]; exact h3 j (by omega)
      · rw [List.getElem?_append_right (by omega), show j - o.length = 0 from by omega]
        simp only [List.getElem?_cons_zero, Option.getD_some]; exact hus.2 w (by omega))
    cases un with
    | true =>
      obtain ⟨r, hr⟩ := hstep ((w : Int) == (i : Int))
      refine ⟨r, fun k hk => ?_⟩
      obtain ⟨k, rfl⟩ := step_k (by omega : 0 < k)
      simp only [spec_DrawCountingSeries.l1]
      rw [if_pos (by omega), if_pos (by omega), rdI, hw, if_pos (by omega), if_pos (by omega), if_pos (by omega), bnd, if_pos trivial, rdI, wrap_suc i (by omega)]
      exact hr k (by omega)
    | false =>
      obtain ⟨r, hr⟩ := hstep false
      refine ⟨r, fun k hk => ?_⟩
      obtain ⟨k, rfl⟩ := step_k (by omega : 0 < k)
      simp only [spec_DrawCountingSeries.l1]
      rw [if_pos (by omega), if_pos (by omega), rdI, hw, if_pos (by omega), if_pos (by omega), if_pos (by omega), bnd, if_neg (by decide), rdI, wrap_suc i (by omega)]
      exact hr k (by omega)
theorem dl0_ok {s : List Int} (hs : okB s) (n : Nat) (hn : 1 ≤ n ∧ n ≤ 8) (us : List Int) (hus : Rg n us) (p q : Int) (hp : 0 ≤ p ∧ p ≤ 4096) : ∀ (m i : Nat) (L : List (List Int)) (now : List Int), i + m = 12 → L.length ≤ i → Rg n now →
    ∃ r, ∀ k, 300 * m + 200 < k → spec_DrawCountingSeries.l0 k n us L now i s p q = some r := by
  intro m
  induction m with
  | zero =>
    intro i L now h1 h2 h3
    obtain ⟨r, hr⟩ := dj2_ok hs n hn L (by omega) p q hp
    refine ⟨r, fun k hk => ?_⟩
    obtain ⟨k, rfl⟩ := step_k (by omega : 0 < k)
    simp only [spec_DrawCountingSeries.l0]
    rw [if_neg (by omega)]; exact hr k (by omega)
  | succ m ih =>
    intro i L now h1 h2 h3
    obtain ⟨r, hr⟩ := dl1_ok hs n hn us hus (L ++ [now]) (by simp; omega) now h3 i p q hp (300 * m + 200) (fun now' h' => by
      obtain ⟨r, hr⟩ := ih (i + 1) (L ++ [now]) now' (by omega) (by simp; omega) h'
      exact ⟨r, fun k hk => by rw [wrap_suc i (by omega)]; exact hr k hk⟩) n 0 [] true (by omega) rfl (fun j hj => by omega)
    refine ⟨r, fun k hk => ?_⟩
    obtain ⟨k, rfl⟩ := step_k (by omega : 0 < k)
    simp only [spec_DrawCountingSeries.l0]
    rw [if_pos (by omega), if_pos (by omega)]; exact hr k (by omega)
theorem dcs_ok (s : List Int) (hs : okB s) : ∃ r, ∀ k, 6000 < k → spec_DrawCountingSeries.f k s = some r := by
  obtain ⟨q0, hf⟩ := from_ok s hs
  obtain ⟨v, p1, q1, e1, hv, hp1⟩ := next_ok hs 0 q0 4 (by omega) (by omega)
  obtain ⟨n, hn, hn1, hn4⟩ := one_more hv (by omega)
  obtain ⟨o, p2, q2, ho, hp2, hd⟩ := dp_ok hs n ⟨hn1, by omega⟩ p1 q1 hp1
  obtain ⟨r, hr⟩ := dl0_ok hs n ⟨hn1, by omega⟩ o ho p2 q2 hp2 12 0 [] o (by omega) (by simp) ho
  refine ⟨r, fun k hk => ?_⟩
  have hol := ho.1
  unfold spec_DrawCountingSeries.f
  rw [hf k (by omega), bnd, e1, bnd, hn, hd k (by omega), bnd, own4_is o (by omega), bnd]
  exact hr k (by omega)
/-! ### the law's own helpers -/
theorem like_loop (l : List Int) (hl : l.length ≤ 1000) : ∀ (m i k : Nat), i + m = l.length → m < k → laws_likeInts.l0 k l l i = some true := by
  intro m
  induction m with
  | zero => intro i k h1 hk; obtain ⟨k, rfl⟩ := step_k hk; simp only [laws_likeInts.l0]; rw [if_neg (by omega)]
  | succ m ih =>
    intro i k h1 hk
    obtain ⟨k, rfl⟩ := step_k hk
    simp only [laws_likeInts.l0]
    rw [if_pos (by omega), if_pos (by omega), if_pos (by omega), if_pos trivial, wrap_suc i (by omega)]
    exact ih (i + 1) k (by omega) (by omega)
theorem like_is (l : List Int) (hl : l.length ≤ 1000) (k : Nat) (hk : 1000 < k) : laws_likeInts.f k l l = some true := by
  unfold laws_likeInts.f
  rw [if_pos rfl]
  exact like_loop l hl l.length 0 k (by omega) (by omega)
theorem sum_loop (l : List Int) (hl : l.length ≤ 8) (hb : ∀ x ∈ l, 1 ≤ x ∧ x ≤ 8) : ∀ (m i : Nat) (a : Int) (k : Nat), i + m = l.length → 0 ≤ a → a ≤ 8 * i → m < k → laws_sum.l0 k l a i = some (a + sumL (l.drop i)) := by
  intro m
  induction m with
  | zero => intro i a k h1 h2 h3 hk; obtain ⟨k, rfl⟩ := step_k hk; simp only [laws_sum.l0]; rw [if_neg (by omega), List.drop_eq_nil_of_le (by omega)]; simp [sumL]
  | succ m ih =>
    intro i a k h1 h2 h3 hk
    obtain ⟨k, rfl⟩ := step_k hk
    have hx : 1 ≤ l.getD i 0 ∧ l.getD i 0 ≤ 8 := by
      rw [List.getD_eq_getElem?_getD, List.getElem?_eq_getElem (by omega), Option.getD_some]; exact hb _ (List.getElem_mem _)
    simp only [laws_sum.l0]
    rw [if_pos (by omega), if_pos (by omega), rdI, wrap_in (by omega) (by omega), wrap_suc i (by omega), ih (i + 1) _ k (by omega) (by omega) (by omega) (by omega), drop_cons l i (by omega)]
    simp only [sumL]; congr 1; omega
theorem sum_is (l : List Int) (hl : l.length ≤ 8) (hb : ∀ x ∈ l, 1 ≤ x ∧ x ≤ 8) (k : Nat) (hk : 10 < k) : laws_sum.f k l = some (sumL l) := by
  unfold laws_sum.f
  have := sum_loop l hl hb l.length 0 0 k (by omega) (by omega) (by omega) (by omega)
  rw [List.drop_zero, Int.zero_add] at this
  exact this
theorem told_cyc (l : List Int) : ∃ (pb : Bool) (r : List Int) (K : Nat), (pb = true → r.length ≤ 8 ∧ (∀ x ∈ r, 1 ≤ x ∧ x ≤ 8) ∧ sumL r = l.length ∧ ∀ k, K < k → spec_l04Permutation.f k l = some true) ∧
    ∀ k, K < k → spec_CycleType.f k l = some (if pb = true then (r, 0) else ([], 2)) ∧ impl_CycleType.f k l = some (if pb = true then (r, 0) else ([], 2)) := by
  obtain ⟨pb, r, K, h1, h2⟩ := ct_is l
  cases pb with
  | true =>
    obtain ⟨g1, g2, g3, g4⟩ := h1 rfl
    refine ⟨true, r, K, fun _ => ⟨g2, g3, g4, fun k hk => (h2 k hk).1⟩, fun k hk => ?_⟩
    obtain ⟨a, b, c⟩ := h2 k hk
    have c' : impl_cycleType.f k l = some r := by rw [c, if_pos rfl]
    have hlp := List.length_pos_iff.2 g1
    refine ⟨?_, ?_⟩
    · show spec_CycleType.f k l = some (r, 0)
      unfold spec_CycleType.f; rw [a, bnd, if_pos rfl, b rfl, bnd]
    · show impl_CycleType.f k l = some (r, 0)
      unfold impl_CycleType.f; rw [c', bnd, if_neg (by omega)]
  | false =>
    refine ⟨false, [], K, fun h => (by cases h), fun k hk => ?_⟩
    obtain ⟨a, b, c⟩ := h2 k hk
    have c' : impl_cycleType.f k l = some [] := by rw [c, if_neg (by decide)]
    unfold spec_CycleType.f impl_CycleType.f
    rw [a, bnd, if_neg (by decide), c', bnd, if_pos (show ((([] : List Int).length : Int) = 0) from rfl), if_neg (by decide)]
    exact ⟨rfl, rfl⟩
theorem sod6 : impl_SeriesOfDegrees.f 60 [1] 6 = some ([1, 1, 1, 1, 1, 1, 1], 0) := by kernel_rfl
theorem j2_told (t r : List Int) (c : Int) (pb : Bool) (K : Nat) (hrc : (r, c) = (if pb = true then (r, (0 : Int)) else ([], 2))) (hpb : pb = true → r.length ≤ 8 ∧ (∀ x ∈ r, 1 ≤ x ∧ x ≤ 8) ∧ sumL r = t.length ∧ ∀ k, K < k → spec_l04Permutation.f k t = some true) :
    ∃ K2, ∀ k, K2 < k → laws_FnPermutationSeries.j2 (k + 1) t r c false = some true := by
  cases pb with
  | false =>
    rw [if_neg (by decide)] at hrc
    injection hrc with h1 h2
    subst h1; subst h2
    refine ⟨0, fun k _ => ?_⟩
    rw [laws_FnPermutationSeries.j2, if_neg (by decide), if_neg (by decide)]; rfl
  | true =>
    rw [if_pos rfl] at hrc
    injection hrc with _ h2
    subst h2
    obtain ⟨g1, g2, g3, g4⟩ := hpb rfl
    obtain ⟨r3, c3, hr3, hp3, hs3, K3, hK3⟩ := same2 [t] 6
    have hc3 : c3 = 0 := hs3 t rfl (by omega) (by omega) ⟨K, g4⟩
    obtain ⟨_, hl3, hz3⟩ := hp3 hc3
    subst hc3
    refine ⟨K3 + 100, fun k hk => ?_⟩
    have hsod := more (impl_SeriesOfDegrees.mono [1] 6) sod6 k (by omega)
    rw [laws_FnPermutationSeries.j2, if_neg (by decide), if_pos rfl, (hK3 k (by omega)).2, bnd, hsod, bnd, if_pos rfl, if_pos rfl, if_pos (by decide), if_pos (by decide), if_pos (show (0 : Int) < (r3.length : Int) by omega)]
    rw [show rd r3 0 = 1 from hz3, if_pos rfl, sum_is r g1 g2 k (by omega), bnd, g3, beq_self_eq_true]
theorem FnPermutationSeries : laws_FnPermutationSeries.Pure := by
  intro l _ _ hw
  by_cases hbig : (l.length : Int) > 4096
  · refine ⟨1, ?_⟩
    unfold laws_FnPermutationSeries.f laws_big.f; rw [bnd, decide_eq_true hbig, if_pos rfl]
  · have hs : okB l := okB_of (by omega) hw
    obtain ⟨t, ht⟩ := dct_ok l hs
    obtain ⟨pb, r0, K1, hpb, hK1⟩ := told_cyc t
    obtain ⟨⟨r, c⟩, hrc⟩ : ∃ z : List Int × Int, z = (if pb = true then (r0, 0) else ([], 2)) := ⟨_, rfl⟩
    have hrr : (r, c) = (if pb = true then (r, (0 : Int)) else ([], 2)) ∧ (pb = true → r.length ≤ 8 ∧ (∀ x ∈ r, 1 ≤ x ∧ x ≤ 8) ∧ sumL r = t.length ∧ ∀ k, K1 < k → spec_l04Permutation.f k t = some true) ∧ r.length ≤ 8 := by
      cases pb with
      | true =>
        rw [if_pos rfl] at hrc
        injection hrc with h1 h2
        subst h1; subst h2
        exact ⟨by rw [if_pos rfl], hpb, (hpb rfl).1⟩
      | false =>
        rw [if_neg (by decide)] at hrc
        injection hrc with h1 h2
        subst h1; subst h2
        exact ⟨by rw [if_neg (by decide)], fun h => (by cases h), by simp⟩
    obtain ⟨q1, q2, q3⟩ := hrr
    obtain ⟨K4, hK4⟩ := j2_told t r c pb K1 q1 q2
    obtain ⟨⟨L, n⟩, hL⟩ := dcs_ok l hs
    obtain ⟨r2, c2, hr2, hp2, _, K2, hK2⟩ := same2 L n
    obtain ⟨k, hk⟩ : ∃ k, k = K1 + K2 + K4 + 10000 := ⟨_, rfl⟩
    have J1 : laws_FnPermutationSeries.j1 (k + 2) t r c n r2 c2 false = some true := by
      rw [laws_FnPermutationSeries.j1, if_neg (by decide)]
      by_cases h0 : c2 = 0
      · obtain ⟨e0, e1, e2⟩ := hp2 h0
        rw [if_pos h0, if_pos (by omega), show rd r2 0 = 1 from e2, if_pos rfl, wrap_in (by omega) (by omega), ← e1, bne_self_eq_false]
        exact hK4 k (by omega)
      · rw [if_neg h0]; exact hK4 k (by omega)
    refine ⟨k + 3, ?_⟩
    unfold laws_FnPermutationSeries.f laws_big.f
    rw [bnd, decide_eq_false hbig, if_neg (by decide), ht (k + 3) (by omega), bnd, (hK1 (k + 3) (by omega)).2, ← hrc, bnd, (hK1 (k + 3) (by omega)).1, ← hrc, bnd, if_pos rfl, like_is r (by omega) _ (by omega), bnd, Bool.not_true]
    rw [laws_FnPermutationSeries.j0, if_neg (by decide), hL (k + 2) (by omega), bnd, (hK2 (k + 2) (by omega)).2, bnd, (hK2 (k + 2) (by omega)).1, bnd, if_pos rfl, like_is r2 (by omega) _ (by omega), bnd, Bool.not_true]
    exact J1

end Go.Proofs.Ytpegpdcdcfcgdaa.Pure
