/- FnExactCycleType: what the program computes is what the reference computes, for all arguments. -/
import Derived.Test.YtpegpdcdcfcgdaaEFnExactCycleTypex5
namespace Go.Proofs.Ytpegpdcdcfcgdaa.Pure
open Go.RowKit Go.Proofs.Ytpegpdcdcfcgdaa.EFnExactCycleType Go.Proofs.YtpegpdcdcfcgdaaW.PrintWords Go.Proofs.YtpegpdcdcfcgdaaW.PrintLast

/-- no definitional step: the kernel is never asked to compute what follows -/
theorem bnd {α β : Type} (a : α) (f : α → Option β) : (some a).bind f = f a := by
  have h : ∀ o : Option α, o = some a → o.bind f = f a := fun o h => by subst h; rfl
  exact h _ rfl
theorem wrap_in {x : Int} (h0 : -9223372036854775808 ≤ x) (h1 : x ≤ 9223372036854775807) : wrap64 x = x := by unfold wrap64; omega
theorem rd_mid (pre suf : List Int) (a : Int) : rd (pre ++ a :: suf) (pre.length : Int) = a := by simp [rd]
theorem step_k {n k : Nat} (h : n < k) : ∃ m, k = m + 1 := ⟨k - 1, by omega⟩
theorem eqI_loop : ∀ (suf pre : List Int) (k : Nat), suf.length < k → (pre ++ suf).length ≤ 1048576 →
    laws_eqInt64S.l0 k (pre ++ suf) (pre ++ suf) pre.length = some true := by
  intro suf
  induction suf with
  | nil =>
    intro pre k hk _
    obtain ⟨k, rfl⟩ := step_k hk
    simp only [laws_eqInt64S.l0]; rw [if_neg (by simp)]
  | cons a suf ih =>
    intro pre k hk hl
    obtain ⟨k, rfl⟩ := step_k hk
    simp only [List.length_append, List.length_cons] at hl hk
    have e2 : wrap64 ((pre.length : Int) + 1) = ((pre ++ [a]).length : Int) := by rw [wrap_in (by omega) (by omega)]; simp
    simp only [laws_eqInt64S.l0]
    rw [if_pos (by simp only [List.length_append, List.length_cons]; omega), if_pos (by omega), if_pos (by simp only [List.length_append, List.length_cons]; omega), if_pos trivial, e2]
    have := ih (pre ++ [a]) k (by omega) (by simp; omega)
    simpa using this
theorem eqI_is (l : List Int) (k : Nat) (hk : l.length < k) (hl : l.length ≤ 1048576) : laws_eqInt64S.f k l l = some true := by
  unfold laws_eqInt64S.f; rw [if_pos rfl]; exact eqI_loop l [] k hk (by simpa using hl)
/-- the marks from m on, n of them -/
def marks : Nat → Int → List Int
  | 0, _ => []
  | n + 1, m => m :: marks n (m + 1)
theorem marks_length : ∀ (n : Nat) (m : Int), (marks n m).length = n
  | 0, _ => rfl
  | n + 1, m => by simp [marks, marks_length n]
theorem mark_loop : ∀ (suf pre : List Int) (k : Nat) (m : Int), suf.length < k → (pre ++ suf).length ≤ 1048576 → 0 ≤ m → m + suf.length ≤ 9000000000 →
    laws_markInt64S.l0 k (pre ++ suf) m pre.length = some (m + suf.length, pre ++ marks suf.length m) := by
  intro suf
  induction suf with
  | nil =>
    intro pre k m hk _ _ _
    obtain ⟨k, rfl⟩ := step_k hk
    simp only [laws_markInt64S.l0]; rw [if_neg (by simp)]; simp [marks]
  | cons a suf ih =>
    intro pre k m hk hl h0 h1
    obtain ⟨k, rfl⟩ := step_k hk
    simp only [List.length_append, List.length_cons] at hl hk h1
    have e1 : (pre ++ a :: suf).set (pre.length : Int).toNat m = (pre ++ [m]) ++ suf := by
      rw [Int.toNat_natCast, List.set_append_right (h := Nat.le_refl _)]; simp
    have e2 : wrap64 ((pre.length : Int) + 1) = ((pre ++ [m]).length : Int) := by rw [wrap_in (by omega) (by omega)]; simp
    have e3 : wrap64 (m + 1) = m + 1 := wrap_in (by omega) (by omega)
    simp only [laws_markInt64S.l0]
    rw [if_pos (by simp only [List.length_append, List.length_cons]; omega), if_pos (by omega), e1, e2, e3]
    have := ih (pre ++ [m]) k (m + 1) (by omega) (by simp; omega) (by omega) (by omega)
    rw [this]; simp only [List.append_assoc, List.singleton_append, marks, List.length_cons]
    congr 2; omega
theorem mark_is (l : List Int) (k : Nat) (m : Int) (hk : l.length < k) (hl : l.length ≤ 1048576) (h0 : 0 ≤ m) (h1 : m ≤ 8000000000) :
    laws_markInt64S.f k l m = some (m + l.length, marks l.length m) := by
  unfold laws_markInt64S.f; exact mark_loop l [] k m hk (by simpa using hl) h0 (by omega)
theorem held_loop : ∀ (n : Nat) (pre : List Int) (k : Nat) (m : Int), n < k → pre.length + n ≤ 1048576 → 0 ≤ m → m + n ≤ 9000000000 →
    laws_heldInt64S.l0 k (pre ++ marks n m) m pre.length = some (m + n) := by
  intro n
  induction n with
  | zero =>
    intro pre k m hk _ _ _
    obtain ⟨k, rfl⟩ := step_k hk
    simp only [laws_heldInt64S.l0]; rw [if_neg (by simp [marks])]; simp
  | succ n ih =>
    intro pre k m hk hl h0 h1
    obtain ⟨k, rfl⟩ := step_k hk
    have e2 : wrap64 ((pre.length : Int) + 1) = ((pre ++ [m]).length : Int) := by rw [wrap_in (by omega) (by omega)]; simp
    have e3 : wrap64 (m + 1) = m + 1 := wrap_in (by omega) (by omega)
    rw [show marks (n + 1) m = m :: marks n (m + 1) from rfl]
    simp only [laws_heldInt64S.l0]
    rw [if_pos (by simp only [List.length_append, List.length_cons]; omega), if_pos (by omega), if_pos (rd_mid _ _ _), e2, e3]
    have := ih (pre ++ [m]) k (m + 1) (by omega) (by simp; omega) (by omega) (by omega)
    simp only [List.append_assoc, List.singleton_append] at this
    rw [this]; congr 1; omega
theorem held_is (n k : Nat) (m : Int) (hk : n < k) (hl : n ≤ 1048576) (h0 : 0 ≤ m) (h1 : m ≤ 8000000000) :
    laws_heldInt64S.f k (marks n m) m = some (m + n) := by
  unfold laws_heldInt64S.f
  exact held_loop n [] k m hk (by simpa using hl) h0 (by omega)
theorem toI_loop : ∀ (suf pre rest : List Int) (k : Nat), rest.length = suf.length → suf.length < k → (pre ++ suf).length ≤ 1048576 →
    laws_toInt64S.l0 k (pre ++ suf) (pre ++ rest) pre.length = some (pre ++ suf) := by
  intro suf
  induction suf with
  | nil =>
    intro pre rest k hr hk _
    obtain ⟨k, rfl⟩ := step_k hk
    have : rest = [] := List.eq_nil_of_length_eq_zero hr
    subst this
    simp only [laws_toInt64S.l0]; rw [if_neg (by simp)]
  | cons a suf ih =>
    intro pre rest k hr hk hl
    obtain ⟨k, rfl⟩ := step_k hk
    cases rest with
    | nil => simp at hr
    | cons b rest =>
      have e1 : (pre ++ b :: rest).set (pre.length : Int).toNat (rd (pre ++ a :: suf) (pre.length : Int)) = (pre ++ [a]) ++ rest := by
        rw [rd_mid, Int.toNat_natCast, List.set_append_right (h := Nat.le_refl _)]; simp
      simp only [List.length_append, List.length_cons] at hl hk hr
      have e2 : wrap64 ((pre.length : Int) + 1) = ((pre ++ [a]).length : Int) := by rw [wrap_in (by omega) (by omega)]; simp
      simp only [laws_toInt64S.l0]
      rw [if_pos (by simp only [List.length_append, List.length_cons]; omega), if_pos (by omega), if_pos (by simp only [List.length_append, List.length_cons]; omega), e1, e2]
      have := ih (pre ++ [a]) rest k (by omega) (by omega) (by simp; omega)
      simpa using this
theorem toI_is (l : List Int) (k : Nat) (hk : l.length < k) (hl : l.length ≤ 1048576) : laws_toInt64S.f k l = some l := by
  unfold laws_toInt64S.f
  rw [if_pos (by omega), if_pos (by simp; omega)]
  exact toI_loop l [] _ k (by simp) hk (by simpa using hl)
/-! ### permutations and their cycles -/
def upd (b : Nat → Bool) (v : Nat) : Nat → Bool := fun j => if j = v then true else b j
theorem upd_at (b : Nat → Bool) (v j : Nat) : upd b v j = if j = v then true else b j := rfl
def inR (n : Nat) (v : Int) : Bool := decide (0 ≤ v) && decide (v < (n : Int))
def pm (n : Nat) : List Int → (Nat → Bool) → Bool
  | [], _ => true
  | v :: vs, b => if inR n v = true then (if b v.toNat = true then false else pm n vs (upd b v.toNat)) else false
theorem pm_nil (n : Nat) (b : Nat → Bool) : pm n [] b = true := rfl
theorem pm_cons (n : Nat) (v : Int) (vs : List Int) (b : Nat → Bool) : pm n (v :: vs) b = if inR n v = true then (if b v.toNat = true then false else pm n vs (upd b v.toNat)) else false := rfl
theorem rdI (l : List Int) (i : Nat) : rd l (i : Int) = l.getD i 0 := by unfold rd; rw [Int.toNat_natCast]
theorem sIn4_is (x lo hi : Int) : spec_l01In.f x lo hi = some (decide (lo ≤ x) && decide (x ≤ hi)) := by
  unfold spec_l01In.f
  by_cases h : x ≥ lo
  · rw [if_pos h]; simp only [ge_iff_le] at h; simp [h]
  · rw [if_neg h]; simp only [ge_iff_le] at h; simp [h]
theorem inR_iff {n : Nat} {v : Int} : inR n v = true ↔ 0 ≤ v ∧ v < (n : Int) := by unfold inR; simp only [Bool.and_eq_true, decide_eq_true_eq]
theorem chain8 {α : Type} (v : Int) (w : Nat) (hv : v = (w : Int)) (hw : w < 8) (f : Nat → α) (z : α) :
    (if v = 0 then f 0 else if v = 1 then f 1 else if v = 2 then f 2 else if v = 3 then f 3 else if v = 4 then f 4 else if v = 5 then f 5 else if v = 6 then f 6 else if v = 7 then f 7 else z) = f w := by
  subst hv
  rcases (by omega : w = 0 ∨ w = 1 ∨ w = 2 ∨ w = 3 ∨ w = 4 ∨ w = 5 ∨ w = 6 ∨ w = 7) with rfl | rfl | rfl | rfl | rfl | rfl | rfl | rfl <;> rfl
theorem drop_cons (l : List Int) (i : Nat) (h : i < l.length) : l.drop i = l.getD i 0 :: l.drop (i + 1) := by
  rw [List.drop_eq_getElem_cons h, List.getD_eq_getElem?_getD, List.getElem?_eq_getElem h]; rfl
theorem wrap_suc (i : Nat) (h : i ≤ 1000000000) : wrap64 ((i : Int) + 1) = ((i + 1 : Nat) : Int) := by rw [wrap_in (by omega) (by omega)]; simp
theorem perm_is (l : List Int) (h8 : l.length ≤ 8) : ∀ (m i k : Nat) (b : Nat → Bool), i + m = l.length →
    spec_l04Permutation.l0 (k + (2 * m + 2)) l i (b 0) (b 1) (b 2) (b 3) (b 4) (b 5) (b 6) (b 7) = some (if pm l.length (l.drop i) b = true then decide (1 ≤ l.length) else false) := by
  intro m
  induction m with
  | zero =>
    intro i k b h1
    rw [show k + (2 * 0 + 2) = (k + 1) + 1 from rfl]
    simp only [spec_l04Permutation.l0]
    rw [if_neg (by omega)]
    simp only [spec_l04Permutation.j1]
    rw [if_neg (by decide), List.drop_eq_nil_of_le (by omega)]
    rw [pm_nil, if_pos rfl]
    by_cases h : (l.length : Int) ≥ 1
    · rw [if_pos h, decide_eq_true (by omega : (l.length : Int) ≤ 8), decide_eq_true (by omega : 1 ≤ l.length)]
    · rw [if_neg h, decide_eq_false (by omega : ¬ 1 ≤ l.length)]
  | succ m ih =>
    intro i k b h1
    have e1 : wrap64 ((l.length : Int) - 1) = (l.length : Int) - 1 := wrap_in (by omega) (by omega)
    rw [show k + (2 * (m + 1) + 2) = ((k + (2 * m + 2)) + 1) + 1 from by omega]
    simp only [spec_l04Permutation.l0]
    rw [if_pos (by omega), decide_eq_true (by omega : (l.length : Int) ≤ 8)]
    simp only [spec_l04Permutation.j1]
    rw [if_pos trivial, if_pos (by omega), if_pos (by omega), sIn4_is, bnd, e1, rdI, drop_cons l i (by omega), wrap_suc i (by omega), pm_cons]
    by_cases hr : inR l.length (l.getD i 0) = true
    · have hr' := inR_iff.1 hr
      obtain ⟨w, hw⟩ : ∃ w : Nat, l.getD i 0 = (w : Int) := ⟨(l.getD i 0).toNat, by omega⟩
      rw [if_pos hr, if_pos (by rw [decide_eq_true hr'.1, decide_eq_true (by omega : l.getD i 0 ≤ (l.length : Int) - 1)]; rfl)]
      refine (chain8 (l.getD i 0) w hw (by omega) (fun j => if b j = true then some false else spec_l04Permutation.l0 (k + (2 * m + 2)) l ((i + 1 : Nat) : Int) (upd b j 0) (upd b j 1) (upd b j 2) (upd b j 3) (upd b j 4) (upd b j 5) (upd b j 6) (upd b j 7)) none).trans ?_
      rw [show (l.getD i 0).toNat = w from by omega]
      by_cases hb : b w = true
      · show (if b w = true then _ else _) = _
        rw [if_pos hb, if_pos hb, if_neg (by decide)]
      · show (if b w = true then _ else _) = _
        rw [if_neg hb, if_neg hb]
        exact ih (i + 1) k (upd b w) (by omega)
    · have hr' : ¬ (0 ≤ l.getD i 0 ∧ l.getD i 0 < (l.length : Int)) := fun h => hr (inR_iff.2 h)
      rw [if_neg hr, if_neg (by simp only [Bool.and_eq_true, decide_eq_true_eq]; omega)]; rfl
theorem pm_iff (n : Nat) : ∀ (vs : List Int) (b : Nat → Bool), pm n vs b = true ↔ (∀ v ∈ vs, inR n v = true ∧ b v.toNat = false) ∧ vs.Nodup := by
  intro vs
  induction vs with
  | nil => intro b; simp [pm]
  | cons v vs ih =>
    intro b
    rw [pm_cons]
    by_cases hr : inR n v = true
    · rw [if_pos hr]
      by_cases hb : b v.toNat = true
      · rw [if_pos hb]
        constructor
        · intro h; cases h
        · intro h; have := (h.1 v (by simp)).2; rw [hb] at this; cases this
      · rw [if_neg hb, ih]
        have hb' : b v.toNat = false := by simpa using hb
        have hr' := inR_iff.1 hr
        constructor
        · rintro ⟨h1, h2⟩
          refine ⟨fun x hx => ?_, List.nodup_cons.2 ⟨fun hv => ?_, h2⟩⟩
          · rcases List.mem_cons.1 hx with rfl | hx
            · exact ⟨hr, hb'⟩
            · have := h1 x hx
              refine ⟨this.1, ?_⟩
              have h3 := this.2
              rw [upd_at] at h3
              by_cases e : x.toNat = v.toNat
              · rw [if_pos e] at h3; cases h3
              · rwa [if_neg e] at h3
          · have := (h1 v hv).2
            rw [upd_at, if_pos rfl] at this; cases this
        · rintro ⟨h1, h2⟩
          rw [List.nodup_cons] at h2
          refine ⟨fun x hx => ?_, h2.2⟩
          have := h1 x (by simp [hx])
          refine ⟨this.1, ?_⟩
          rw [upd_at, if_neg ?_]
          · exact this.2
          · intro e
            have hx' := inR_iff.1 this.1
            have : x = v := by omega
            subst this
            exact h2.1 hx
    · rw [if_neg hr]
      constructor
      · intro h; cases h
      · intro h; exact absurd (h.1 v (by simp)).1 hr
/-! ### the walk along a cycle -/
def unseen : Nat → (Nat → Bool) → Nat
  | 0, _ => 0
  | n + 1, b => unseen n b + (if b n = true then 0 else 1)
theorem unseen_ge (n x : Nat) (b : Nat → Bool) (h : n ≤ x) : unseen n (upd b x) = unseen n b := by
  induction n with
  | zero => rfl
  | succ n ih => simp only [unseen]; rw [ih (by omega), show upd b x n = b n from if_neg (by omega)]
theorem unseen_upd (n x : Nat) (b : Nat → Bool) (h : x < n) (hb : ¬ b x = true) : unseen n (upd b x) + 1 = unseen n b := by
  induction n with
  | zero => omega
  | succ n ih =>
    simp only [unseen]
    by_cases e : x = n
    · subst e; rw [unseen_ge x x b (by omega), upd_at, if_pos rfl, if_pos rfl, if_neg hb]
    · have := ih (by omega)
      rw [show upd b x n = b n from if_neg (by omega)]; omega
theorem unseen_le (n : Nat) (b : Nat → Bool) : unseen n b ≤ n := by
  induction n with
  | zero => exact Nat.le_refl _
  | succ n ih => simp only [unseen]; split <;> omega
theorem rdB (l : List Bool) (i : Nat) : rdOf false l (i : Int) = l.getD i false := by unfold rdOf; rw [Int.toNat_natCast]
theorem walk_is (l : List Int) (h8 : l.length ≤ 8) (hf : ∀ j, j < l.length → inR l.length (l.getD j 0) = true) : ∀ (m : Nat) (b : Nat → Bool) (s : List Bool) (x c : Nat), unseen l.length b ≤ m → x < l.length → s.length = l.length → (∀ j, j < l.length → s.getD j false = b j) → c + m ≤ 100 →
    ∃ (c' : Nat) (b' : Nat → Bool) (s' : List Bool) (t : Nat), c' ≤ c + m ∧ (¬ b x = true → c < c') ∧ c ≤ c' ∧ s'.length = l.length ∧ (∀ j, j < l.length → s'.getD j false = b' j) ∧
      (∀ (k : Nat) (out : List Int) (i : Int), spec_l04Cycles.l1 (k + t) l out i c x (b 0) (b 1) (b 2) (b 3) (b 4) (b 5) (b 6) (b 7) = spec_l04Cycles.j2 k l out i c' (b' 0) (b' 1) (b' 2) (b' 3) (b' 4) (b' 5) (b' 6) (b' 7)) ∧
      (∀ (k : Nat) (out : List Int) (x3 x6 x7 x12 x13 x25 x28 x29 x31 x32 : Int), impl_cycleType.l1 (k + t) l x3 s out x6 x7 c x x12 x13 x25 x28 x29 x31 x32 =
        (if (c' : Int) > 0 then (if out.length < 17592186044416 then impl_cycleType.l0 k l x3 s' (out ++ [(c' : Int)]) (wrap64 (x6 + (c' : Int))) x12 x13 x25 x28 (wrap64 (x29 + 1)) else none) else impl_cycleType.l0 k l x3 s' out (wrap64 (x6 + (c' : Int))) x12 x13 x25 x28 (wrap64 (x29 + 1)))) := by
  intro m
  induction m with
  | zero =>
    intro b s x c hu hx hs ha hc
    have hb : b x = true := by
      cases hh : b x with
      | true => rfl
      | false => have := unseen_upd l.length x b hx (by simp [hh]); omega
    refine ⟨c, b, s, 1, by omega, fun h => absurd hb h, Nat.le_refl _, hs, ha, fun k out i => ?_, fun k out x3 x6 x7 x12 x13 x25 x28 x29 x31 x32 => ?_⟩
    · simp only [spec_l04Cycles.l1]
      refine (chain8 (x : Int) x rfl (by omega) (fun j => if b j = true then spec_l04Cycles.j2 k l out i c (b 0) (b 1) (b 2) (b 3) (b 4) (b 5) (b 6) (b 7) else (if (j : Int) < (l.length : Int) then spec_l04Cycles.l1 k l out i (wrap64 ((c : Int) + 1)) (rd l (j : Int)) (upd b j 0) (upd b j 1) (upd b j 2) (upd b j 3) (upd b j 4) (upd b j 5) (upd b j 6) (upd b j 7) else none)) none).trans ?_
      show (if b x = true then _ else _) = _
      rw [if_pos hb]
    · simp only [impl_cycleType.l1]
      rw [if_pos (by omega), if_pos (by omega), rdB, ha x hx, if_pos hb]
  | succ m ih =>
    intro b s x c hu hx hs ha hc
    by_cases hb : b x = true
    · refine ⟨c, b, s, 1, by omega, fun h => absurd hb h, Nat.le_refl _, hs, ha, fun k out i => ?_, fun k out x3 x6 x7 x12 x13 x25 x28 x29 x31 x32 => ?_⟩
      · simp only [spec_l04Cycles.l1]
        refine (chain8 (x : Int) x rfl (by omega) (fun j => if b j = true then spec_l04Cycles.j2 k l out i c (b 0) (b 1) (b 2) (b 3) (b 4) (b 5) (b 6) (b 7) else (if (j : Int) < (l.length : Int) then spec_l04Cycles.l1 k l out i (wrap64 ((c : Int) + 1)) (rd l (j : Int)) (upd b j 0) (upd b j 1) (upd b j 2) (upd b j 3) (upd b j 4) (upd b j 5) (upd b j 6) (upd b j 7) else none)) none).trans ?_
        show (if b x = true then _ else _) = _
        rw [if_pos hb]
      · simp only [impl_cycleType.l1]
        rw [if_pos (by omega), if_pos (by omega), rdB, ha x hx, if_pos hb]
    · have hr := inR_iff.1 (hf x hx)
      obtain ⟨y, hy⟩ : ∃ y : Nat, l.getD x 0 = (y : Int) := ⟨(l.getD x 0).toNat, by omega⟩
      have hu' := unseen_upd l.length x b hx hb
      obtain ⟨c', b', s', t, g1, g2, g3, g4, g5, g6, g7⟩ := ih (upd b x) (s.set x true) y (c + 1) (by omega) (by omega) (by rw [List.length_set]; exact hs) (fun j hj => by
        rw [upd_at, List.getD_eq_getElem?_getD, List.getElem?_set]
        by_cases e : x = j
        · subst e; rw [if_pos rfl, if_pos rfl, if_pos (by omega)]; rfl
        · rw [if_neg e, if_neg (Ne.symm e), ← List.getD_eq_getElem?_getD]; exact ha j hj) (by omega)
      refine ⟨c', b', s', t + 1, by omega, fun _ => by omega, by omega, g4, g5, fun k out i => ?_, fun k out x3 x6 x7 x12 x13 x25 x28 x29 x31 x32 => ?_⟩
      · rw [show k + (t + 1) = (k + t) + 1 from rfl]
        simp only [spec_l04Cycles.l1]
        refine (chain8 (x : Int) x rfl (by omega) (fun j => if b j = true then spec_l04Cycles.j2 (k + t) l out i c (b 0) (b 1) (b 2) (b 3) (b 4) (b 5) (b 6) (b 7) else (if (j : Int) < (l.length : Int) then spec_l04Cycles.l1 (k + t) l out i (wrap64 ((c : Int) + 1)) (rd l (j : Int)) (upd b j 0) (upd b j 1) (upd b j 2) (upd b j 3) (upd b j 4) (upd b j 5) (upd b j 6) (upd b j 7) else none)) none).trans ?_
        show (if b x = true then _ else _) = _
        rw [if_neg hb, if_pos (by omega), rdI, hy, wrap_suc c (by omega)]
        exact g6 k out i
      · rw [show k + (t + 1) = (k + t) + 1 from rfl]
        simp only [impl_cycleType.l1]
        rw [if_pos (by omega), if_pos (by omega), rdB, ha x hx, if_neg hb, if_pos (by omega), rdI, hy, wrap_suc c (by omega), Int.toNat_natCast]
        exact g7 k out x3 x6 x7 x12 x13 x25 x28 x29 x31 x32
/-! ### the reference's insertion -/
theorem own4_is (l : List Int) (h : l.length ≤ 1000000000) : spec_l01Own.f l = some l := by
  unfold spec_l01Own.f
  rw [bnd, if_pos (by rw [List.length_nil]; omega), List.nil_append]
theorem ins_fin (out : List Int) (c : Int) (a : Nat) (hp : out.Pairwise (fun x y => y ≤ x)) (ha : a ≤ out.length) (h1 : ∀ j, a ≤ j → j < out.length → out.getD j 0 < c) (h2 : ∀ j, j < a → c ≤ out.getD j 0) :
    (out.take a ++ ([c] ++ out.drop a)).Pairwise (fun x y => y ≤ x) ∧ (out.take a ++ ([c] ++ out.drop a)).Perm (c :: out) := by
  refine ⟨?_, ?_⟩
  · rw [List.singleton_append, List.pairwise_append, List.pairwise_cons]
    refine ⟨hp.sublist (List.take_sublist _ _), ⟨fun x hx => ?_, hp.sublist (List.drop_sublist _ _)⟩, fun x hx y hy => ?_⟩
    · obtain ⟨j, hj, rfl⟩ := List.getElem_of_mem hx
      rw [List.length_drop] at hj
      rw [List.getElem_drop]
      have := h1 (a + j) (by omega) (by omega)
      rw [List.getD_eq_getElem?_getD, List.getElem?_eq_getElem (by omega), Option.getD_some] at this
      omega
    · obtain ⟨j, hj, rfl⟩ := List.getElem_of_mem hx
      rw [List.length_take] at hj
      rw [List.getElem_take]
      have hcj := h2 j (by omega)
      rw [List.getD_eq_getElem?_getD, List.getElem?_eq_getElem (by omega), Option.getD_some] at hcj
      rcases List.mem_cons.1 hy with rfl | hy
      · exact hcj
      · obtain ⟨q, hq, rfl⟩ := List.getElem_of_mem hy
        rw [List.length_drop] at hq
        rw [List.getElem_drop]
        have := h1 (a + q) (by omega) (by omega)
        rw [List.getD_eq_getElem?_getD, List.getElem?_eq_getElem (by omega), Option.getD_some] at this
        omega
  · rw [List.singleton_append]
    refine List.perm_middle.trans ?_
    rw [List.take_append_drop]
theorem ins_is (l out : List Int) (i c : Nat) (hc : 0 < c) (hcc : c ≤ 1000) (b : Nat → Bool) (hp : out.Pairwise (fun x y => y ≤ x)) (hol : out.length ≤ 1000) : ∀ a : Nat, a ≤ out.length → (∀ j, a ≤ j → j < out.length → out.getD j 0 < (c : Int)) →
    ∃ (out' : List Int) (t : Nat), out'.Pairwise (fun x y => y ≤ x) ∧ out'.Perm ((c : Int) :: out) ∧ ∀ k, spec_l04Cycles.l2 (k + t) l out i c a (b 0) (b 1) (b 2) (b 3) (b 4) (b 5) (b 6) (b 7) = spec_l04Cycles.l0 k l out' (wrap64 ((i : Int) + 1)) (b 0) (b 1) (b 2) (b 3) (b 4) (b 5) (b 6) (b 7) := by
  intro a
  induction a with
  | zero =>
    intro ha h1
    obtain ⟨f1, f2⟩ := ins_fin out c 0 hp (by omega) h1 (fun j hj => by omega)
    refine ⟨_, 1, f1, f2, fun k => ?_⟩
    simp only [spec_l04Cycles.l2]
    rw [if_neg (by omega), if_pos (by omega), bnd, if_pos (by omega), if_pos (by omega), bnd, show ((0 : Nat) : Int).toNat = 0 from rfl, if_pos (by simp only [List.length_cons, List.length_nil, List.length_drop]; omega), bnd, own4_is _ (by rw [List.length_take]; omega), bnd, if_pos (by simp only [List.length_append, List.length_cons, List.length_nil, List.length_drop, List.length_take]; omega)]
  | succ a ih =>
    intro ha h1
    have e1 : wrap64 (((a + 1 : Nat) : Int) - 1) = (a : Int) := by rw [wrap_in (by omega) (by omega)]; omega
    by_cases hlt : out.getD a 0 < (c : Int)
    · obtain ⟨out', t, f1, f2, f3⟩ := ih (by omega) (fun j hj hj2 => by
        by_cases e : j = a
        · subst e; exact hlt
        · exact h1 j (by omega) hj2)
      refine ⟨out', t + 1, f1, f2, fun k => ?_⟩
      rw [show k + (t + 1) = (k + t) + 1 from rfl]
      simp only [spec_l04Cycles.l2]
      rw [if_pos (by omega), e1, if_pos (by omega), if_pos (by omega), rdI, if_pos hlt]
      exact f3 k
    · have hmono : ∀ j, j < a + 1 → (c : Int) ≤ out.getD j 0 := by
        intro j hj
        by_cases e : j = a
        · subst e; omega
        · have hpw := List.pairwise_iff_getElem.1 hp j a (by omega) (by omega) (by omega)
          rw [List.getD_eq_getElem?_getD, List.getElem?_eq_getElem (by omega), Option.getD_some] at hlt ⊢
          omega
      obtain ⟨f1, f2⟩ := ins_fin out c (a + 1) hp ha h1 hmono
      refine ⟨_, 1, f1, f2, fun k => ?_⟩
      simp only [spec_l04Cycles.l2]
      rw [if_pos (by omega), e1, if_pos (by omega), if_pos (by omega), rdI, if_neg hlt, if_pos (by omega), bnd, if_pos (by omega), if_pos (by omega), bnd, Int.toNat_natCast, if_pos (by simp only [List.length_cons, List.length_nil, List.length_drop]; omega), bnd, own4_is _ (by rw [List.length_take]; omega), bnd, if_pos (by simp only [List.length_append, List.length_cons, List.length_nil, List.length_drop, List.length_take]; omega)]
theorem ins0_is (l out : List Int) (i : Nat) (b : Nat → Bool) (hpos : ∀ x ∈ out, 1 ≤ x) (hol : out.length ≤ 1000) : ∀ k, spec_l04Cycles.l2 (k + 1) l out i ((0 : Nat) : Int) out.length (b 0) (b 1) (b 2) (b 3) (b 4) (b 5) (b 6) (b 7) = spec_l04Cycles.l0 k l out (wrap64 ((i : Int) + 1)) (b 0) (b 1) (b 2) (b 3) (b 4) (b 5) (b 6) (b 7) := by
  intro k
  simp only [spec_l04Cycles.l2]
  by_cases h0 : out.length = 0
  · rw [if_neg (by omega), if_neg (by omega)]
  · have e1 : wrap64 ((out.length : Int) - 1) = ((out.length - 1 : Nat) : Int) := by rw [wrap_in (by omega) (by omega)]; omega
    have hx : 1 ≤ out.getD (out.length - 1) 0 := by
      rw [List.getD_eq_getElem?_getD, List.getElem?_eq_getElem (by omega), Option.getD_some]
      exact hpos _ (List.getElem_mem _)
    rw [if_pos (by omega), e1, if_pos (by omega), if_pos (by omega), rdI, if_neg (by omega), if_neg (by omega)]
open Go.Proofs.YtpegpdcdcfcgdaaX
/-! ### both lists of lengths -/
def tailI (l ri : List Int) : Option (List Int) := (slices_Clone_int64_int64.f l).bind fun t195 => ((slices_Sort.f t195).bind fun t198 => ((slices_Compact.f t198).bind fun t199 => (if (t199.length : Int) = (l.length : Int) then ((slices_Sort.f ri).bind fun t202 => ((slices_Reverse.f t202).bind fun t203 => (some t203))) else (some ([] : List Int)))))
theorem cyc_is (l : List Int) (h8 : l.length ≤ 8) (hf : ∀ j, j < l.length → inR l.length (l.getD j 0) = true) : ∀ (m i : Nat) (b : Nat → Bool) (s : List Bool) (oS oI : List Int), i + m = l.length → s.length = l.length → (∀ j, j < l.length → s.getD j false = b j) → oS.Pairwise (fun x y => y ≤ x) → oS.Perm oI → (∀ x ∈ oS, 1 ≤ x) → oS.length ≤ i →
    ∃ (r ri : List Int) (tS tI : Nat), r.Pairwise (fun x y => y ≤ x) ∧ r.Perm ri ∧ r.length ≤ 8 ∧ (oI ≠ [] ∨ (0 < m ∧ ¬ b i = true) → ri ≠ []) ∧
      (∀ k, spec_l04Cycles.l0 (k + tS) l oS i (b 0) (b 1) (b 2) (b 3) (b 4) (b 5) (b 6) (b 7) = some r) ∧
      (∀ (k : Nat) (x3 x6 x12 x13 x25 : Int), impl_cycleType.l0 (k + tI) l x3 s oI x6 x12 x13 x25 l.length i = tailI l ri) := by
  intro m
  induction m with
  | zero =>
    intro i b s oS oI h1 hs ha hp hperm hpos hlen
    refine ⟨oS, oI, 1, 1, hp, hperm, by omega, fun h => h.elim id (fun h2 => by omega), fun k => ?_, fun k x3 x6 x12 x13 x25 => ?_⟩
    · simp only [spec_l04Cycles.l0]; rw [if_neg (by omega)]
    · simp only [impl_cycleType.l0]; rw [if_neg (by omega)]; rfl
  | succ m ih =>
    intro i b s oS oI h1 hs ha hp hperm hpos hlen
    have hpl := hperm.length_eq
    obtain ⟨c, b', s', t, g1, g2, g3, g4, g5, g6, g7⟩ := walk_is l h8 hf 8 b s i 0 (Nat.le_trans (unseen_le _ _) h8) (by omega) hs ha (by omega)
    by_cases hc : 0 < c
    · obtain ⟨oS', t2, f1, f2, f3⟩ := ins_is l oS i c hc (by omega) b' hp (by omega) oS.length (Nat.le_refl _) (fun j hj hj2 => by omega)
      have hpl' := f2.length_eq
      rw [List.length_cons] at hpl'
      obtain ⟨r, ri, tS, tI, q1, q2, q3, q4, q5, q6⟩ := ih (i + 1) b' s' oS' (oI ++ [(c : Int)]) (by omega) g4 g5 f1 (f2.trans ((List.Perm.cons _ hperm).trans (List.perm_append_singleton _ _).symm)) (fun x hx => by
        rcases List.mem_cons.1 (f2.subset hx) with rfl | hx
        · omega
        · exact hpos x hx) (by omega)
      refine ⟨r, ri, tS + t2 + 1 + t + 1, tI + t + 1, q1, q2, q3, fun _ => q4 (.inl (by simp)), fun k => ?_, fun k x3 x6 x12 x13 x25 => ?_⟩
      · rw [show k + (tS + t2 + 1 + t + 1) = (((k + tS) + t2 + 1) + t) + 1 from by omega]
        simp only [spec_l04Cycles.l0]
        rw [if_pos (by omega)]
        have := g6 ((k + tS) + t2 + 1) oS i
        rw [show ((0 : Nat) : Int) = 0 from rfl] at this
        rw [this]
        simp only [spec_l04Cycles.j2]
        rw [f3 (k + tS), wrap_suc i (by omega)]
        exact q5 k
      · rw [show k + (tI + t + 1) = ((k + tI) + t) + 1 from by omega]
        simp only [impl_cycleType.l0]
        rw [if_pos (by omega)]
        have := g7 (k + tI) oI x3 x6 i x12 x13 x25 l.length i i i
        rw [show ((0 : Nat) : Int) = 0 from rfl] at this
        rw [this, if_pos (by omega), if_pos (by omega), wrap_suc i (by omega)]
        exact q6 k _ _ _ _ _
    · have hc0 : c = 0 := by omega
      subst hc0
      obtain ⟨r, ri, tS, tI, q1, q2, q3, q4, q5, q6⟩ := ih (i + 1) b' s' oS oI (by omega) g4 g5 hp hperm hpos (by omega)
      refine ⟨r, ri, tS + 1 + 1 + t + 1, tI + t + 1, q1, q2, q3, fun h => q4 (h.elim .inl (fun h2 => absurd (g2 h2.2) (by omega))), fun k => ?_, fun k x3 x6 x12 x13 x25 => ?_⟩
      · rw [show k + (tS + 1 + 1 + t + 1) = (((k + tS) + 1 + 1) + t) + 1 from by omega]
        simp only [spec_l04Cycles.l0]
        rw [if_pos (by omega)]
        have := g6 ((k + tS) + 1 + 1) oS i
        rw [show ((0 : Nat) : Int) = 0 from rfl] at this
        rw [this]
        simp only [spec_l04Cycles.j2]
        have h0 := ins0_is l oS i b' hpos (by omega) (k + tS)
        rw [show ((0 : Nat) : Int) = 0 from rfl] at h0
        rw [h0, wrap_suc i (by omega)]
        exact q5 k
      · rw [show k + (tI + t + 1) = ((k + tI) + t) + 1 from by omega]
        simp only [impl_cycleType.l0]
        rw [if_pos (by omega)]
        have := g7 (k + tI) oI x3 x6 i x12 x13 x25 l.length i i i
        rw [show ((0 : Nat) : Int) = 0 from rfl] at this
        rw [this, if_neg (by omega), wrap_suc i (by omega)]
        exact q6 k _ _ _ _ _
/-! ### the library's answers -/
theorem sorted_is (l : List Int) : (l.mergeSort fun x y => decide (x ≤ y)).Pairwise (fun x y => x ≤ y) := by
  have h := List.pairwise_mergeSort (le := fun (x y : Int) => decide (x ≤ y)) (fun a b c h1 h2 => by simp only [decide_eq_true_eq] at *; omega) (fun a b => by simp only [Bool.or_eq_true, decide_eq_true_eq]; omega) l
  exact h.imp (fun h => by simpa using h)
theorem compact_iff (s : List Int) (hs : s.Pairwise (fun x y => x ≤ y)) : (Go.Lib.compactUpTo s.toArray s.length).length = s.length ↔ s.Nodup := by
  unfold Go.Lib.compactUpTo
  have hlen : ((List.range s.length).filter (Go.Lib.keeps s.toArray)).length = s.length ↔ ∀ j, j < s.length → Go.Lib.keeps s.toArray j = true := by
    have h := List.length_filter_eq_length_iff (l := List.range s.length) (p := Go.Lib.keeps s.toArray)
    rw [List.length_range] at h
    rw [h]
    exact ⟨fun h j hj => h j (List.mem_range.2 hj), fun h j hj => h j (List.mem_range.1 hj)⟩
  rw [List.length_map, hlen]
  have hk : ∀ j (hj : j < s.length) (h0 : 0 < j), Go.Lib.keeps s.toArray j = true ↔ s[j] ≠ s[j - 1] := by
    intro j hj h0
    unfold Go.Lib.keeps
    rw [getElem!_pos s.toArray j (by simpa using hj), getElem!_pos s.toArray (j - 1) (by simp; omega)]
    simp only [List.getElem_toArray, decide_eq_true_eq]
    exact ⟨fun h => h.elim (fun h2 => by omega) id, .inr⟩
  rw [List.pairwise_iff_getElem] at hs
  constructor
  · intro h
    rw [List.nodup_iff_pairwise_ne] 
    rw [List.pairwise_iff_getElem]
    intro i j hi hj hij
    have h1 := (hk j hj (by omega)).1 (h j hj)
    have h2 := hs (j - 1) j (by omega) hj (by omega)
    by_cases e : i = j - 1
    · subst e; exact fun h => h1 h.symm
    · have h3 := hs i (j - 1) hi (by omega) (by omega)
      intro he; omega
  · intro h j hj
    by_cases h0 : j = 0
    · subst h0; unfold Go.Lib.keeps; simp
    · refine (hk j hj (by omega)).2 ?_
      rw [List.nodup_iff_pairwise_ne] at h
      rw [List.pairwise_iff_getElem] at h
      exact fun he => h (j - 1) j (by omega) hj (by omega) he.symm
theorem tail_is (l ri : List Int) (h1 : 1 ≤ l.length) (h8 : l.length ≤ 8) (hr1 : ri ≠ []) (hr8 : ri.length ≤ 8) : tailI l ri = some (if l.Nodup then (ri.mergeSort fun x y => decide (x ≤ y)).reverse else []) := by
  have hm : (l.mergeSort fun x y => decide (x ≤ y)).length = l.length := List.length_mergeSort _
  have hm2 : (ri.mergeSort fun x y => decide (x ≤ y)).length = ri.length := List.length_mergeSort _
  have hr0 : 0 < ri.length := List.length_pos_iff.2 hr1
  have hnd : (l.mergeSort fun x y => decide (x ≤ y)).Nodup ↔ l.Nodup := (List.mergeSort_perm l _).nodup_iff
  have hc := compact_iff _ (sorted_is l)
  unfold tailI slices_Clone_int64_int64.f
  rw [if_pos (by omega), bnd]
  unfold slices_Sort.f slices_Compact.f slices_Reverse.f
  rw [if_pos (by omega), if_pos (by omega), bnd, if_pos (by omega), if_pos (by omega), bnd]
  by_cases hn : l.Nodup
  · have := hc.2 (hnd.2 hn)
    rw [if_pos (by omega), if_pos hr0, if_pos (by omega), bnd, if_pos (by omega), if_pos (by omega), bnd, if_pos hn]
  · have : ¬ _ := fun h => hn (hnd.1 (hc.1 h))
    rw [if_neg (by omega), if_neg hn]
theorem field_is (n : Nat) (l : List Int) (hl : l.length ≤ 1000) : ∀ (m i k : Nat), i + m = l.length → m < k → impl_field.l0 k n l l.length i = some ((l.drop i).all (inR n)) := by
  intro m
  induction m with
  | zero =>
    intro i k h1 hk
    obtain ⟨k, rfl⟩ := step_k hk
    simp only [impl_field.l0]; rw [if_neg (by omega), List.drop_eq_nil_of_le (by omega)]; rfl
  | succ m ih =>
    intro i k h1 hk
    obtain ⟨k, rfl⟩ := step_k hk
    simp only [impl_field.l0]
    rw [if_pos (by omega), if_pos (by omega), if_pos (by omega), rdI, drop_cons l i (by omega), List.all_cons, wrap_suc i (by omega)]
    by_cases h0 : l.getD i 0 < 0
    · rw [if_pos h0, show inR n (l.getD i 0) = false from by unfold inR; rw [decide_eq_false (by omega)]; rfl, Bool.false_and]
    · by_cases h2 : l.getD i 0 ≥ (n : Int)
      · rw [if_neg h0, if_pos h2, show inR n (l.getD i 0) = false from by unfold inR; rw [decide_eq_false (by omega : ¬ l.getD i 0 < (n : Int)), Bool.and_false], Bool.false_and]
      · rw [if_neg h0, if_neg h2, ih (i + 1) k (by omega) (by omega), show inR n (l.getD i 0) = true from inR_iff.2 ⟨by omega, by omega⟩, Bool.true_and]
theorem same (l : List Int) : ∃ (r : List Int) (c : Int), r.length ≤ 8 ∧ ∃ K, ∀ k, K < k → spec_CycleType.f k l = some (r, c) ∧ impl_CycleType.f k l = some (r, c) := by
  by_cases hn : 1 ≤ l.length ∧ l.length ≤ 8
  · obtain ⟨h1, h8⟩ := hn
    have hperm := fun k => perm_is l h8 l.length 0 k (fun _ => false) (by omega)
    have hpm := pm_iff l.length l (fun _ => false)
    have hfield := field_is l.length l (by omega) l.length 0
    rw [List.drop_zero, show ((0 : Nat) : Int) = 0 from rfl] at hfield
    simp only [List.drop_zero, show ((0 : Nat) : Int) = 0 from rfl] at hperm
    by_cases hall : l.all (inR l.length) = true
    · have hf : ∀ j, j < l.length → inR l.length (l.getD j 0) = true := fun j hj => by
        rw [List.getD_eq_getElem?_getD, List.getElem?_eq_getElem hj]
        exact List.all_eq_true.1 hall _ (List.getElem_mem hj)
      obtain ⟨r, ri, tS, tI, q1, q2, q3, q4, q5, q6⟩ := cyc_is l h8 hf l.length 0 (fun _ => false) (List.replicate l.length false) [] [] (by omega) (by simp) (fun j hj => by rw [List.getD_eq_getElem?_getD, List.getElem?_replicate, if_pos hj]; rfl) List.Pairwise.nil (List.Perm.refl _) (fun x hx => by cases hx) (Nat.le_refl _)
      have hri : ri ≠ [] := q4 (.inr ⟨by omega, by simp⟩)
      have hrl := q2.length_eq
      have ht := tail_is l ri h1 h8 hri (by omega)
      have himpl : ∀ k, impl_cycleType.f (k + tI + l.length + 3) l = tailI l ri := by
        intro k
        unfold impl_cycleType.f impl_field.f
        rw [if_neg (by omega), if_neg (by omega), hfield _ (by omega) (by omega), bnd, hall]
        rw [show k + tI + l.length + 3 = ((k + l.length + 2) + tI) + 1 from by omega]
        simp only [impl_cycleType.j0]
        rw [if_neg (by simp), if_pos (by omega), if_pos (by omega), Int.toNat_natCast]
        have := q6 (k + l.length + 2) l.length 0 l.length l.length l.length
        rw [show ((0 : Nat) : Int) = 0 from rfl] at this
        exact this
      by_cases hnd : l.Nodup
      · have hpmt : pm l.length l (fun _ => false) = true := hpm.2 ⟨fun v hv => ⟨List.all_eq_true.1 hall v hv, rfl⟩, hnd⟩
        have heq : (ri.mergeSort fun x y => decide (x ≤ y)).reverse = r := by
          refine List.Perm.eq_of_pairwise (le := fun (x y : Int) => y ≤ x) (fun a b _ _ h1 h2 => by omega) ?_ q1 ((List.reverse_perm _).trans ((List.mergeSort_perm ri _).trans q2.symm))
          rw [List.pairwise_reverse]
          exact sorted_is ri
        rw [if_pos hnd, heq] at ht
        refine ⟨r, 0, q3, tS + tI + 3 * l.length + 10, fun k hk => ⟨?_, ?_⟩⟩
        · obtain ⟨k', rfl⟩ : ∃ k', k = k' + (2 * l.length + 2) := ⟨k - (2 * l.length + 2), by omega⟩
          unfold spec_CycleType.f spec_l04Permutation.f spec_l04Cycles.f
          rw [hperm k', bnd, hpmt, if_pos rfl, if_pos (decide_eq_true h1)]
          obtain ⟨k'', hk''⟩ : ∃ k'', k' + (2 * l.length + 2) = k'' + tS := ⟨k' + (2 * l.length + 2) - tS, by omega⟩
          have := q5 k''
          rw [show ((0 : Nat) : Int) = 0 from rfl] at this
          rw [hk'', this, bnd]
        · obtain ⟨k', rfl⟩ : ∃ k', k = k' + tI + l.length + 3 := ⟨k - (tI + l.length + 3), by omega⟩
          unfold impl_CycleType.f
          rw [himpl k', ht, bnd, if_neg (by have := List.length_pos_iff.2 hri; omega)]
      · have hpmf : ¬ pm l.length l (fun _ => false) = true := fun h => hnd (hpm.1 h).2
        rw [if_neg hnd] at ht
        refine ⟨[], 2, by simp, tS + tI + 3 * l.length + 10, fun k hk => ⟨?_, ?_⟩⟩
        · obtain ⟨k', rfl⟩ : ∃ k', k = k' + (2 * l.length + 2) := ⟨k - (2 * l.length + 2), by omega⟩
          unfold spec_CycleType.f spec_l04Permutation.f
          rw [hperm k', bnd, if_neg hpmf, if_neg (by decide)]
        · obtain ⟨k', rfl⟩ : ∃ k', k = k' + tI + l.length + 3 := ⟨k - (tI + l.length + 3), by omega⟩
          unfold impl_CycleType.f
          rw [himpl k', ht, bnd, if_pos (show ((([] : List Int).length : Int) = 0) from rfl)]
    · have hall' : l.all (inR l.length) = false := by simpa using hall
      have hpmf : ¬ pm l.length l (fun _ => false) = true := fun h => hall (List.all_eq_true.2 (fun v hv => ((hpm.1 h).1 v hv).1))
      refine ⟨[], 2, by simp, 3 * l.length + 10, fun k hk => ⟨?_, ?_⟩⟩
      · obtain ⟨k', rfl⟩ : ∃ k', k = k' + (2 * l.length + 2) := ⟨k - (2 * l.length + 2), by omega⟩
        unfold spec_CycleType.f spec_l04Permutation.f
        rw [hperm k', bnd, if_neg hpmf, if_neg (by decide)]
      · unfold impl_CycleType.f impl_cycleType.f impl_field.f
        rw [if_neg (by omega), if_neg (by omega), hfield k (by omega) (by omega), bnd, hall']
        obtain ⟨k, rfl⟩ := step_k (by omega : 0 < k)
        simp only [impl_cycleType.j0, Bool.not_false, if_true]
        rw [bnd, if_pos (show ((([] : List Int).length : Int) = 0) from rfl)]
  · refine ⟨[], 2, by simp, 10, fun k hk => ⟨?_, ?_⟩⟩
    · obtain ⟨k, rfl⟩ : ∃ k', k = k' + 2 := ⟨k - 2, by omega⟩
      unfold spec_CycleType.f spec_l04Permutation.f
      have hj : spec_l04Permutation.l0 (k + 2) l 0 false false false false false false false false = some false := by
        rw [show k + 2 = (k + 1) + 1 from rfl]
        simp only [spec_l04Permutation.l0]
        by_cases h0 : (0 : Int) < (l.length : Int)
        · rw [if_pos h0, decide_eq_false (by omega : ¬ (l.length : Int) ≤ 8)]
          simp only [spec_l04Permutation.j1]
          rw [if_neg (by decide), if_pos (by omega), decide_eq_false (by omega : ¬ (l.length : Int) ≤ 8)]
        · rw [if_neg h0]
          simp only [spec_l04Permutation.j1]
          rw [if_neg (by decide), if_neg (by omega)]
      rw [hj, bnd, if_neg (by decide)]
    · obtain ⟨k, rfl⟩ := step_k (by omega : 0 < k)
      unfold impl_CycleType.f impl_cycleType.f
      have hj : impl_cycleType.j0 (k + 1) l l.length l.length l.length true = some [] := by simp only [impl_cycleType.j0, if_true]
      by_cases h1 : (l.length : Int) < 1
      · rw [if_pos h1, hj, bnd, if_pos (show ((([] : List Int).length : Int) = 0) from rfl)]
      · rw [if_neg h1, if_pos (by omega), hj, bnd, if_pos (show ((([] : List Int).length : Int) = 0) from rfl)]
theorem FnExactCycleType : laws_FnExactCycleType.Pure := by
  intro l _ _ _
  by_cases hl : (l.length : Int) > 1048576
  · exact ⟨1, by unfold laws_FnExactCycleType.f; rw [if_pos hl]⟩
  · have hl' : l.length ≤ 1048576 := by omega
    obtain ⟨r, c, hr, K, hK⟩ := same l
    refine ⟨K + l.length + 2000, ?_⟩
    obtain ⟨hs, hi⟩ := hK (K + l.length + 2000) (by omega)
    obtain ⟨_, hi2⟩ := hK (K + l.length + 1998) (by omega)
    unfold laws_FnExactCycleType.f
    rw [if_neg hl, toI_is l _ (by omega) hl', bnd, hs, bnd, bnd, hi, bnd, eqI_is r _ (by omega) (by omega), bnd, if_pos rfl, bne_self_eq_false]
    rw [laws_FnExactCycleType.j0, if_neg (by decide), toI_is l _ (by omega) hl', bnd, eqI_is l _ (by omega) hl', bnd, if_pos rfl, mark_is l _ 1 (by omega) hl' (by omega) (by omega), bnd]
    rw [if_neg (by omega), eqI_is r _ (by omega) (by omega), bnd, if_pos rfl, bne_self_eq_false]
    rw [laws_FnExactCycleType.j1, if_neg (by decide), mark_is r _ 1 (by omega) (by omega) (by omega) (by omega), bnd, held_is r.length _ 1 (by omega) (by omega) (by omega) (by omega), bnd]
    rw [if_neg (by omega), if_pos rfl, toI_is l _ (by omega) hl', bnd, hi2, bnd, eqI_is r _ (by omega) (by omega), bnd, if_pos rfl, bne_self_eq_false]
    rw [laws_FnExactCycleType.j2, if_neg (by decide), held_is r.length _ 1 (by omega) (by omega) (by omega) (by omega), bnd, if_neg (by omega), if_pos rfl]

end Go.Proofs.Ytpegpdcdcfcgdaa.Pure
