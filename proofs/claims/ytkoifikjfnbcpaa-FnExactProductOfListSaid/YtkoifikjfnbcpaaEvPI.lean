/- The reference's terms: nought, the number at an exponent, the order. -/
import Derived.Test.YtkoifikjfnbcpaaEvPH
import Derived.Test.YtkoifikjfnbcpaaEvPB
import Derived.Test.YtkoifikjfnbcpaaEvSp
set_option linter.unusedVariables false
set_option linter.unusedSimpArgs false
namespace Go.Proofs.YtkoifikjfnbcpaaEv
open Go Go.RowKit Go.Proofs

def cf97 : G97 := fun x => some ((x.1, x.2.1, [], ()), ())
theorem k97 : KOne Try.prog 97 ⟨[.v i64, .v i64], [poly], true, false, 0, cf97⟩ := ok97 .nil cf97 fun x y h => by
  obtain ⟨p, v, _⟩ := x
  simp only [cf97] at h
  injection h with h; subst h
  exact ⟨0, rfl⟩

theorem run158 (a b c : Int) (h : okN a b c) : fn158 0 ((a, b, c, ()), ()) = some ((a + b + c : Int), ()) := by
  unfold okN at h
  show some (w6 (w6 (w6 a + w6 b) + w6 c), ()) = _
  rw [w6_i (x := a) (by omega) (by omega), w6_i (x := b) (by omega) (by omega), w6_i (x := c) (by omega) (by omega), w6_i (x := a + b) (by omega) (by omega), w6_i (by omega) (by omega)]
def cf158 : G158 := fun x => if okX x.1 then some (degX x.1, ()) else none
theorem k158 : KOne Try.prog 158 ⟨[.v ex], [i64], false, false, 0, cf158⟩ := ok158 .nil cf158 fun x y h => by
  obtain ⟨e, _⟩ := x
  simp only [cf158] at h
  split at h
  · rename_i hc
    injection h with h; subst h
    exact ⟨0, run158 e.1 e.2.1 e.2.2.1 hc⟩
  · cases h

theorem run147 (a b c a' b' c' : Int) (h : okN a b c) (h' : okN a' b' c') (e1 : cf158 ((a, b, c, ()), ()) = some ((a + b + c : Int), ())) (e2 : cf158 ((a', b', c', ()), ()) = some ((a' + b' + c' : Int), ())) :
    fn147 cf158 0 ((a, b, c, ()), (a', b', c', ()), ()) = some (decide (key3 a b c < key3 a' b' c'), ()) := by
  have hk := cmp3_key h h'
  unfold okN at h h'
  simp only [fn147, e1, e2]
  show (bif !decide (a + b + c = a' + b' + c') then some (decide (a + b + c < a' + b' + c'), ()) else bif !decide (a = a') then some (decide (a' < a), ()) else some (decide (b' < b), ())) = _
  unfold cmp3 at hk
  by_cases h1 : a + b + c = a' + b' + c'
  · have h1' : (a + b + c) - (a' + b' + c') = 0 := by omega
    rw [if_pos h1'] at hk
    by_cases h2 : a = a'
    · rw [if_pos h2] at hk
      have : decide (b' < b) = decide (key3 a b c < key3 a' b' c') := decide_eq_decide.2 ⟨fun q => hk.1 (by omega), fun q => by have := hk.2 q; omega⟩
      rw [decide_eq_true h1, decide_eq_true h2, this]; rfl
    · rw [if_neg h2] at hk
      have : decide (a' < a) = decide (key3 a b c < key3 a' b' c') := decide_eq_decide.2 ⟨fun q => hk.1 (by omega), fun q => by have := hk.2 q; omega⟩
      rw [decide_eq_true h1, decide_eq_false h2, this]; rfl
  · rw [if_neg (by omega)] at hk
    have : decide (a + b + c < a' + b' + c') = decide (key3 a b c < key3 a' b' c') := decide_eq_decide.2 ⟨fun q => hk.1 (by omega), fun q => by have := hk.2 q; omega⟩
    rw [decide_eq_false h1, this]; rfl
def cf147 : G147 := fun x => if okX x.1 ∧ okX x.2.1 then some (decide (keyX x.1 < keyX x.2.1), ()) else none
theorem k147 : KOne Try.prog 147 ⟨[.v ex, .v ex], [.bool], false, false, 0, cf147⟩ := ok147 _ (.cons k158 .nil) cf147 fun x y h => by
  obtain ⟨a, b, _⟩ := x
  simp only [cf147] at h
  split at h
  · rename_i hc
    injection h with h; subst h
    have e1 : cf158 (a, ()) = some (degX a, ()) := if_pos hc.1
    have e2 : cf158 (b, ()) = some (degX b, ()) := if_pos hc.2
    exact ⟨0, run147 a.1 a.2.1 a.2.2.1 b.1 b.2.1 b.2.2.1 hc.1 hc.2 e1 e2⟩
  · cases h

theorem getD_pre {α : Type} {pre r : List α} {t d : α} : (pre ++ t :: r).getD pre.length d = t := by
  rw [List.getD_eq_getElem?_getD, List.getElem?_append_right (Nat.le_refl _)]; simp

theorem run146 {p v : Int} {e : ex.den} : ∀ (r pre : List term.den) (F : Nat), r.length < F → (pre ++ r).length ≤ 1000000 →
    iter (fun s k => st146_2 0 s k (fun s' => match s' with | ((t2_0, t2_1, t2_2, _), (t3, _), (t5, _), _) => (some ((0 : Int), ())))) F ((p, v, pre ++ r, ()), ((e, ()), (((pre.length : Int), ()), ()))) = some (coT r e, ())
  | [], pre, F, hF, hl => by
    obtain ⟨F, rfl⟩ : ∃ f, F = f + 1 := ⟨F - 1, by simp at hF; omega⟩
    rw [List.append_nil] at hl ⊢
    simp only [iter, st146_2]
    simp (disch := omega) only [dln_t, cond_true, ofn, dlt_f, cond_false]
    rfl
  | t :: r, pre, F, hF, hl => by
    obtain ⟨F, rfl⟩ : ∃ f, F = f + 1 := ⟨F - 1, by simp at hF; omega⟩
    have hpl : pre.length < (pre ++ t :: r).length := by simp
    simp only [iter, st146_2]
    simp (disch := omega) only [dln_t, cond_true, ofn, dlt_t, ib_t, tn_cast, getD_pre]
    simp only [coT]
    by_cases q : t.1 = e
    · have : Ty.eqd (.arr 3 (.int .u8)) t.1 e = true := (eqd_key keyT_ex).2 q
      rw [this, if_pos q]; rfl
    · have : Ty.eqd (.arr 3 (.int .u8)) t.1 e = false := Bool.eq_false_iff.2 fun z => q ((eqd_key keyT_ex).1 z)
      rw [this, if_neg q, cond_false]
      have wi : w6 ((pre.length : Int) + 1) = ((pre ++ [t]).length : Int) := by rw [w6_i (by omega) (by omega)]; simp
      rw [wi, show pre ++ t :: r = (pre ++ [t]) ++ r by simp]
      exact run146 r (pre ++ [t]) F (by simp at hF; omega) (by simpa using hl)
def cf146 : G146 := fun x => if (show List term.den from x.1.2.2.1).length ≤ 1000000 then some (coT x.1.2.2.1 x.2.1, ()) else none
theorem k146 : KOne Try.prog 146 ⟨[.v poly, .v ex], [i64], false, false, 0, cf146⟩ := ok146 .nil cf146 fun x y h => by
  obtain ⟨⟨p, v, ts, _⟩, e, _⟩ := x
  simp only [cf146] at h
  split at h
  · rename_i hc
    injection h with h; subst h
    exact ⟨ts.length + 1, run146 (p := p) (v := v) (e := e) ts [] (ts.length + 1) (by omega) (by simpa using hc)⟩
  · cases h

end Go.Proofs.YtkoifikjfnbcpaaEv
