/- Whether raw data are a polynomial: l01Is and IsPoly tell the same. -/
import Derived.Test.YtkoifikjfnbcpaaEvPAa
import Derived.Test.YtkoifikjfnbcpaaEvPP
import Derived.Test.YtkoifikjfnbcpaaEvPYd
import Derived.Test.YtkoifikjfnbcpaaEvFl
set_option linter.unusedVariables false
set_option linter.unusedSimpArgs false
namespace Go.Proofs.YtkoifikjfnbcpaaEv
open Go Go.RowKit Go.Proofs

/-- Whether a monomial has the variables of d, and a degree of at most 12. -/
def expsB (d : Int) (e : ex.den) : Bool := ((decide (2 ≤ d) || decide (x1 e = 0)) && (decide (3 ≤ d) || decide (x2 e = 0))) && decide (degX e ≤ 12)
theorem e143_1 (a b c : Int) (g : G158) : fn143 g 6 ((1 : Int), (a, b, c, ()), ()) = bif !decide (b = 0) then some (false, ()) else (bif !decide (c = 0) then some (false, ()) else (match g ((a, b, c, ()), ()) with | some r8 => (some (decide (r8.1 ≤ (12 : Int)), ())) | none => none)) := by kernel_rfl
theorem e143_2 (a b c : Int) (g : G158) : fn143 g 6 ((2 : Int), (a, b, c, ()), ()) = (bif !decide (c = 0) then some (false, ()) else (match g ((a, b, c, ()), ()) with | some r8 => (some (decide (r8.1 ≤ (12 : Int)), ())) | none => none)) := by kernel_rfl
theorem e143_3 (a b c : Int) (g : G158) : fn143 g 6 ((3 : Int), (a, b, c, ()), ()) = (match g ((a, b, c, ()), ()) with | some r8 => (some (decide (r8.1 ≤ (12 : Int)), ())) | none => none) := by kernel_rfl
theorem g143 {d : Int} {e : ex.den} (hd : 1 ≤ d ∧ d ≤ 3) (he : okX e) : cf143 (d, e, ()) = some (expsB d e, ()) := by
  obtain ⟨a, b, c, u⟩ := e
  have g : cf158 ((a, b, c, ()), ()) = some (degX (a, b, c, ()), ()) := if_pos he
  rcases (show d = 1 ∨ d = 2 ∨ d = 3 by omega) with rfl | rfl | rfl
  · refine (e143_1 a b c cf158).trans ?_
    rw [g]
    by_cases q1 : b = 0
    · by_cases q2 : c = 0
      · simp [expsB, q1, q2]
      · simp [expsB, q1, q2]
    · simp [expsB, q1]
  · refine (e143_2 a b c cf158).trans ?_
    rw [g]
    by_cases q2 : c = 0
    · simp [expsB, q2]
    · simp [expsB, q2]
  · refine (e143_3 a b c cf158).trans ?_
    rw [g]
    simp [expsB]

def inV (p : Int) (t : term.den) : Bool := decide (1 ≤ nT t) && decide (nT t ≤ p - 1)
def ordB (q : Option ex.den) (e : ex.den) : Bool := match q with | none => true | some e' => decide (keyX e' < keyX e)
def vT (p d : Int) : Option ex.den → List term.den → Bool
  | _, [] => true
  | q, t :: r => ((expsB d t.1 && inV p t) && ordB q t.1) && vT p d (some t.1) r
def vP (x : Po) : Bool := (isP x.1 && (decide ((1 : Int) ≤ x.2.1) && decide (x.2.1 ≤ (3 : Int)))) && vT x.1 x.2.1 none (tms x)
/-- What the loops hand on: nothing ahead, or the one ahead. -/
def Ahead (pre : List term.den) (q : Option ex.den) : Prop := (pre = [] ∧ q = none) ∨ ∃ pre' s, pre = pre' ++ [s] ∧ q = some s.1

theorem run119 {p d : Int} (hp : 2 ≤ p ∧ p ≤ 13) (hd : 1 ≤ d ∧ d ≤ 3) {F0 : Nat} : ∀ (r pre : List term.den) (q : Option ex.den) (F : Nat), Ahead pre q → r.length < F → (pre ++ r).length ≤ 2000000 → (∀ t ∈ pre ++ r, okX t.1) →
    iter (fun s k => st119_4 cf82 cf73 cf143 cf147 F0 s k (fun s' => match s' with | ((t1_0, t1_1, t1_2, _), (t3, _), _) => (some (true, ())))) F ((p, d, pre ++ r, ()), (((pre.length : Int), ()), ())) = some (vT p d q r, ())
  | [], pre, q, F, hq, hF, hl, ho => by
    obtain ⟨F, rfl⟩ : ∃ f, F = f + 1 := ⟨F - 1, by simp at hF; omega⟩
    rw [List.append_nil] at hl ⊢
    simp only [iter, st119_4]
    simp (disch := omega) only [dln_t, cond_true, ofn, dlt_f, cond_false]
    rfl
  | t :: r, pre, q, F, hq, hF, hl, ho => by
    obtain ⟨F, rfl⟩ : ∃ f, F = f + 1 := ⟨F - 1, by simp at hF; omega⟩
    have l1 : pre.length < (pre ++ t :: r).length := by simp
    have g1 : ∀ dd, (pre ++ t :: r).getD pre.length dd = t := fun dd => by rw [List.getD_eq_getElem?_getD, List.getElem?_append_right (Nat.le_refl _)]; simp
    have ot := ho t (by simp)
    have g := g143 (d := d) hd ot
    have g2 : cf73 (nT t, (1 : Int), p - 1, ()) = some (inV p t, ()) := rfl
    have hw : w6 (p - 1) = p - 1 := w6_id (by omega) (by omega)
    have ih := run119 hp hd (F0 := F0) r (pre ++ [t]) (some t.1) F (.inr ⟨pre, t, rfl, rfl⟩) (by simp at hF; omega) (by simpa using hl) (by simpa using ho)
    simp only [List.append_assoc, List.singleton_append, List.length_append, List.length_singleton] at ih
    simp only [iter, st119_4]
    simp (disch := omega) only [dln_t, cond_true, ofn, dlt_t, ib_t, tn_cast, w6_id (x := (pre.length : Int) + 1), hw]
    show (match cf143 (d, ((pre ++ t :: r).getD pre.length (Ty.dflt term)).1, ()) with | some r17 => _ | none => none) = _
    rw [g1, g]
    simp only [vT]
    cases h1 : expsB d t.1 with
    | false => rfl
    | true =>
      simp only [Bool.not_true, cond_false, Bool.true_and]
      show (bif !(inV p t) then _ else _) = _
      cases h2 : inV p t with
      | false => rfl
      | true =>
        simp only [Bool.not_true, cond_false, Bool.true_and]
        rcases hq with ⟨rfl, rfl⟩ | ⟨pre', s, rfl, rfl⟩
        · show (bif decide ((0 : Int) < ((([] : List term.den).length : Nat) : Int)) then _ else _) = _
          rw [dlt_f (by simp)]
          simp only [cond_false, ordB, Bool.true_and]
          exact ih
        · have hlen : (pre' ++ [s]).length = pre'.length + 1 := by simp
          have g0 : ∀ dd, (pre' ++ [s] ++ t :: r).getD pre'.length dd = s := fun dd => by rw [List.append_assoc, List.getD_eq_getElem?_getD, List.getElem?_append_right (Nat.le_refl _)]; simp
          have os := ho s (by simp)
          have g3 : cf147 (s.1, t.1, ()) = some (decide (keyX s.1 < keyX t.1), ()) := if_pos ⟨os, ot⟩
          have hwm : w6 (((pre' ++ [s]).length : Int) - 1) = (pre'.length : Int) := by rw [hlen]; exact (w6_id (by omega) (by simp at hl; omega)).trans (by omega)
          rw [dlt_t (by rw [hlen]; omega), cond_true, hwm, ib_t (by omega) (by simp at hl ⊢; omega), cond_true]
          show (match cf147 (((pre' ++ [s] ++ t :: r).getD pre'.length (Ty.dflt term)).1, t.1, ()) with | some r19 => _ | none => none) = _
          rw [g0, g3]
          simp only [ordB]
          cases h3 : decide (keyX s.1 < keyX t.1) with
          | false => rfl
          | true =>
            simp only [Bool.not_true, cond_false, cond_true, Bool.true_and]
            exact ih
open Classical in
noncomputable def cf119 : G119 := fun x => if okTs2 (tms x.1) then some (vP x.1, ()) else none
where okTs2 (l : List term.den) : Prop := l.length ≤ 2000000 ∧ ∀ t ∈ l, okX t.1
theorem k119 : KOne Try.prog 119 ⟨[.v poly], [.bool], false, false, 0, cf119⟩ := ok119 _ _ _ _ (.cons k82 (.cons k73 (.cons k143 (.cons k147 .nil)))) cf119 fun x y h => by
  obtain ⟨⟨p, d, l, u⟩, _⟩ := x
  change List term.den at l
  change Int at p
  change Int at d
  simp only [cf119] at h
  split at h
  · rename_i hc
    injection h with h; subst h
    obtain ⟨h1, h2⟩ := hc
    have h1 : l.length ≤ 2000000 := h1
    refine ⟨l.length + 1, ?_⟩
    simp only [fn119]
    rw [show cf82 (p, ()) = some (isP p, ()) from rfl, show cf73 (d, (1 : Int), (3 : Int), ()) = some (decide (1 ≤ d) && decide (d ≤ 3), ()) from rfl]
    show _ = some ((isP p && (decide (1 ≤ d) && decide (d ≤ 3))) && vT p d none l, ())
    cases hP : isP p with
    | false => rfl
    | true =>
      have hp : 2 ≤ p ∧ p ≤ 13 := by simp only [isP, Bool.or_eq_true, decide_eq_true_eq] at hP; omega
      cases hd : (decide (1 ≤ d) && decide (d ≤ 3)) with
      | false => rfl
      | true =>
        have hd' := hd
        simp only [Bool.and_eq_true, decide_eq_true_eq] at hd'
        simp only [Bool.not_true, cond_false, Bool.true_and, ru119_4]
        exact run119 hp hd' l [] none (l.length + 1) (.inl ⟨rfl, rfl⟩) (by omega) h1 h2
  · cases h

/-! the program's -/
theorem in160 {F0 F : Nat} {p d : Int} {tt : List term.den} {a b c v : Int} {l : List term.den} {n i : Int} {kx : ShVal sh160_9 → Option R160} (hd : 1 ≤ d ∧ d ≤ 3) :
    iter (fun s k => st160_9 cf82 cf87 cf151 cf159 F0 s k kx) (F + 4) ((p, d, tt, ()), (((a, b, c, ()), v, ()), ((d, ()), ((l, ()), ((n, ()), ((i, ()), ())))))) =
    bif (decide (2 ≤ d) || decide (b = 0)) && (decide (3 ≤ d) || decide (c = 0)) then kx ((p, d, tt, ()), (((a, b, c, ()), v, ()), (((3 : Int), ()), ((l, ()), ((n, ()), ((i, ()), ())))))) else some (false, ()) := by
  have e1 : ∀ d0 : Int, iter (fun s k => st160_9 cf82 cf87 cf151 cf159 F0 s k kx) (F + 4) ((p, d0, tt, ()), (((a, b, c, ()), v, ()), (((1 : Int), ()), ((l, ()), ((n, ()), ((i, ()), ())))))) = bif !decide (b = 0) then some (false, ()) else (bif !decide (c = 0) then some (false, ()) else kx ((p, d0, tt, ()), (((a, b, c, ()), v, ()), (((3 : Int), ()), ((l, ()), ((n, ()), ((i, ()), ()))))))) := fun d0 => by kernel_rfl
  have e2 : ∀ d0 : Int, iter (fun s k => st160_9 cf82 cf87 cf151 cf159 F0 s k kx) (F + 4) ((p, d0, tt, ()), (((a, b, c, ()), v, ()), (((2 : Int), ()), ((l, ()), ((n, ()), ((i, ()), ())))))) = (bif !decide (c = 0) then some (false, ()) else kx ((p, d0, tt, ()), (((a, b, c, ()), v, ()), (((3 : Int), ()), ((l, ()), ((n, ()), ((i, ()), ()))))))) := fun d0 => by kernel_rfl
  have e3 : ∀ d0 : Int, iter (fun s k => st160_9 cf82 cf87 cf151 cf159 F0 s k kx) (F + 4) ((p, d0, tt, ()), (((a, b, c, ()), v, ()), (((3 : Int), ()), ((l, ()), ((n, ()), ((i, ()), ())))))) = kx ((p, d0, tt, ()), (((a, b, c, ()), v, ()), (((3 : Int), ()), ((l, ()), ((n, ()), ((i, ()), ())))))) := fun d0 => by kernel_rfl
  rcases (show d = 1 ∨ d = 2 ∨ d = 3 by omega) with rfl | rfl | rfl
  · rw [e1]
    by_cases q1 : b = 0 <;> by_cases q2 : c = 0 <;> simp [q1, q2]
  · rw [e2]
    by_cases q2 : c = 0 <;> simp [q2]
  · rw [e3]; simp

end Go.Proofs.YtkoifikjfnbcpaaEv
