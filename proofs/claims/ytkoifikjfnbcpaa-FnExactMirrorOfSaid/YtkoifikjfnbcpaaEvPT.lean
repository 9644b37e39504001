/- Reflections: the program and the reference say the same. -/
import Derived.Test.YtkoifikjfnbcpaaEvPS
set_option linter.unusedVariables false
set_option linter.unusedSimpArgs false
namespace Go.Proofs.YtkoifikjfnbcpaaEv
open Go Go.RowKit

/-- What a matrix is known to be. -/
theorem matB_is {p n : Int} {g : Mat} (h : matB p n g = true) : isP p = true ∧ ∃ k : Nat, n = (k : Int) ∧ 1 ≤ k ∧ k ≤ 3 ∧ rngB p k g = true ∧ ¬ detN k (me g) % p = 0 := by
  simp only [matB, Bool.and_eq_true] at h
  have hn := inR_cases h.2.1
  refine ⟨h.1, n.toNat, by omega, by omega, by omega, ?_, ?_⟩
  · have := h.2.2.1
    rwa [show ((n.toNat : Nat) : Int) = n by omega]
  · have := h.2.2.2
    simpa using this
theorem me_lt {p n : Int} {g : Mat} (hr : rngB p n g = true) {i j : Nat} (hi : i < 3) (hj : j < 3) : me g i j < p := by
  obtain ⟨⟨a, b, c⟩, ⟨d, e, f⟩, u, v, x⟩ := rng_lt hr
  rcases (show i = 0 ∨ i = 1 ∨ i = 2 by omega) with rfl | rfl | rfl <;> rcases (show j = 0 ∨ j = 1 ∨ j = 2 by omega) with rfl | rfl | rfl <;> assumption
theorem can_range {p : Int} {m : Nat} {f : Nat → Int} (hp : 0 < p) (h : ∀ i, i < m → 0 ≤ f i ∧ f i < p) : Can p m ((List.range m).map f) := by
  refine ⟨by simp, fun i => ?_⟩
  by_cases q : i < m
  · have : el ((List.range m).map f) i = f i := by simp [el, List.getD_eq_getElem?_getD, q]
    rw [this]; exact h i q
  · rw [el_ge (by simp; omega)]; omega
theorem chRows_can {p : Int} {n : Nat} {g : Mat} (hp : 2 ≤ p) (hg : okM g = true) (hn : n ≤ 3) {q : Int} (hr : rngB p q g = true) : ∀ r ∈ chRows p n g, Can p n r := by
  intro r h
  obtain ⟨i, hi, rfl⟩ := List.mem_map.1 h
  have hi := List.mem_range.1 hi
  refine can_range (by omega) fun j hj => ?_
  have h1 := me_rng hg i j
  have h2 := me_lt hr (i := i) (j := j) (by omega) (by omega)
  unfold chE
  split
  · exact md_rng (by omega)
  · omega

noncomputable def cf94 : G94 := fn94 cf109 cf108 0
theorem k94 : KOne Try.prog 94 ⟨[.v i64, .v i64, .v mat], [.bool], false, false, 0, cf94⟩ := ok94 _ _ (.cons k109 (.cons k108 .nil)) cf94 fun x y h => ⟨0, h⟩
/-- The reduced list of a matrix less the unit. -/
def echM (p : Int) (n : Nat) (g : Mat) : List (List Int) := ech p (chRows p n g)
theorem echM_len {p : Int} {n : Nat} {g : Mat} : (echM p n g).length ≤ n := by have := ech_len (p := p) (rows := chRows p n g); rwa [chRows_len] at this
theorem g94_ok {p : Int} {n : Nat} {g : Mat} (hg : okM g = true) (hP : isP p = true) (hn : n ≤ 3) {q : Int} (hr : rngB p q g = true) : cf94 (p, (n : Int), g, ()) = some (decide ((echM p n g).length = 1), ()) := by
  have hp := isP_pos hP
  have g1 := g109_ok (p := p) (by omega) hn hg
  have g2 := g108_ok hP (chRows_can (by omega) hg hn hr) (by omega) (by rw [chRows_len]; omega)
  have hl := echM_len (p := p) (n := n) (g := g)
  simp only [cf94, fn94, g1, g2]
  unfold echM at hl ⊢
  simp (disch := omega) only [dln_t, cond_true, ofn]
  congr 2
  apply decide_eq_decide.2
  omega
noncomputable def cf42 : G42 := fn42 cf58 cf94 0
theorem k42 : KOne Try.prog 42 ⟨[.v i64, .v i64, .v mat], [.bool, i64], false, false, 0, cf42⟩ := ok42 _ _ (.cons k58 (.cons k94 .nil)) cf42 fun x y h => ⟨0, h⟩

/-- The root of a reflection, nothing if there is none. -/
def rootL (p : Int) (n : Nat) (g : Mat) : List Int := if (echM p n g).length = 1 then (echM p n g).getD 0 [] else []
noncomputable def cf95 : G95 := fn95 cf112 cf145 0
theorem k95 : KOne Try.prog 95 ⟨[.v i64, .v i64, .v mat], [.slice 2 i64], true, true, 0, cf95⟩ := ok95 _ _ (.cons k112 (.cons k145 .nil)) cf95 fun x y h => ⟨0, h⟩
theorem echM_can {p : Int} {n : Nat} {g : Mat} (hP : isP p = true) (hg : okM g = true) (hn : n ≤ 3) {q : Int} (hr : rngB p q g = true) : ∀ r ∈ echM p n g, Can p n r :=
  (ech_RR hP (chRows_can (by have := isP_pos hP; omega) hg hn hr)).can
theorem head_can {p : Int} {n : Nat} {g : Mat} (hP : isP p = true) (hg : okM g = true) (hn : n ≤ 3) {q : Int} (hr : rngB p q g = true) (h : (echM p n g).length = 1) : Can p n ((echM p n g).getD 0 []) := by
  apply echM_can hP hg hn hr
  rw [List.getD_eq_getElem?_getD, List.getElem?_eq_getElem (by omega)]
  exact List.getElem_mem _
theorem g95_ok {p : Int} {n : Nat} {g : Mat} (hg : okM g = true) (hP : isP p = true) (hn : 1 ≤ n ∧ n ≤ 3) {q : Int} (hr : rngB p q g = true) : cf95 (p, (n : Int), g, ()) = some (rootL p n g, ()) := by
  have hp := isP_pos hP
  have g1 := g112_ok (p := p) (by omega) hn.2 hg
  have g2 := g145_ok hP (chRows_can (by omega) hg hn.2 hr) (by omega) (by rw [chRows_len]; omega)
  have hl := echM_len (p := p) (n := n) (g := g)
  simp only [cf95, fn95, g1, g2]
  unfold rootL
  show (bif decide ((echM p n g).length ≤ _) then _ else _) = _
  by_cases h : (echM p n g).length = 1
  · have hc := head_can hP hg hn.2 hr h
    have he : ((echM p n g).getD 0 []).isEmpty = false := by
      have := hc.len
      cases hh : (echM p n g).getD 0 [] with
      | nil => rw [hh] at this; simp at this; omega
      | cons a r => rfl
    have e0 : (ech p (chRows p n g)).length = 1 := h
    have e1 : List.getD (ech p (chRows p n g)) (tn 0) [] = (echM p n g).getD 0 [] := rfl
    simp (disch := omega) only [dln_t, cond_true, ofn, e0, deq_t, decide_true, Bool.not_true, cond_false, ib_t, e1, he, if_pos h]
    rfl
  · have e0 : (ech p (chRows p n g)).length ≠ 1 := h
    simp (disch := omega) only [dln_t, cond_true, ofn, deq_f, Bool.not_false, if_neg h]
theorem root_empty {p : Int} {n : Nat} {g : Mat} (hP : isP p = true) (hg : okM g = true) (hn : 1 ≤ n ∧ n ≤ 3) {q : Int} (hr : rngB p q g = true) : (!(rootL p n g).isEmpty) = decide ((echM p n g).length = 1) := by
  unfold rootL
  by_cases h : (echM p n g).length = 1
  · rw [if_pos h, decide_eq_true h]
    have := (head_can hP hg hn.2 hr h).len
    cases hh : (echM p n g).getD 0 [] with
    | nil => rw [hh] at this; simp at this; omega
    | cons a r => rfl
  · rw [if_neg h, decide_eq_false h]; rfl
noncomputable def cf43 : G43 := fn43 cf61 cf95 0
theorem k43 : KOne Try.prog 43 ⟨[.v i64, .v i64, .v mat], [.bool, i64], false, false, 0, cf43⟩ := ok43 _ _ (.cons k61 (.cons k95 .nil)) cf43 fun x y h => ⟨0, h⟩

theorem same42 {p n : Int} {g : Mat} (hg : okM g = true) : ∃ (b : Bool) (c : Int), cf42 (p, n, g, ()) = some (b, c, ()) ∧ cf43 (p, n, g, ()) = some (b, c, ()) := by
  simp only [cf42, cf43, fn42, fn43]
  rw [g58_ok hg, g61_ok hg]
  simp only
  cases h : matB p n g with
  | false => exact ⟨false, 2, rfl, rfl⟩
  | true =>
    obtain ⟨hP, k, rfl, h1, h2, hr, _⟩ := matB_is h
    rw [g94_ok hg hP h2 hr, g95_ok hg hP ⟨h1, h2⟩ hr]
    exact ⟨_, 0, rfl, by simp only [Bool.not_true, cond_false, root_empty hP hg ⟨h1, h2⟩ hr]⟩

end Go.Proofs.YtkoifikjfnbcpaaEv
