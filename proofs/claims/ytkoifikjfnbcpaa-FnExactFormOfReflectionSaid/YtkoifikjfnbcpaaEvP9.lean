/- The law on RootOfReflection gives true. -/
import Derived.Test.YtkoifikjfnbcpaaEvPT
import Derived.Test.YtkoifikjfnbcpaaEvL9
import Derived.Test.YtkoifikjfnbcpaaEvMD
set_option linter.unusedVariables false
set_option linter.unusedSimpArgs false
namespace Go.Proofs.YtkoifikjfnbcpaaEv
open Go Go.RowKit

noncomputable def cf107 : G107 := fn107 cf58 cf94 0
theorem k107 : KOne Try.prog 107 ⟨[.v i64, .v i64, .v mat], [i64], false, false, 0, cf107⟩ := ok107 _ _ (.cons k58 (.cons k94 .nil)) cf107 fun x y h => ⟨0, h⟩
noncomputable def cf46 : G46 := fn46 cf107 cf108 cf109 0
theorem k46 : KOne Try.prog 46 ⟨[.v i64, .v i64, .v mat], [.slice 2 i64, i64], false, true, 0, cf46⟩ := ok46 _ _ _ (.cons k107 (.cons k108 (.cons k109 .nil))) cf46 fun x y h => ⟨0, h⟩
noncomputable def cf47 : G47 := fn47 cf61 cf95 0
theorem k47 : KOne Try.prog 47 ⟨[.v i64, .v i64, .v mat], [.slice 2 i64, i64], true, true, 0, cf47⟩ := ok47 _ _ (.cons k61 (.cons k95 .nil)) cf47 fun x y h => ⟨0, h⟩
theorem same46 {p n : Int} {g : Mat} (hg : okM g = true) : ∃ (L : List Int) (c : Int), L.length ≤ 4 ∧ cf46 (p, n, g, ()) = some (L, c, ()) ∧ cf47 (p, n, g, ()) = some (L, c, ()) := by
  simp only [cf46, cf47, fn46, fn47, cf107, fn107]
  rw [g58_ok hg, g61_ok hg]
  simp only
  cases h : matB p n g with
  | false => exact ⟨[], 2, by simp, rfl, rfl⟩
  | true =>
    obtain ⟨hP, k, rfl, h1, h2, hr, _⟩ := matB_is h
    have hp := isP_pos hP
    rw [g94_ok hg hP h2 hr, g95_ok hg hP ⟨h1, h2⟩ hr, g109_ok (p := p) (by omega) h2 hg]
    simp only
    have g2 : cf108 (p, chRows p k g, ()) = some (echM p k g, ()) := g108_ok hP (chRows_can (by omega) hg h2 hr) (by omega) (by rw [chRows_len]; omega)
    by_cases q : (echM p k g).length = 1
    · have hc := head_can hP hg h2 hr q
      have he : ((echM p k g).getD 0 []).isEmpty = false := by
        have := hc.len
        cases hh : (echM p k g).getD 0 [] with
        | nil => rw [hh] at this; simp at this; omega
        | cons a r => rfl
      have hR : rootL p k g = (echM p k g).getD 0 [] := if_pos q
      refine ⟨(echM p k g).getD 0 [], 0, by rw [hc.len]; omega, ?_, ?_⟩
      · have e1 : List.getD (echM p k g) (tn 0) [] = (echM p k g).getD 0 [] := rfl
        simp (disch := omega) only [decide_eq_true q, Bool.not_true, cond_false, decide_true, g2, ofn, q, ib_t, cond_true, e1, he]
        rfl
      · simp only [Bool.not_true, cond_false, hR, he]
    · have hR : rootL p k g = [] := if_neg q
      refine ⟨[], 5, by simp, ?_, ?_⟩
      · simp (disch := omega) only [decide_eq_false q, Bool.not_true, Bool.not_false, cond_false, cond_true, deq_f]
      · simp only [Bool.not_true, cond_false, hR, List.isEmpty_nil, cond_true]

theorem law9_one : KOne Try.prog 9 ⟨[.v i64, .v i64, .v mat], [.bool], false, false, 0, fun x => bif okA [.v i64, .v i64, .v mat] x then some (true, ()) else none⟩ :=
  ok9 _ _ _ _ _ _ (.cons k16 (.cons k46 (.cons k18 (.cons k19 (.cons k20 (.cons k47 .nil)))))) _ fun x y h => by
    obtain ⟨p, n, g, _⟩ := x
    cases hx : okA [.v i64, .v i64, .v mat] (p, n, g, ()) with
    | false => rw [hx] at h; cases h
    | true =>
      rw [hx] at h; injection h with h; subst h
      refine ⟨0, ?_⟩
      simp only [okA, Bool.and_eq_true] at hx
      have hg : okM g = true := hx.2.2.1
      obtain ⟨L, c, hl, e1, e2⟩ := same46 (p := p) (n := n) hg
      have c16 : cf16 (g, ()) = some (g, ()) := rfl
      have c18 : cf18 (L, L, ()) = some (true, ()) := by
        have : cf18 (L, L, ()) = some (decide (L = L), ()) := if_pos ⟨by simp only [B]; omega, by simp only [B]; omega⟩
        rw [this, decide_eq_true rfl]
      have c19 : cf19 (L, (1 : Int), ()) = some (marks 1 L.length, 1 + (L.length : Int), ()) := g19_ok (by omega) (by omega)
      have c20 : cf20 (marks 1 L.length, (1 : Int), ()) = some (1 + (L.length : Int), ()) := by
        exact g20_ok (by omega) (by omega)
      have n2 : (bif ((Nat.beq 2 2) && true) then marks 1 L.length else []) = marks 1 L.length := rfl
      simp (disch := omega) only [fn9, c16, e1, e2, c18, c19, n2, c20, Bool.not_true, cond_false, cond_true, deq_t, decide_true, dlt_f]

end Go.Proofs.YtkoifikjfnbcpaaEv
