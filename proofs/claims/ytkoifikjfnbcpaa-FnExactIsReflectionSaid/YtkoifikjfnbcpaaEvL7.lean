/- What functions of the program come to, printed by a program of this work: loops by their steps, calls by what is known of them; each text is checked by the kernel. No condition. -/
import Derived.Test.YtkoifikjfnbcpaaEvFs
set_option linter.unusedVariables false
namespace Go.Proofs.YtkoifikjfnbcpaaEv
open Go Go.RowKit
/-! laws.FnExactIsReflection -/
abbrev R7 : Type := Ress [.bool]
abbrev G7 : Type := Args [.v i64, .v i64, .v mat] → Option R7
abbrev kp7 : List (Nat × List Nat) := [(0, [0, 1, 5]), (1, [0, 1, 5, 7, 8]), (2, [9, 7, 10, 8]), (3, [34]), (4, [6]), (5, [6])]
abbrev ct7 (g16 : G16) (g42 : G42) (g43 : G43) : CTab := [(16, ⟨[.v mat], [mat], false, false, 0, g16⟩), (42, ⟨[.v i64, .v i64, .v mat], [.bool, i64], false, false, 0, g42⟩), (43, ⟨[.v i64, .v i64, .v mat], [.bool, i64], false, false, 0, g43⟩)]
abbrev kr7 : Env → Option R7 := endK TT [.tmp 6] [.bool] false false
def fn7 (g16 : G16) (g42 : G42) (g43 : G43) (F : Nat) (x : Args [.v i64, .v i64, .v mat]) : Option R7 :=
  match x with
  | (x0, x1, x2, _) => (match (g16 (x2, ())) with | some r8 => (match (g42 (x0, (x1, (r8.1, ())))) with | some r9 => (match (g16 (x2, ())) with | some r11 => (match (g43 (x0, (x1, (r11.1, ())))) with | some r12 => (bif (!(r12.1 == r9.1)) then (some (false, ())) else (bif (bif false then true else (!decide (r12.2.1 = r9.2.1))) then (some (false, ())) else (some (true, ())))) | none => none) | none => none) | none => none) | none => none)
theorem ev7 (g16 : G16) (g42 : G42) (g43 : G43) (F : Nat) (x : Args [.v i64, .v i64, .v mat]) : fnK TT (ct7 g16 g42 g43 ) kp7 [.bool] [] (bodyOf Try.f7) [.tmp 6] [.v i64, .v i64, .v mat] false false x = fn7 g16 g42 g43 F x := by
  obtain ⟨x0, x1, x2, _⟩ := x
  kernel_rfl
theorem ok7 (g16 : G16) (g42 : G42) (g43 : G43) (hK : KOK Try.prog (ct7 g16 g42 g43 )) (cf : G7) (h : ∀ x y, cf x = some y → ∃ F, fn7 g16 g42 g43 F x = some y) : KOne Try.prog 7 ⟨[.v i64, .v i64, .v mat], [.bool], false, false, 0, cf⟩ :=
  fn_one rfl (c := bodyOf Try.f7) mixed tt_ok hK Try.func7 (by kernel_rfl) (by kernel_rfl) (Nat.le_of_ble_eq_true (by kernel_rfl)) (by decide) fun x y hxy => by
    obtain ⟨F, hF⟩ := h x y hxy
    exact ⟨[], LTOK_by (l := []) (by kernel_rfl) trivial, (ev7 g16 g42 g43 F x).trans hF⟩
end Go.Proofs.YtkoifikjfnbcpaaEv
