/- What functions of the program come to, printed by a program of this work: loops by their steps, calls by what is known of them; each text is checked by the kernel. No condition. -/
import Derived.Test.YtkoifikjfnbcpaaEvFq
set_option linter.unusedVariables false
namespace Go.Proofs.YtkoifikjfnbcpaaEv
open Go Go.RowKit
/-! laws.FnExactRootOfReflection -/
abbrev R9 : Type := Ress [.bool]
abbrev G9 : Type := Args [.v i64, .v i64, .v mat] → Option R9
abbrev kp9 : List (Nat × List Nat) := [(0, [5, 1, 0]), (1, [8, 7, 5, 1, 0]), (2, [10, 9, 8, 7, 5, 1, 0]), (3, [39, 9, 8, 7, 5, 1, 0]), (4, [6]), (5, [11, 0, 1, 5, 7, 8, 9]), (6, [0, 1, 5, 7, 8, 11, 9]), (7, [12, 0, 1, 5, 7, 8, 11, 9]), (8, [0, 1, 5, 7, 8, 11, 9, 12]), (9, [47, 0, 1, 5, 7, 8, 11, 9, 12]), (10, [6]), (11, [50, 9, 11, 8, 7, 5, 1, 0]), (12, [6]), (13, [13, 7, 14, 8, 11, 9]), (14, [67, 11, 9]), (15, [6]), (16, [9, 12, 11]), (17, [11, 12]), (18, [72, 11, 12]), (19, [6]), (20, [75]), (21, [6]), (22, [6])]
abbrev ct9 (g16 : G16) (g46 : G46) (g18 : G18) (g19 : G19) (g20 : G20) (g47 : G47) : CTab := [(16, ⟨[.v mat], [mat], false, false, 0, g16⟩), (46, ⟨[.v i64, .v i64, .v mat], [(.slice 2 i64), i64], false, true, 0, g46⟩), (18, ⟨[.v (.slice 2 i64), .v (.slice 2 i64)], [.bool], false, false, 0, g18⟩), (19, ⟨[.v (.slice 2 i64), .v i64], [(.slice 2 i64), i64], false, false, 1, g19⟩), (20, ⟨[.v (.slice 2 i64), .v i64], [i64], false, false, 0, g20⟩), (47, ⟨[.v i64, .v i64, .v mat], [(.slice 2 i64), i64], true, true, 0, g47⟩)]
abbrev kr9 : Env → Option R9 := endK TT [.tmp 6] [.bool] false false
def fn9 (g16 : G16) (g46 : G46) (g18 : G18) (g19 : G19) (g20 : G20) (g47 : G47) (F : Nat) (x : Args [.v i64, .v i64, .v mat]) : Option R9 :=
  match x with
  | (x0, x1, x2, _) => (match (g16 (x2, ())) with | some r11 => (match (g46 (x0, (x1, (r11.1, ())))) with | some r12 => (match (g16 (x2, ())) with | some r14 => (match (g47 (x0, (x1, (r14.1, ())))) with | some r15 => (match (g18 (r15.1, (r12.1, ()))) with | some r17 => (bif (!r17.1) then (some (false, ())) else (bif (bif false then true else (!decide (r15.2.1 = r12.2.1))) then (some (false, ())) else (match (g19 (r15.1, ((1 : Int), ()))) with | some r20 => (match (g20 ((bif ((Nat.beq 2 2) && true) then r20.1 else []), ((1 : Int), ()))) with | some r23 => (bif decide (r23.1 < (0 : Int)) then (some (false, ())) else (bif (!decide (r23.1 = r20.2.1)) then (some (false, ())) else (match (g16 (x2, ())) with | some r27 => (match (g47 (x0, (x1, (r27.1, ())))) with | some r28 => (match (g18 (r28.1, (r12.1, ()))) with | some r30 => (bif (!r30.1) then (some (false, ())) else (bif (bif false then true else (!decide (r28.2.1 = r12.2.1))) then (some (false, ())) else (match (g20 ((bif ((Nat.beq 2 2) && true) then r20.1 else []), ((1 : Int), ()))) with | some r33 => (bif decide (r33.1 < (0 : Int)) then (some (false, ())) else (bif (!decide (r33.1 = r20.2.1)) then (some (false, ())) else (some (true, ())))) | none => none))) | none => none) | none => none) | none => none))) | none => none) | none => none))) | none => none) | none => none) | none => none) | none => none) | none => none)
theorem ev9 (g16 : G16) (g46 : G46) (g18 : G18) (g19 : G19) (g20 : G20) (g47 : G47) (F : Nat) (x : Args [.v i64, .v i64, .v mat]) : fnK TT (ct9 g16 g46 g18 g19 g20 g47 ) kp9 [.bool] [] (bodyOf Try.f9) [.tmp 6] [.v i64, .v i64, .v mat] false false x = fn9 g16 g46 g18 g19 g20 g47 F x := by
  obtain ⟨x0, x1, x2, _⟩ := x
  kernel_rfl
theorem ok9 (g16 : G16) (g46 : G46) (g18 : G18) (g19 : G19) (g20 : G20) (g47 : G47) (hK : KOK Try.prog (ct9 g16 g46 g18 g19 g20 g47 )) (cf : G9) (h : ∀ x y, cf x = some y → ∃ F, fn9 g16 g46 g18 g19 g20 g47 F x = some y) : KOne Try.prog 9 ⟨[.v i64, .v i64, .v mat], [.bool], false, false, 0, cf⟩ :=
  fn_one rfl (c := bodyOf Try.f9) mixed tt_ok hK Try.func9 (by kernel_rfl) (by kernel_rfl) (Nat.le_of_ble_eq_true (by kernel_rfl)) (by decide) fun x y hxy => by
    obtain ⟨F, hF⟩ := h x y hxy
    exact ⟨[], LTOK_by (l := []) (by kernel_rfl) trivial, (ev9 g16 g46 g18 g19 g20 g47 F x).trans hF⟩
end Go.Proofs.YtkoifikjfnbcpaaEv
