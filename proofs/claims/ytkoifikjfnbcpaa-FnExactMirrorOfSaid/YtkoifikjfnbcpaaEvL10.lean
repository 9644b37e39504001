/- What functions of the program come to, printed by a program of this work: loops by their steps, calls by what is known of them; each text is checked by the kernel. No condition. -/
import Derived.Test.YtkoifikjfnbcpaaEvSs
set_option linter.unusedVariables false
namespace Go.Proofs.YtkoifikjfnbcpaaEv
open Go Go.RowKit
/-! laws.FnExactMirrorOf -/
abbrev R10 : Type := Ress [.bool]
abbrev G10 : Type := Args [.v i64, .v i64, .v mat] → Option R10
abbrev kp10 : List (Nat × List Nat) := [(0, [5, 1, 0]), (1, [8, 7, 5, 1, 0]), (2, [10, 9, 8, 7, 5, 1, 0]), (3, [39, 9, 8, 7, 5, 1, 0]), (4, [6]), (5, [11, 0, 1, 5, 7, 8, 9]), (6, [0, 1, 5, 7, 8, 11, 9]), (7, [12, 0, 1, 5, 7, 8, 11, 9]), (8, [0, 1, 5, 7, 8, 11, 9, 12]), (9, [47, 0, 1, 5, 7, 8, 11, 9, 12]), (10, [6]), (11, [50, 9, 11, 8, 7, 5, 1, 0]), (12, [6]), (13, [13, 7, 14, 8, 11, 9]), (14, [67, 11, 9]), (15, [6]), (16, [9, 12, 11]), (17, [11, 12]), (18, [72, 11, 12]), (19, [6]), (20, [75]), (21, [6]), (22, [6])]
abbrev ct10 (g16 : G16) (g48 : G48) (g25 : G25) (g28 : G28) (g29 : G29) (g49 : G49) : CTab := [(16, ⟨[.v mat], [mat], false, false, 0, g16⟩), (48, ⟨[.v i64, .v i64, .v mat], [(.slice 24 (.slice 2 i64)), i64], false, false, 0, g48⟩), (25, ⟨[.v (.slice 24 (.slice 2 i64)), .v (.slice 24 (.slice 2 i64))], [.bool], false, false, 0, g25⟩), (28, ⟨[.v (.slice 24 (.slice 2 i64)), .v i64], [(.slice 24 (.slice 2 i64)), i64], false, false, 1, g28⟩), (29, ⟨[.v (.slice 24 (.slice 2 i64)), .v i64], [i64], false, false, 0, g29⟩), (49, ⟨[.v i64, .v i64, .v mat], [(.slice 24 (.slice 2 i64)), i64], true, false, 0, g49⟩)]
abbrev kr10 : Env → Option R10 := endK TT [.tmp 6] [.bool] false false
def fn10 (g16 : G16) (g48 : G48) (g25 : G25) (g28 : G28) (g29 : G29) (g49 : G49) (F : Nat) (x : Args [.v i64, .v i64, .v mat]) : Option R10 :=
  match x with
  | (x0, x1, x2, _) => (match (g16 (x2, ())) with | some r11 => (match (g48 (x0, (x1, (r11.1, ())))) with | some r12 => (match (g16 (x2, ())) with | some r14 => (match (g49 (x0, (x1, (r14.1, ())))) with | some r15 => (match (g25 (r15.1, (r12.1, ()))) with | some r17 => (bif (!r17.1) then (some (false, ())) else (bif (bif false then true else (!decide (r15.2.1 = r12.2.1))) then (some (false, ())) else (match (g28 (r15.1, ((1 : Int), ()))) with | some r20 => (match (g29 ((bif ((Nat.beq 24 24) && ((Nat.beq 2 2) && true)) then r20.1 else []), ((1 : Int), ()))) with | some r23 => (bif decide (r23.1 < (0 : Int)) then (some (false, ())) else (bif (!decide (r23.1 = r20.2.1)) then (some (false, ())) else (match (g16 (x2, ())) with | some r27 => (match (g49 (x0, (x1, (r27.1, ())))) with | some r28 => (match (g25 (r28.1, (r12.1, ()))) with | some r30 => (bif (!r30.1) then (some (false, ())) else (bif (bif false then true else (!decide (r28.2.1 = r12.2.1))) then (some (false, ())) else (match (g29 ((bif ((Nat.beq 24 24) && ((Nat.beq 2 2) && true)) then r20.1 else []), ((1 : Int), ()))) with | some r33 => (bif decide (r33.1 < (0 : Int)) then (some (false, ())) else (bif (!decide (r33.1 = r20.2.1)) then (some (false, ())) else (some (true, ())))) | none => none))) | none => none) | none => none) | none => none))) | none => none) | none => none))) | none => none) | none => none) | none => none) | none => none) | none => none)
theorem ev10 (g16 : G16) (g48 : G48) (g25 : G25) (g28 : G28) (g29 : G29) (g49 : G49) (F : Nat) (x : Args [.v i64, .v i64, .v mat]) : fnK TT (ct10 g16 g48 g25 g28 g29 g49 ) kp10 [.bool] [] (bodyOf Try.f10) [.tmp 6] [.v i64, .v i64, .v mat] false false x = fn10 g16 g48 g25 g28 g29 g49 F x := by
  obtain ⟨x0, x1, x2, _⟩ := x
  kernel_rfl
theorem ok10 (g16 : G16) (g48 : G48) (g25 : G25) (g28 : G28) (g29 : G29) (g49 : G49) (hK : KOK Try.prog (ct10 g16 g48 g25 g28 g29 g49 )) (cf : G10) (h : ∀ x y, cf x = some y → ∃ F, fn10 g16 g48 g25 g28 g29 g49 F x = some y) : KOne Try.prog 10 ⟨[.v i64, .v i64, .v mat], [.bool], false, false, 0, cf⟩ :=
  fn_one rfl (c := bodyOf Try.f10) mixed tt_ok hK Try.func10 (by kernel_rfl) (by kernel_rfl) (Nat.le_of_ble_eq_true (by kernel_rfl)) (by decide) fun x y hxy => by
    obtain ⟨F, hF⟩ := h x y hxy
    exact ⟨[], LTOK_by (l := []) (by kernel_rfl) trivial, (ev10 g16 g48 g25 g28 g29 g49 F x).trans hF⟩
end Go.Proofs.YtkoifikjfnbcpaaEv
