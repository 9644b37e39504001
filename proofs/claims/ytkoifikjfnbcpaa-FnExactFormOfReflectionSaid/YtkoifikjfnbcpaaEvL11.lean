/- What functions of the program come to, printed by a program of this work: loops by their steps, calls by what is known of them; each text is checked by the kernel. No condition. -/
import Derived.Test.YtkoifikjfnbcpaaEvFf
import Derived.Test.YtkoifikjfnbcpaaEvSl
set_option linter.unusedVariables false
namespace Go.Proofs.YtkoifikjfnbcpaaEv
open Go Go.RowKit
/-! laws.FnExactFormOfReflection -/
abbrev R11 : Type := Ress [.bool]
abbrev G11 : Type := Args [.v i64, .v i64, .v mat] → Option R11
abbrev kp11 : List (Nat × List Nat) := [(0, [5, 1, 0]), (1, [8, 7, 5, 1, 0]), (2, [10, 9, 8, 7, 5, 1, 0]), (3, [39, 9, 8, 7, 5, 1, 0]), (4, [6]), (5, [11, 0, 1, 5, 7, 8, 9]), (6, [0, 1, 5, 7, 8, 11, 9]), (7, [12, 0, 1, 5, 7, 8, 11, 9]), (8, [0, 1, 5, 7, 8, 11, 9, 12]), (9, [47, 0, 1, 5, 7, 8, 11, 9, 12]), (10, [6]), (11, [50, 9, 11, 8, 7, 5, 1, 0]), (12, [6]), (13, [13, 7, 14, 8, 11, 9]), (14, [67, 11, 9]), (15, [6]), (16, [9, 12, 11]), (17, [11, 12]), (18, [72, 11, 12]), (19, [6]), (20, [75]), (21, [6]), (22, [6])]
abbrev ct11 (g16 : G16) (g50 : G50) (g39 : G39) (g40 : G40) (g41 : G41) (g51 : G51) : CTab := [(16, ⟨[.v mat], [mat], false, false, 0, g16⟩), (50, ⟨[.v i64, .v i64, .v mat], [poly, i64], true, false, 0, g50⟩), (39, ⟨[.v poly, .v poly], [.bool], false, false, 0, g39⟩), (40, ⟨[.v poly, .v i64], [poly, i64], false, false, 1, g40⟩), (41, ⟨[.v poly, .v i64], [i64], false, false, 0, g41⟩), (51, ⟨[.v i64, .v i64, .v mat], [poly, i64], true, false, 0, g51⟩)]
abbrev kr11 : Env → Option R11 := endK TT [.tmp 6] [.bool] false false
def fn11 (g16 : G16) (g50 : G50) (g39 : G39) (g40 : G40) (g41 : G41) (g51 : G51) (F : Nat) (x : Args [.v i64, .v i64, .v mat]) : Option R11 :=
  match x with
  | (x0, x1, x2, _) => (match (g16 (x2, ())) with | some r11 => (match (g50 (x0, (x1, (r11.1, ())))) with | some r12 => (match (g16 (x2, ())) with | some r14 => (match (g51 (x0, (x1, (r14.1, ())))) with | some r15 => (match (g39 ((r15.1.1, (r15.1.2.1, (r15.1.2.2.1, ()))), ((r12.1.1, (r12.1.2.1, (r12.1.2.2.1, ()))), ()))) with | some r17 => (bif (!r17.1) then (some (false, ())) else (bif (bif false then true else (!decide (r15.2.1 = r12.2.1))) then (some (false, ())) else (match (g40 ((r15.1.1, (r15.1.2.1, (r15.1.2.2.1, ()))), ((1 : Int), ()))) with | some r20 => (match (g41 ((r15.1.1, (r15.1.2.1, (r20.1.2.2.1, ()))), ((1 : Int), ()))) with | some r23 => (bif decide (r23.1 < (0 : Int)) then (some (false, ())) else (bif (!decide (r23.1 = r20.2.1)) then (some (false, ())) else (match (g16 (x2, ())) with | some r27 => (match (g51 (x0, (x1, (r27.1, ())))) with | some r28 => (match (g39 ((r28.1.1, (r28.1.2.1, (r28.1.2.2.1, ()))), ((r12.1.1, (r12.1.2.1, (r12.1.2.2.1, ()))), ()))) with | some r30 => (bif (!r30.1) then (some (false, ())) else (bif (bif false then true else (!decide (r28.2.1 = r12.2.1))) then (some (false, ())) else (match (g41 ((r15.1.1, (r15.1.2.1, (r20.1.2.2.1, ()))), ((1 : Int), ()))) with | some r33 => (bif decide (r33.1 < (0 : Int)) then (some (false, ())) else (bif (!decide (r33.1 = r20.2.1)) then (some (false, ())) else (some (true, ())))) | none => none))) | none => none) | none => none) | none => none))) | none => none) | none => none))) | none => none) | none => none) | none => none) | none => none) | none => none)
theorem ev11 (g16 : G16) (g50 : G50) (g39 : G39) (g40 : G40) (g41 : G41) (g51 : G51) (F : Nat) (x : Args [.v i64, .v i64, .v mat]) : fnK TT (ct11 g16 g50 g39 g40 g41 g51 ) kp11 [.bool] [] (bodyOf Try.f11) [.tmp 6] [.v i64, .v i64, .v mat] false false x = fn11 g16 g50 g39 g40 g41 g51 F x := by
  obtain ⟨x0, x1, x2, _⟩ := x
  kernel_rfl
theorem ok11 (g16 : G16) (g50 : G50) (g39 : G39) (g40 : G40) (g41 : G41) (g51 : G51) (hK : KOK Try.prog (ct11 g16 g50 g39 g40 g41 g51 )) (cf : G11) (h : ∀ x y, cf x = some y → ∃ F, fn11 g16 g50 g39 g40 g41 g51 F x = some y) : KOne Try.prog 11 ⟨[.v i64, .v i64, .v mat], [.bool], false, false, 0, cf⟩ :=
  fn_one rfl (c := bodyOf Try.f11) mixed tt_ok hK Try.func11 (by kernel_rfl) (by kernel_rfl) (Nat.le_of_ble_eq_true (by kernel_rfl)) (by decide) fun x y hxy => by
    obtain ⟨F, hF⟩ := h x y hxy
    exact ⟨[], LTOK_by (l := []) (by kernel_rfl) trivial, (ev11 g16 g50 g39 g40 g41 g51 F x).trans hF⟩
end Go.Proofs.YtkoifikjfnbcpaaEv
