/- What functions of the program come to, printed by a program of this work: loops by their steps, calls by what is known of them; each text is checked by the kernel. No condition. -/
import Derived.Test.YtkoifikjfnbcpaaEvFd
import Derived.Test.YtkoifikjfnbcpaaEvSl
set_option linter.unusedVariables false
namespace Go.Proofs.YtkoifikjfnbcpaaEv
open Go Go.RowKit
/-! laws.FnExactDicksonInvariant -/
abbrev R8 : Type := Ress [.bool]
abbrev G8 : Type := Args [.v i64, .v i64, .v i64] → Option R8
abbrev kp8 : List (Nat × List Nat) := [(0, [2, 1, 0]), (1, [8, 7, 2, 1, 0]), (2, [10, 9, 8, 7, 2, 1, 0]), (3, [37, 9, 8, 7, 2, 1, 0]), (4, [6]), (5, [11, 0, 1, 2, 7, 8, 9]), (6, [0, 1, 2, 7, 8, 11, 9]), (7, [12, 0, 1, 2, 7, 8, 11, 9]), (8, [0, 1, 2, 7, 8, 11, 9, 12]), (9, [45, 0, 1, 2, 7, 8, 11, 9, 12]), (10, [6]), (11, [48, 9, 11, 8, 7, 2, 1, 0]), (12, [6]), (13, [13, 7, 14, 8, 11, 9]), (14, [64, 11, 9]), (15, [6]), (16, [9, 12, 11]), (17, [11, 12]), (18, [69, 11, 12]), (19, [6]), (20, [72]), (21, [6]), (22, [6])]
abbrev ct8 (g44 : G44) (g39 : G39) (g40 : G40) (g41 : G41) (g45 : G45) : CTab := [(44, ⟨[.v i64, .v i64, .v i64], [poly, i64], true, false, 0, g44⟩), (39, ⟨[.v poly, .v poly], [.bool], false, false, 0, g39⟩), (40, ⟨[.v poly, .v i64], [poly, i64], false, false, 1, g40⟩), (41, ⟨[.v poly, .v i64], [i64], false, false, 0, g41⟩), (45, ⟨[.v i64, .v i64, .v i64], [poly, i64], true, false, 0, g45⟩)]
abbrev kr8 : Env → Option R8 := endK TT [.tmp 6] [.bool] false false
def fn8 (g44 : G44) (g39 : G39) (g40 : G40) (g41 : G41) (g45 : G45) (F : Nat) (x : Args [.v i64, .v i64, .v i64]) : Option R8 :=
  match x with
  | (x0, x1, x2, _) => (match (g44 (x0, (x1, (x2, ())))) with | some r10 => (match (g45 (x0, (x1, (x2, ())))) with | some r12 => (match (g39 ((r12.1.1, (r12.1.2.1, (r12.1.2.2.1, ()))), ((r10.1.1, (r10.1.2.1, (r10.1.2.2.1, ()))), ()))) with | some r14 => (bif (!r14.1) then (some (false, ())) else (bif (bif false then true else (!decide (r12.2.1 = r10.2.1))) then (some (false, ())) else (match (g40 ((r12.1.1, (r12.1.2.1, (r12.1.2.2.1, ()))), ((1 : Int), ()))) with | some r17 => (match (g41 ((r12.1.1, (r12.1.2.1, (r17.1.2.2.1, ()))), ((1 : Int), ()))) with | some r20 => (bif decide (r20.1 < (0 : Int)) then (some (false, ())) else (bif (!decide (r20.1 = r17.2.1)) then (some (false, ())) else (match (g45 (x0, (x1, (x2, ())))) with | some r24 => (match (g39 ((r24.1.1, (r24.1.2.1, (r24.1.2.2.1, ()))), ((r10.1.1, (r10.1.2.1, (r10.1.2.2.1, ()))), ()))) with | some r26 => (bif (!r26.1) then (some (false, ())) else (bif (bif false then true else (!decide (r24.2.1 = r10.2.1))) then (some (false, ())) else (match (g41 ((r12.1.1, (r12.1.2.1, (r17.1.2.2.1, ()))), ((1 : Int), ()))) with | some r29 => (bif decide (r29.1 < (0 : Int)) then (some (false, ())) else (bif (!decide (r29.1 = r17.2.1)) then (some (false, ())) else (some (true, ())))) | none => none))) | none => none) | none => none))) | none => none) | none => none))) | none => none) | none => none) | none => none)
theorem ev8 (g44 : G44) (g39 : G39) (g40 : G40) (g41 : G41) (g45 : G45) (F : Nat) (x : Args [.v i64, .v i64, .v i64]) : fnK TT (ct8 g44 g39 g40 g41 g45 ) kp8 [.bool] [] (bodyOf Try.f8) [.tmp 6] [.v i64, .v i64, .v i64] false false x = fn8 g44 g39 g40 g41 g45 F x := by
  obtain ⟨x0, x1, x2, _⟩ := x
  kernel_rfl
theorem ok8 (g44 : G44) (g39 : G39) (g40 : G40) (g41 : G41) (g45 : G45) (hK : KOK Try.prog (ct8 g44 g39 g40 g41 g45 )) (cf : G8) (h : ∀ x y, cf x = some y → ∃ F, fn8 g44 g39 g40 g41 g45 F x = some y) : KOne Try.prog 8 ⟨[.v i64, .v i64, .v i64], [.bool], false, false, 0, cf⟩ :=
  fn_one rfl (c := bodyOf Try.f8) mixed tt_ok hK Try.func8 (by kernel_rfl) (by kernel_rfl) (Nat.le_of_ble_eq_true (by kernel_rfl)) (by decide) fun x y hxy => by
    obtain ⟨F, hF⟩ := h x y hxy
    exact ⟨[], LTOK_by (l := []) (by kernel_rfl) trivial, (ev8 g44 g39 g40 g41 g45 F x).trans hF⟩
end Go.Proofs.YtkoifikjfnbcpaaEv
