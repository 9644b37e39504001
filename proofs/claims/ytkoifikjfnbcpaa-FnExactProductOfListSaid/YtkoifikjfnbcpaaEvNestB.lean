/- laws.markInt64SS: every row is written by laws.markInt64S, one behind the other. By hand. -/
import Derived.Test.YtkoifikjfnbcpaaEvNest
import Derived.Test.YtkoifikjfnbcpaaEvTst
import Derived.Test.YtkoifikjfnbcpaaEvFa
set_option linter.unusedVariables false
set_option linter.unusedSimpArgs false
namespace Go.Proofs.YtkoifikjfnbcpaaEv
open Go Go.RowKit Go.Proofs

def opsIn (id : Nat) : Code → Option (Array Oper)
  | .region j ops _ => bif Nat.beq j id then some ops else none
  | .seq a b => (match opsIn id a with | some x => some x | none => opsIn id b)
  | .cond _ a b => (match opsIn id a with | some x => some x | none => opsIn id b)
  | .block _ b => opsIn id b
  | .loop b => opsIn id b
  | _ => none
abbrev rows : Ty := .slice 24 (.slice 2 i64)
abbrev R28h : Type := Ress [rows, i64]
abbrev G28h : Type := Args [.v rows, .v i64] → Option R28h
abbrev G19h : Type := Args [.v (.slice 2 i64), .v i64] → Option (Ress [.slice 2 i64, i64])
noncomputable def o28 (i : Nat) : Array Oper := match opsIn i (bodyOf Try.f28) with | some x => x | none => #[]
noncomputable def loop28 : Code := .seq (.seq (.region 2 (o28 2) false) (.cond (.tmp 9) .skip (.exit 0))) (.seq (.block 1 (.region 4 (o28 4) false)) (.region 3 (o28 3) false))
theorem sk28 : Try.f28.body = some (.seq (.region 0 (o28 0) false) (.seq (.seq (.region 1 (o28 1) false) (.block 0 (.loop loop28))) (.seq (.region 5 (o28 5) false) .ret))) := by kernel_rfl
theorem nt28 : Try.f28.ntmps = 19 := by kernel_rfl
theorem rs28 : Try.f28.results.toList = [.tmp 4] := by kernel_rfl

def E28 (L : rows.den) (k : Int) (i : Int) : Env := [(0, .val false [.fz rows 0 true L]), (1, intE .i64 k), (5, intE .i64 i)]
theorem e28a (L : rows.den) (k : Int) : evL TT [] [] [] (.region 0 (o28 0) false) (initEnv 0 [.v rows, .v i64] (L, k, ())) (fun e => some (keepK [0, 1] e)) (fun _ _ => none) (fun _ => none) =
    some [(0, .val false [.fz rows 0 true L]), (1, intE .i64 k)] := by kernel_rfl
theorem e28b (L : rows.den) (k : Int) : evL TT [] [] [] (.region 1 (o28 1) false) [(0, .val false [.fz rows 0 true L]), (1, intE .i64 k)] (fun e => some (keepK [0, 1, 5] e)) (fun _ _ => none) (fun _ => none) =
    some (E28 L k 0) := by kernel_rfl
theorem e28c (L : rows.den) (k i : Int) : evL TT [] [] [] (.region 2 (o28 2) false) (E28 L k i) (fun e => some (keepK [0, 1, 5, 9] e)) (fun _ _ => none) (fun _ => none) =
    bif decide (L.length ≤ 9223372036854775807) then some (E28 L k i ++ [(9, boolE (decide (i < Int.ofNat L.length)))]) else none := by kernel_rfl
theorem e28d (L : rows.den) (k i : Int) : evL TT [] [] [] (.region 3 (o28 3) false) (E28 L k i) (fun e => some (keepK [0, 1, 5] e)) (fun _ _ => none) (fun _ => none) =
    some (E28 L k (IntKind.i64.wrap (i + 1))) := by kernel_rfl
theorem e28e (L : rows.den) (k i : Int) : evL TT [] [] [] (.region 5 (o28 5) false) (E28 L k i) (fun e => some (keepK [0, 1, 4] e)) (fun _ _ => none) (fun _ => none) =
    some [(0, .val false [.fz rows 0 true L]), (1, intE .i64 k), (4, intE .i64 k)] := by kernel_rfl
theorem oc28 (i : Nat) (hi : i = 0 ∨ i = 1 ∨ i = 2 ∨ i = 3 ∨ i = 5) (v0 : Value) : okCode ⟨19, true, v0⟩ (.region i (o28 i) false) = true := by
  rcases hi with rfl | rfl | rfl | rfl | rfl <;> kernel_rfl
theorem rg28 : List.range (o28 4).size = [0, 1, 2, 3, 4, 5, 6] := by kernel_rfl

end Go.Proofs.YtkoifikjfnbcpaaEv
