/- A sum as a polynomial: the code's pieces on plain data. -/
import Derived.Test.YtkoifikjfnbcpaaEvSuA
import Derived.Test.YtkoifikjfnbcpaaEvGs
set_option linter.unusedVariables false
set_option linter.unusedSimpArgs false
namespace Go.Proofs.YtkoifikjfnbcpaaEv
open Go Go.RowKit Go.Proofs

def opsAt (id : Nat) : Code → Option (Array Oper)
  | .region j ops _ => bif Nat.beq j id then some ops else none
  | .seq a b => (match opsAt id a with | some x => some x | none => opsAt id b)
  | .cond _ a b => (match opsAt id a with | some x => some x | none => opsAt id b)
  | .block _ b => opsAt id b
  | .loop b => opsAt id b
  | _ => none
noncomputable def o103 (i : Nat) : Array Oper := match opsAt i (bodyOf Try.f103) with | some x => x | none => #[]

noncomputable def tail103 : Code := .seq (.region 5 (o103 5) false) (.seq (.region 6 (o103 6) false) (.cond (.tmp 28) (.region 7 (o103 7) false) .skip))
noncomputable def body103 : Code := .seq (.region 3 (o103 3) false) (.seq (.cond (.tmp 16) .skip (.exit 0)) (.block 1 (.seq (.region 4 (o103 4) false) tail103)))
noncomputable def end103 : Code := .seq (.region 8 (o103 8) false) (.seq (.region 9 (o103 9) false) .ret)
theorem sk103 : Try.f103.body = some (.seq (.region 0 (o103 0) false) (.seq (.region 1 (o103 1) false) (.seq (.seq (.region 2 (o103 2) false) (.block 0 (.loop body103))) end103))) := by kernel_rfl

abbrev ct103 (g149 : G149) : CTab := [(149, ⟨[.v (.slice 135 term), .fn 150], [.slice 135 term], false, false, 1, g149⟩)]

/-- The frame ahead of the loop, and at its head. -/
def E0 (p v : Int) : Env := [(1, intE .i64 p), (2, intE .i64 v), (6, .box false [.fz i64 0 false (0 : Int), .fz i64 0 false (0 : Int), .rt 135 term 99 false true true []]), (7, .box false [.fz i64 0 false p, .fz i64 0 false v, .rt 135 term 195 false true true []])]
def E1 (p v : Int) (r : Nat) (o : Obj) (ts : List term.den) : Env := [(1, intE .i64 p), (2, intE .i64 v), (6, .box false [.fz i64 0 false (0 : Int), .fz i64 0 false (0 : Int), .rt 135 term 99 false true true []]), (7, .box false [.fz i64 0 false p, .fz i64 0 false v, .rt 135 term 195 false true true ts]), (14, .it r o)]
def E4 (p v : Int) (r : Nat) (o : Obj) (ts : List term.den) (k : ex.den) (x : Int) : Env := ((E1 p v r o ts).put 18 (.val true [.fz ex 0 false k])).put 19 (intE .i64 x)

theorem e103a (g149 : G149) (m : List (ex.den × i64.den)) (p v : Int) : evL TT (ct103 g149) [] [] (.region 0 (o103 0) false) (initEnv 0 [.m ex i64, .v i64, .v i64] (m, p, v, ())) (fun e => some (keepK [1, 2, 6] e)) (fun _ _ => none) (fun _ => none) =
    some [(1, intE .i64 p), (2, intE .i64 v), (6, .box false [.fz i64 0 false (0 : Int), .fz i64 0 false (0 : Int), .rt 135 term 99 false true true []])] := by kernel_rfl
theorem e103b (g149 : G149) (p v : Int) : evL TT (ct103 g149) [] [] (.region 1 (o103 1) false) [(1, intE .i64 p), (2, intE .i64 v), (6, .box false [.fz i64 0 false (0 : Int), .fz i64 0 false (0 : Int), .rt 135 term 99 false true true []])] (fun e => some (keepK [1, 2, 6, 7] e)) (fun _ _ => none) (fun _ => none) =
    some (E0 p v) := by kernel_rfl

/-- What is laid by for a number: its rest by p, not negative. -/
def cN (p x : Int) : Int := Int.tmod (w6 (Int.tmod x p + p)) p

theorem e103c (g149 : G149) (p v : Int) (r : Nat) (o : Obj) (ts : List term.den) (k : ex.den) (x : Int) :
    seqK TT (ct103 g149) (o103 4).toList [3, 4, 5] (E4 p v r o ts k x) (fun e => evL TT (ct103 g149) [] [] tail103 e (fun e => some (keepK [1, 2, 6, 7, 14] e)) (fun _ _ => none) (fun _ => none)) =
    bif !decide (p = 0) then (bif !decide (p = 0) then (bif !decide (cN p x = 0) then (bif growOk ts.length 1 then some (E1 p v r o (ts ++ [(k, cN p x, ())])) else none) else some (E1 p v r o ts)) else none) else none := by kernel_rfl

theorem e103d (g149 : G149) (p v : Int) (r : Nat) (o : Obj) (ts : List term.den) :
    evL TT (ct103 g149) [] [] end103 (E1 p v r o ts) (endK TT [.cell 6 58] [poly] true false) (fun _ _ => none) (endK TT [.cell 6 58] [poly] true false) =
    (match g149 (ts, (), ()) with | some y => some ((p, v, y.1, ()), ()) | none => none) := by kernel_rfl

end Go.Proofs.YtkoifikjfnbcpaaEv
