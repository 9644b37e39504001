/- The types of the program as plain types: the table is the program's. No condition. -/
import Derived.Test.YtkoifikjfnbcpaaChecked
import Derived.Test.YtkoifikjfnbcpaaEvMD
namespace Go.Proofs.YtkoifikjfnbcpaaEv
open Go Go.RowKit
abbrev i64 : Ty := .int .i64
abbrev u8 : Ty := .int .u8
abbrev ex : Ty := .arr 3 u8
abbrev mat : Ty := .arr 3 ex
abbrev term : Ty := .pair ex (.pair i64 .unit)
abbrev poly : Ty := .pair i64 (.pair i64 (.pair (.slice 135 term) .unit))
abbrev lterm : Ty := .pair ex (.pair i64 .unit)
abbrev lpoly : Ty := .pair i64 (.pair i64 (.pair (.slice 158 lterm) .unit))
abbrev TT : TTab := [(2, i64), (3, i64), (4, .bool), (5, u8), (22, ex), (23, mat), (24, .slice 2 i64), (27, mat), (34, .slice 24 (.slice 2 i64)), (56, .slice 135 term), (58, poly), (105, ex), (135, term), (45, .pair i64 (.pair i64 (.pair (.slice 23 mat) .unit))), (46, .pair i64 (.pair i64 (.pair (.slice 23 mat) .unit))), (51, .pair i64 (.pair i64 (.pair (.slice 27 mat) .unit))), (49, .slice 27 mat), (44, .slice 23 mat), (37, .slice 58 poly), (123, .slice 37 (.slice 58 poly)), (82, .slice 158 lterm), (84, lpoly), (158, lterm), (32, .slice 84 lpoly), (99, .slice 105 ex), (112, mapT 105 2), (113, mapT 105 2)]
theorem tt_ok : TOK Try.prog TT := tokB_ok (by kernel_rfl)
abbrev vv (t : Ty) : Sh := .val false [.fz t 0 false]
abbrev va (t : Ty) : Sh := .val true [.fz t 0 false]
abbrev bb (t : Ty) : Sh := .box false [.fz t 0 false]
abbrev vr (e : TypeId) (t : Ty) (tag : Nat) (st : Bool) : Sh := .val false [.rt e t tag false true st]
abbrev w6 (x : Int) : Int := IntKind.wrap .i64 x
abbrev w8 (x : Int) : Int := IntKind.wrap .u8 x
abbrev tn (x : Int) : Nat := Int.toNat x
abbrev ib (i n : Int) : Bool := decide ((0 : Int) ≤ i) && decide (i < n)
theorem mixed : Try.prog.follows .mixedOrders = true := by kernel_rfl
end Go.Proofs.YtkoifikjfnbcpaaEv
