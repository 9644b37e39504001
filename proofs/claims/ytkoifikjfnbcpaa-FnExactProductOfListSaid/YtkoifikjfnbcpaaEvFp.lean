/- What functions of the program come to, printed by a program of this work: loops by their steps, calls by what is known of them; each text is checked by the kernel. No condition. -/
import Derived.Test.YtkoifikjfnbcpaaEvGs
set_option linter.unusedVariables false
namespace Go.Proofs.YtkoifikjfnbcpaaEv
open Go Go.RowKit
/-! impl.monomial -/
abbrev R148 : Type := Ress [poly]
abbrev G148 : Type := Args [.v i64, .v i64, .v ex, .v i64] → Option R148
abbrev kp148 : List (Nat × List Nat) := [(0, [6, 3, 0, 1, 8]), (1, [8])]
abbrev ct148 (g103 : G103) : CTab := [(103, ⟨[.m ex i64, .v i64, .v i64], [poly], true, false, 0, g103⟩)]
abbrev kr148 : Env → Option R148 := endK TT [.cell 8 58] [poly] true false
def fn148 (g103 : G103) (F : Nat) (x : Args [.v i64, .v i64, .v ex, .v i64]) : Option R148 :=
  match x with
  | (x0, x1, x2, x3, _) => (match (g103 (((x2, x3) :: []), (x0, (x1, ())))) with | some r7 => (some ((r7.1.1, (r7.1.2.1, (r7.1.2.2.1, ()))), ())) | none => none)
theorem ev148 (g103 : G103) (F : Nat) (x : Args [.v i64, .v i64, .v ex, .v i64]) : fnK TT (ct148 g103 ) kp148 [poly] [] (bodyOf Try.f148) [.cell 8 58] [.v i64, .v i64, .v ex, .v i64] true false x = fn148 g103 F x := by
  obtain ⟨x0, x1, x2, x3, _⟩ := x
  kernel_rfl
theorem ok148 (g103 : G103) (hK : KOK Try.prog (ct148 g103 )) (cf : G148) (h : ∀ x y, cf x = some y → ∃ F, fn148 g103 F x = some y) : KOne Try.prog 148 ⟨[.v i64, .v i64, .v ex, .v i64], [poly], true, false, 0, cf⟩ :=
  fn_one rfl (c := bodyOf Try.f148) mixed tt_ok hK Try.func148 (by kernel_rfl) (by kernel_rfl) (Nat.le_of_ble_eq_true (by kernel_rfl)) (by decide) fun x y hxy => by
    obtain ⟨F, hF⟩ := h x y hxy
    exact ⟨[], LTOK_by (l := []) (by kernel_rfl) trivial, (ev148 g103 F x).trans hF⟩
/-! impl.constant -/
abbrev R102 : Type := Ress [poly]
abbrev G102 : Type := Args [.v i64, .v i64, .v i64] → Option R102
abbrev kp102 : List (Nat × List Nat) := [(0, [0, 1, 2, 6]), (1, [6])]
abbrev ct102 (g148 : G148) : CTab := [(148, ⟨[.v i64, .v i64, .v ex, .v i64], [poly], true, false, 0, g148⟩)]
abbrev kr102 : Env → Option R102 := endK TT [.cell 6 58] [poly] true false
def fn102 (g148 : G148) (F : Nat) (x : Args [.v i64, .v i64, .v i64]) : Option R102 :=
  match x with
  | (x0, x1, x2, _) => (match (g148 (x0, (x1, ((tup Int (0 : Int) 3), (x2, ()))))) with | some r6 => (some ((r6.1.1, (r6.1.2.1, (r6.1.2.2.1, ()))), ())) | none => none)
theorem ev102 (g148 : G148) (F : Nat) (x : Args [.v i64, .v i64, .v i64]) : fnK TT (ct102 g148 ) kp102 [poly] [] (bodyOf Try.f102) [.cell 6 58] [.v i64, .v i64, .v i64] true false x = fn102 g148 F x := by
  obtain ⟨x0, x1, x2, _⟩ := x
  kernel_rfl
theorem ok102 (g148 : G148) (hK : KOK Try.prog (ct102 g148 )) (cf : G102) (h : ∀ x y, cf x = some y → ∃ F, fn102 g148 F x = some y) : KOne Try.prog 102 ⟨[.v i64, .v i64, .v i64], [poly], true, false, 0, cf⟩ :=
  fn_one rfl (c := bodyOf Try.f102) mixed tt_ok hK Try.func102 (by kernel_rfl) (by kernel_rfl) (Nat.le_of_ble_eq_true (by kernel_rfl)) (by decide) fun x y hxy => by
    obtain ⟨F, hF⟩ := h x y hxy
    exact ⟨[], LTOK_by (l := []) (by kernel_rfl) trivial, (ev102 g148 F x).trans hF⟩
/-! impl.zeroPoly -/
abbrev R104 : Type := Ress [poly]
abbrev G104 : Type := Args [.v i64, .v i64] → Option R104
abbrev kp104 : List (Nat × List Nat) := [(0, [0, 1, 4]), (1, [4])]
abbrev ct104 : CTab := []
abbrev kr104 : Env → Option R104 := endK TT [.cell 4 58] [poly] true false
def fn104 (F : Nat) (x : Args [.v i64, .v i64]) : Option R104 :=
  match x with
  | (x0, x1, _) => (some ((x0, (x1, ((Ty.dflt (.pair (.int .i64) (.pair (.int .i64) (.pair (.slice 135 (.pair (.arr 3 (.int .u8)) (.pair (.int .i64) .unit))) .unit)))).2.2.1, ()))), ()))
theorem ev104 (F : Nat) (x : Args [.v i64, .v i64]) : fnK TT (ct104 ) kp104 [poly] [] (bodyOf Try.f104) [.cell 4 58] [.v i64, .v i64] true false x = fn104 F x := by
  obtain ⟨x0, x1, _⟩ := x
  kernel_rfl
theorem ok104 (hK : KOK Try.prog (ct104 )) (cf : G104) (h : ∀ x y, cf x = some y → ∃ F, fn104 F x = some y) : KOne Try.prog 104 ⟨[.v i64, .v i64], [poly], true, false, 0, cf⟩ :=
  fn_one rfl (c := bodyOf Try.f104) mixed tt_ok hK Try.func104 (by kernel_rfl) (by kernel_rfl) (Nat.le_of_ble_eq_true (by kernel_rfl)) (by decide) fun x y hxy => by
    obtain ⟨F, hF⟩ := h x y hxy
    exact ⟨[], LTOK_by (l := []) (by kernel_rfl) trivial, (ev104 F x).trans hF⟩
/-! impl.add -/
abbrev R105 : Type := Ress [poly]
abbrev G105 : Type := Args [.v poly, .v poly, .v i64] → Option R105
abbrev kp105 : List (Nat × List Nat) := [(0, [4, 2, 3, 6]), (1, [7, 4, 2, 3, 6]), (2, [16, 7, 14, 4, 2, 3, 6, 15]), (3, [17, 16, 7, 14, 4, 2, 3, 6, 15]), (4, [9, 16, 7, 14, 4, 2, 3, 6, 15]), (5, [16, 7, 14, 4, 2, 3, 6, 15]), (6, [16, 7, 14, 4, 2, 3, 6, 15]), (7, [33, 2, 7, 31, 3, 6, 32]), (8, [34, 33, 2, 7, 31, 3, 6, 32]), (9, [11, 33, 2, 7, 31, 3, 6, 32]), (10, [33, 2, 7, 31, 3, 6, 32]), (11, [33, 2, 7, 31, 3, 6, 32]), (12, [6])]
abbrev ct105 (g103 : G103) : CTab := [(103, ⟨[.m ex i64, .v i64, .v i64], [poly], true, false, 0, g103⟩)]
abbrev kr105 : Env → Option R105 := endK TT [.cell 6 58] [poly] true false
abbrev sh105_3 : Shape := [(2, vv i64), (3, .box false [.fz i64 0 false, .fz i64 0 false, .fz (.slice 135 term) 0 true]), (4, .box false [.fz i64 0 false, .fz i64 0 false, .fz (.slice 135 term) 0 true]), (6, .box false [.fz i64 0 false, .fz i64 0 false, .rt 135 term 99 false true true]), (7, .mp 12 ex i64), (14, .val false [.fz (.slice 135 term) 0 true]), (15, vv i64), (16, vv i64)]
def st105_3 (g103 : G103) (F : Nat) (s : ShVal sh105_3) (k kx : ShVal sh105_3 → Option R105) : Option R105 :=
  match s with
  | ((t2, _), (t3_0, t3_1, t3_2, _), (t4_0, t4_1, t4_2, _), (t6_0, t6_1, t6_2, _), t7, (t14, _), (t15, _), (t16, _), _) => (bif decide (t16 < t15) then (bif ib t16 (Int.ofNat (List.length t14)) then k ((t2, ()), ((t3_0, (t3_1, (t3_2, ()))), ((t4_0, (t4_1, (t4_2, ()))), ((t6_0, (t6_1, (t6_2, ()))), ((((List.getD t14 (tn t16) (Ty.dflt (.pair (.arr 3 (.int .u8)) (.pair (.int .i64) .unit)))).1, (w6 ((mget (.arr 3 (.int .u8)) (.int .i64) t7 (List.getD t14 (tn t16) (Ty.dflt (.pair (.arr 3 (.int .u8)) (.pair (.int .i64) .unit)))).1) + (List.getD t14 (tn t16) (Ty.dflt (.pair (.arr 3 (.int .u8)) (.pair (.int .i64) .unit)))).2.1))) :: t7), ((t14, ()), ((t15, ()), (((w6 (t16 + (1 : Int))), ()), ())))))))) else none) else kx ((t2, ()), ((t3_0, (t3_1, (t3_2, ()))), ((t4_0, (t4_1, (t4_2, ()))), ((t6_0, (t6_1, (t6_2, ()))), (t7, ((t14, ()), ((t15, ()), ((t16, ()), ())))))))))
def ru105_3 (g103 : G103) (F : Nat) (s : ShVal sh105_3) (kx : ShVal sh105_3 → Option R105) : Option R105 := iter (fun s k => st105_3 g103 F s k kx) F s
abbrev ls105_3 (g103 : G103) (F : Nat) : LS R105 := ⟨sh105_3, 0, ru105_3 g103 F⟩
abbrev sh105_8 : Shape := [(2, vv i64), (3, .box false [.fz i64 0 false, .fz i64 0 false, .fz (.slice 135 term) 0 true]), (6, .box false [.fz i64 0 false, .fz i64 0 false, .rt 135 term 99 false true true]), (7, .mp 12 ex i64), (31, .val false [.fz (.slice 135 term) 0 true]), (32, vv i64), (33, vv i64)]
def st105_8 (g103 : G103) (F : Nat) (s : ShVal sh105_8) (k kx : ShVal sh105_8 → Option R105) : Option R105 :=
  match s with
  | ((t2, _), (t3_0, t3_1, t3_2, _), (t6_0, t6_1, t6_2, _), t7, (t31, _), (t32, _), (t33, _), _) => (bif decide (t33 < t32) then (bif ib t33 (Int.ofNat (List.length t31)) then k ((t2, ()), ((t3_0, (t3_1, (t3_2, ()))), ((t6_0, (t6_1, (t6_2, ()))), ((((List.getD t31 (tn t33) (Ty.dflt (.pair (.arr 3 (.int .u8)) (.pair (.int .i64) .unit)))).1, (w6 ((mget (.arr 3 (.int .u8)) (.int .i64) t7 (List.getD t31 (tn t33) (Ty.dflt (.pair (.arr 3 (.int .u8)) (.pair (.int .i64) .unit)))).1) + (w6 (t2 * (List.getD t31 (tn t33) (Ty.dflt (.pair (.arr 3 (.int .u8)) (.pair (.int .i64) .unit)))).2.1))))) :: t7), ((t31, ()), ((t32, ()), (((w6 (t33 + (1 : Int))), ()), ()))))))) else none) else kx ((t2, ()), ((t3_0, (t3_1, (t3_2, ()))), ((t6_0, (t6_1, (t6_2, ()))), (t7, ((t31, ()), ((t32, ()), ((t33, ()), ()))))))))
def ru105_8 (g103 : G103) (F : Nat) (s : ShVal sh105_8) (kx : ShVal sh105_8 → Option R105) : Option R105 := iter (fun s k => st105_8 g103 F s k kx) F s
abbrev ls105_8 (g103 : G103) (F : Nat) : LS R105 := ⟨sh105_8, 2, ru105_8 g103 F⟩
def fn105 (g103 : G103) (F : Nat) (x : Args [.v poly, .v poly, .v i64]) : Option R105 :=
  match x with
  | (x0, x1, x2, _) => (bif decide ((List.length x0.2.2.1) ≤ 9223372036854775807) then (ru105_3 g103 F ((x2, ()), ((x0.1, (x0.2.1, (x0.2.2.1, ()))), ((x1.1, (x1.2.1, (x1.2.2.1, ()))), (((Ty.dflt (.pair (.int .i64) (.pair (.int .i64) (.pair (.slice 135 (.pair (.arr 3 (.int .u8)) (.pair (.int .i64) .unit))) .unit)))).1, ((Ty.dflt (.pair (.int .i64) (.pair (.int .i64) (.pair (.slice 135 (.pair (.arr 3 (.int .u8)) (.pair (.int .i64) .unit))) .unit)))).2.1, ((Ty.dflt (.pair (.int .i64) (.pair (.int .i64) (.pair (.slice 135 (.pair (.arr 3 (.int .u8)) (.pair (.int .i64) .unit))) .unit)))).2.2.1, ()))), ([], ((x0.2.2.1, ()), (((Int.ofNat (List.length x0.2.2.1)), ()), (((0 : Int), ()), ())))))))) (fun s' => match s' with | ((t2, _), (t3_0, t3_1, t3_2, _), (t4_0, t4_1, t4_2, _), (t6_0, t6_1, t6_2, _), t7, (t14, _), (t15, _), (t16, _), _) => (bif decide ((List.length t4_2) ≤ 9223372036854775807) then (ru105_8 g103 F ((t2, ()), ((t3_0, (t3_1, (t3_2, ()))), ((t6_0, (t6_1, (t6_2, ()))), (t7, ((t4_2, ()), (((Int.ofNat (List.length t4_2)), ()), (((0 : Int), ()), ()))))))) (fun s' => match s' with | ((t2, _), (t3_0, t3_1, t3_2, _), (t6_0, t6_1, t6_2, _), t7, (t31, _), (t32, _), (t33, _), _) => (match (g103 (t7, (t3_0, (t3_1, ())))) with | some r34 => (some ((r34.1.1, (r34.1.2.1, (r34.1.2.2.1, ()))), ())) | none => none))) else none))) else none)
theorem ev105_3 (g103 : G103) (F : Nat) (s : ShVal sh105_3) (k kx : ShVal sh105_3 → Option R105) : evL TT (ct105 g103 ) kp105 [] (loopOf Try.f105 3) (envOf sh105_3 s) (fitK sh105_3 k) (fun j e => bif Nat.beq j 0 then fitK sh105_3 kx e else none) kr105 = st105_3 g103 F s k kx := by
  obtain ⟨⟨t2, _⟩, ⟨t3_0, t3_1, t3_2, _⟩, ⟨t4_0, t4_1, t4_2, _⟩, ⟨t6_0, t6_1, t6_2, _⟩, t7, ⟨t14, _⟩, ⟨t15, _⟩, ⟨t16, _⟩, _⟩ := s
  kernel_rfl
theorem ok105_3 (g103 : G103) (F : Nat) (hK : KOK Try.prog (ct105 g103 )) : LSOK Try.prog ⟨55, false, undef⟩ (ls105_3 g103 F) (loopOf Try.f105 3) kr105 :=
  loop_ok (st105_3 g103 F) mixed tt_ok hK (by kernel_rfl) (LTOK_by (l := []) (by kernel_rfl) trivial) (ev105_3 g103 F)
theorem ev105_8 (g103 : G103) (F : Nat) (s : ShVal sh105_8) (k kx : ShVal sh105_8 → Option R105) : evL TT (ct105 g103 ) kp105 [] (loopOf Try.f105 8) (envOf sh105_8 s) (fitK sh105_8 k) (fun j e => bif Nat.beq j 2 then fitK sh105_8 kx e else none) kr105 = st105_8 g103 F s k kx := by
  obtain ⟨⟨t2, _⟩, ⟨t3_0, t3_1, t3_2, _⟩, ⟨t6_0, t6_1, t6_2, _⟩, t7, ⟨t31, _⟩, ⟨t32, _⟩, ⟨t33, _⟩, _⟩ := s
  kernel_rfl
theorem ok105_8 (g103 : G103) (F : Nat) (hK : KOK Try.prog (ct105 g103 )) : LSOK Try.prog ⟨55, false, undef⟩ (ls105_8 g103 F) (loopOf Try.f105 8) kr105 :=
  loop_ok (st105_8 g103 F) mixed tt_ok hK (by kernel_rfl) (LTOK_by (l := []) (by kernel_rfl) trivial) (ev105_8 g103 F)
theorem ev105 (g103 : G103) (F : Nat) (x : Args [.v poly, .v poly, .v i64]) : fnK TT (ct105 g103 ) kp105 [poly] [(3, ls105_3 g103 F), (8, ls105_8 g103 F)] (bodyOf Try.f105) [.cell 6 58] [.v poly, .v poly, .v i64] true false x = fn105 g103 F x := by
  obtain ⟨x0, x1, x2, _⟩ := x
  kernel_rfl
theorem ok105 (g103 : G103) (hK : KOK Try.prog (ct105 g103 )) (cf : G105) (h : ∀ x y, cf x = some y → ∃ F, fn105 g103 F x = some y) : KOne Try.prog 105 ⟨[.v poly, .v poly, .v i64], [poly], true, false, 0, cf⟩ :=
  fn_one rfl (c := bodyOf Try.f105) mixed tt_ok hK Try.func105 (by kernel_rfl) (by kernel_rfl) (Nat.le_of_ble_eq_true (by kernel_rfl)) (by decide) fun x y hxy => by
    obtain ⟨F, hF⟩ := h x y hxy
    exact ⟨[(3, ls105_3 g103 F), (8, ls105_8 g103 F)], LTOK_by (l := [loopOf Try.f105 3, loopOf Try.f105 8]) (by kernel_rfl) ⟨ls_at (by kernel_rfl) (ok105_3 g103 F hK), ⟨ls_at (by kernel_rfl) (ok105_8 g103 F hK), trivial⟩⟩, (ev105 g103 F x).trans hF⟩
/-! impl.mul -/
abbrev R106 : Type := Ress [poly]
abbrev G106 : Type := Args [.v poly, .v poly] → Option R106
abbrev kp106 : List (Nat × List Nat) := [(0, [2, 3, 4]), (1, [5, 2, 3, 4]), (2, [15, 5, 2, 3, 13, 4, 14]), (3, [16, 2, 5, 15, 3, 13, 4, 14]), (4, [2, 7, 5, 15, 3, 13, 4, 14]), (5, [22, 2, 7, 5, 20, 15, 3, 13, 4, 14, 21]), (6, [23, 22, 2, 7, 5, 20, 15, 3, 13, 4, 14, 21]), (7, [9, 22, 2, 7, 5, 20, 15, 3, 13, 4, 14, 21]), (8, [10, 9, 22, 2, 7, 5, 20, 15, 3, 13, 4, 14, 21]), (9, [22, 2, 7, 5, 20, 15, 3, 13, 4, 14, 21]), (10, [22, 2, 7, 5, 20, 15, 3, 13, 4, 14, 21]), (11, [15, 5, 2, 3, 13, 4, 14]), (12, [4])]
abbrev ct106 (g103 : G103) : CTab := [(103, ⟨[.m ex i64, .v i64, .v i64], [poly], true, false, 0, g103⟩)]
abbrev kr106 : Env → Option R106 := endK TT [.cell 4 58] [poly] true false
abbrev sh106_6 : Shape := [(2, .box false [.fz i64 0 false, .fz i64 0 false, .fz (.slice 135 term) 0 true]), (3, .box false [.fz i64 0 false, .fz i64 0 false, .fz (.slice 135 term) 0 true]), (4, .box false [.fz i64 0 false, .fz i64 0 false, .rt 135 term 67 false true true]), (5, .mp 11 ex i64), (7, .box false [.fz ex 0 false, .fz i64 0 false]), (13, .val false [.fz (.slice 135 term) 0 true]), (14, vv i64), (15, vv i64), (20, .val false [.fz (.slice 135 term) 0 true]), (21, vv i64), (22, vv i64)]
def st106_6 (g103 : G103) (F : Nat) (s : ShVal sh106_6) (k kx : ShVal sh106_6 → Option R106) : Option R106 :=
  match s with
  | ((t2_0, t2_1, t2_2, _), (t3_0, t3_1, t3_2, _), (t4_0, t4_1, t4_2, _), t5, (t7_0, t7_1, _), (t13, _), (t14, _), (t15, _), (t20, _), (t21, _), (t22, _), _) => (bif decide (t22 < t21) then (bif ib t22 (Int.ofNat (List.length t20)) then (bif (!decide (t2_0 = (0 : Int))) then k ((t2_0, (t2_1, (t2_2, ()))), ((t3_0, (t3_1, (t3_2, ()))), ((t4_0, (t4_1, (t4_2, ()))), ((((tset (w8 ((tget (0 : Int) 3 t7_0 (tn (2 : Int))) + (tget (0 : Int) 3 (List.getD t20 (tn t22) (Ty.dflt (.pair (.arr 3 (.int .u8)) (.pair (.int .i64) .unit)))).1 (tn (2 : Int))))) 3 (tset (w8 ((tget (0 : Int) 3 t7_0 (tn (1 : Int))) + (tget (0 : Int) 3 (List.getD t20 (tn t22) (Ty.dflt (.pair (.arr 3 (.int .u8)) (.pair (.int .i64) .unit)))).1 (tn (1 : Int))))) 3 (tset (w8 ((tget (0 : Int) 3 t7_0 (tn (0 : Int))) + (tget (0 : Int) 3 (List.getD t20 (tn t22) (Ty.dflt (.pair (.arr 3 (.int .u8)) (.pair (.int .i64) .unit)))).1 (tn (0 : Int))))) 3 (tup Int (0 : Int) 3) 0) 1) 2), (Int.tmod (w6 ((mget (.arr 3 (.int .u8)) (.int .i64) t5 (tset (w8 ((tget (0 : Int) 3 t7_0 (tn (2 : Int))) + (tget (0 : Int) 3 (List.getD t20 (tn t22) (Ty.dflt (.pair (.arr 3 (.int .u8)) (.pair (.int .i64) .unit)))).1 (tn (2 : Int))))) 3 (tset (w8 ((tget (0 : Int) 3 t7_0 (tn (1 : Int))) + (tget (0 : Int) 3 (List.getD t20 (tn t22) (Ty.dflt (.pair (.arr 3 (.int .u8)) (.pair (.int .i64) .unit)))).1 (tn (1 : Int))))) 3 (tset (w8 ((tget (0 : Int) 3 t7_0 (tn (0 : Int))) + (tget (0 : Int) 3 (List.getD t20 (tn t22) (Ty.dflt (.pair (.arr 3 (.int .u8)) (.pair (.int .i64) .unit)))).1 (tn (0 : Int))))) 3 (tup Int (0 : Int) 3) 0) 1) 2)) + (w6 (t7_1 * (List.getD t20 (tn t22) (Ty.dflt (.pair (.arr 3 (.int .u8)) (.pair (.int .i64) .unit)))).2.1)))) t2_0)) :: t5), ((t7_0, (t7_1, ())), ((t13, ()), ((t14, ()), ((t15, ()), ((t20, ()), ((t21, ()), (((w6 (t22 + (1 : Int))), ()), ()))))))))))) else none) else none) else kx ((t2_0, (t2_1, (t2_2, ()))), ((t3_0, (t3_1, (t3_2, ()))), ((t4_0, (t4_1, (t4_2, ()))), (t5, ((t7_0, (t7_1, ())), ((t13, ()), ((t14, ()), ((t15, ()), ((t20, ()), ((t21, ()), ((t22, ()), ()))))))))))))
def ru106_6 (g103 : G103) (F : Nat) (s : ShVal sh106_6) (kx : ShVal sh106_6 → Option R106) : Option R106 := iter (fun s k => st106_6 g103 F s k kx) F s
abbrev ls106_6 (g103 : G103) (F : Nat) : LS R106 := ⟨sh106_6, 2, ru106_6 g103 F⟩
abbrev sh106_3 : Shape := [(2, .box false [.fz i64 0 false, .fz i64 0 false, .fz (.slice 135 term) 0 true]), (3, .box false [.fz i64 0 false, .fz i64 0 false, .fz (.slice 135 term) 0 true]), (4, .box false [.fz i64 0 false, .fz i64 0 false, .rt 135 term 67 false true true]), (5, .mp 11 ex i64), (13, .val false [.fz (.slice 135 term) 0 true]), (14, vv i64), (15, vv i64)]
def st106_3 (g103 : G103) (F : Nat) (s : ShVal sh106_3) (k kx : ShVal sh106_3 → Option R106) : Option R106 :=
  match s with
  | ((t2_0, t2_1, t2_2, _), (t3_0, t3_1, t3_2, _), (t4_0, t4_1, t4_2, _), t5, (t13, _), (t14, _), (t15, _), _) => (bif decide (t15 < t14) then (bif ib t15 (Int.ofNat (List.length t13)) then (bif decide ((List.length t3_2) ≤ 9223372036854775807) then (ru106_6 g103 F ((t2_0, (t2_1, (t2_2, ()))), ((t3_0, (t3_1, (t3_2, ()))), ((t4_0, (t4_1, (t4_2, ()))), (t5, (((List.getD t13 (tn t15) (Ty.dflt (.pair (.arr 3 (.int .u8)) (.pair (.int .i64) .unit)))).1, ((List.getD t13 (tn t15) (Ty.dflt (.pair (.arr 3 (.int .u8)) (.pair (.int .i64) .unit)))).2.1, ())), ((t13, ()), ((t14, ()), ((t15, ()), ((t3_2, ()), (((Int.ofNat (List.length t3_2)), ()), (((0 : Int), ()), ()))))))))))) (fun s' => match s' with | ((t2_0, t2_1, t2_2, _), (t3_0, t3_1, t3_2, _), (t4_0, t4_1, t4_2, _), t5, (t7_0, t7_1, _), (t13, _), (t14, _), (t15, _), (t20, _), (t21, _), (t22, _), _) => k ((t2_0, (t2_1, (t2_2, ()))), ((t3_0, (t3_1, (t3_2, ()))), ((t4_0, (t4_1, (t4_2, ()))), (t5, ((t13, ()), ((t14, ()), (((w6 (t15 + (1 : Int))), ()), ()))))))))) else none) else none) else kx ((t2_0, (t2_1, (t2_2, ()))), ((t3_0, (t3_1, (t3_2, ()))), ((t4_0, (t4_1, (t4_2, ()))), (t5, ((t13, ()), ((t14, ()), ((t15, ()), ()))))))))
def ru106_3 (g103 : G103) (F : Nat) (s : ShVal sh106_3) (kx : ShVal sh106_3 → Option R106) : Option R106 := iter (fun s k => st106_3 g103 F s k kx) F s
abbrev ls106_3 (g103 : G103) (F : Nat) : LS R106 := ⟨sh106_3, 0, ru106_3 g103 F⟩
def fn106 (g103 : G103) (F : Nat) (x : Args [.v poly, .v poly]) : Option R106 :=
  match x with
  | (x0, x1, _) => (bif decide ((List.length x0.2.2.1) ≤ 9223372036854775807) then (ru106_3 g103 F ((x0.1, (x0.2.1, (x0.2.2.1, ()))), ((x1.1, (x1.2.1, (x1.2.2.1, ()))), (((Ty.dflt (.pair (.int .i64) (.pair (.int .i64) (.pair (.slice 135 (.pair (.arr 3 (.int .u8)) (.pair (.int .i64) .unit))) .unit)))).1, ((Ty.dflt (.pair (.int .i64) (.pair (.int .i64) (.pair (.slice 135 (.pair (.arr 3 (.int .u8)) (.pair (.int .i64) .unit))) .unit)))).2.1, ((Ty.dflt (.pair (.int .i64) (.pair (.int .i64) (.pair (.slice 135 (.pair (.arr 3 (.int .u8)) (.pair (.int .i64) .unit))) .unit)))).2.2.1, ()))), ([], ((x0.2.2.1, ()), (((Int.ofNat (List.length x0.2.2.1)), ()), (((0 : Int), ()), ()))))))) (fun s' => match s' with | ((t2_0, t2_1, t2_2, _), (t3_0, t3_1, t3_2, _), (t4_0, t4_1, t4_2, _), t5, (t13, _), (t14, _), (t15, _), _) => (match (g103 (t5, (t2_0, (t2_1, ())))) with | some r20 => (some ((r20.1.1, (r20.1.2.1, (r20.1.2.2.1, ()))), ())) | none => none))) else none)
theorem ev106_6 (g103 : G103) (F : Nat) (s : ShVal sh106_6) (k kx : ShVal sh106_6 → Option R106) : evL TT (ct106 g103 ) kp106 [] (loopOf Try.f106 6) (envOf sh106_6 s) (fitK sh106_6 k) (fun j e => bif Nat.beq j 2 then fitK sh106_6 kx e else none) kr106 = st106_6 g103 F s k kx := by
  obtain ⟨⟨t2_0, t2_1, t2_2, _⟩, ⟨t3_0, t3_1, t3_2, _⟩, ⟨t4_0, t4_1, t4_2, _⟩, t5, ⟨t7_0, t7_1, _⟩, ⟨t13, _⟩, ⟨t14, _⟩, ⟨t15, _⟩, ⟨t20, _⟩, ⟨t21, _⟩, ⟨t22, _⟩, _⟩ := s
  kernel_rfl
theorem ok106_6 (g103 : G103) (F : Nat) (hK : KOK Try.prog (ct106 g103 )) : LSOK Try.prog ⟨70, false, undef⟩ (ls106_6 g103 F) (loopOf Try.f106 6) kr106 :=
  loop_ok (st106_6 g103 F) mixed tt_ok hK (by kernel_rfl) (LTOK_by (l := []) (by kernel_rfl) trivial) (ev106_6 g103 F)
theorem ev106_3 (g103 : G103) (F : Nat) (s : ShVal sh106_3) (k kx : ShVal sh106_3 → Option R106) : evL TT (ct106 g103 ) kp106 [(6, ls106_6 g103 F)] (loopOf Try.f106 3) (envOf sh106_3 s) (fitK sh106_3 k) (fun j e => bif Nat.beq j 0 then fitK sh106_3 kx e else none) kr106 = st106_3 g103 F s k kx := by
  obtain ⟨⟨t2_0, t2_1, t2_2, _⟩, ⟨t3_0, t3_1, t3_2, _⟩, ⟨t4_0, t4_1, t4_2, _⟩, t5, ⟨t13, _⟩, ⟨t14, _⟩, ⟨t15, _⟩, _⟩ := s
  kernel_rfl
theorem ok106_3 (g103 : G103) (F : Nat) (hK : KOK Try.prog (ct106 g103 )) : LSOK Try.prog ⟨70, false, undef⟩ (ls106_3 g103 F) (loopOf Try.f106 3) kr106 :=
  loop_ok (st106_3 g103 F) mixed tt_ok hK (by kernel_rfl) (LTOK_by (l := [loopOf Try.f106 6]) (by kernel_rfl) ⟨ls_at (by kernel_rfl) (ok106_6 g103 F hK), trivial⟩) (ev106_3 g103 F)
theorem ev106 (g103 : G103) (F : Nat) (x : Args [.v poly, .v poly]) : fnK TT (ct106 g103 ) kp106 [poly] [(3, ls106_3 g103 F)] (bodyOf Try.f106) [.cell 4 58] [.v poly, .v poly] true false x = fn106 g103 F x := by
  obtain ⟨x0, x1, _⟩ := x
  kernel_rfl
theorem ok106 (g103 : G103) (hK : KOK Try.prog (ct106 g103 )) (cf : G106) (h : ∀ x y, cf x = some y → ∃ F, fn106 g103 F x = some y) : KOne Try.prog 106 ⟨[.v poly, .v poly], [poly], true, false, 0, cf⟩ :=
  fn_one rfl (c := bodyOf Try.f106) mixed tt_ok hK Try.func106 (by kernel_rfl) (by kernel_rfl) (Nat.le_of_ble_eq_true (by kernel_rfl)) (by decide) fun x y hxy => by
    obtain ⟨F, hF⟩ := h x y hxy
    exact ⟨[(3, ls106_3 g103 F)], LTOK_by (l := [loopOf Try.f106 3]) (by kernel_rfl) ⟨ls_at (by kernel_rfl) (ok106_3 g103 F hK), trivial⟩, (ev106 g103 F x).trans hF⟩
/-! impl.derivative -/
abbrev R124 : Type := Ress [poly]
abbrev G124 : Type := Args [.v poly, .v i64] → Option R124
abbrev kp124 : List (Nat × List Nat) := [(0, [1, 2, 4]), (1, [1, 5, 2, 4]), (2, [13, 1, 5, 11, 2, 4, 12]), (3, [14, 13, 1, 5, 11, 2, 4, 12]), (4, [7, 13, 1, 5, 11, 2, 4, 12]), (5, [8, 7, 13, 1, 5, 11, 2, 4, 12]), (6, [22, 8, 7, 13, 1, 5, 11, 2, 4, 12]), (7, [8, 7, 13, 1, 5, 11, 2, 4, 12]), (8, [13, 1, 5, 11, 2, 4, 12]), (9, [13, 1, 5, 11, 2, 4, 12]), (10, [4])]
abbrev ct124 (g103 : G103) : CTab := [(103, ⟨[.m ex i64, .v i64, .v i64], [poly], true, false, 0, g103⟩)]
abbrev kr124 : Env → Option R124 := endK TT [.cell 4 58] [poly] true false
abbrev sh124_3 : Shape := [(1, vv i64), (2, .box false [.fz i64 0 false, .fz i64 0 false, .fz (.slice 135 term) 0 true]), (4, .box false [.fz i64 0 false, .fz i64 0 false, .rt 135 term 67 false true true]), (5, .mp 9 ex i64), (11, .val false [.fz (.slice 135 term) 0 true]), (12, vv i64), (13, vv i64)]
def st124_3 (g103 : G103) (F : Nat) (s : ShVal sh124_3) (k kx : ShVal sh124_3 → Option R124) : Option R124 :=
  match s with
  | ((t1, _), (t2_0, t2_1, t2_2, _), (t4_0, t4_1, t4_2, _), t5, (t11, _), (t12, _), (t13, _), _) => (bif decide (t13 < t12) then (bif ib t13 (Int.ofNat (List.length t11)) then (bif ib t1 (Int.ofNat 3) then (bif decide ((0 : Int) < (tget (0 : Int) 3 (List.getD t11 (tn t13) (Ty.dflt (.pair (.arr 3 (.int .u8)) (.pair (.int .i64) .unit)))).1 (tn t1))) then (bif ib t1 (Int.ofNat 3) then (bif ib t1 (Int.ofNat 3) then (bif ib t1 (Int.ofNat 3) then k ((t1, ()), ((t2_0, (t2_1, (t2_2, ()))), ((t4_0, (t4_1, (t4_2, ()))), ((((tset (w8 ((tget (0 : Int) 3 (List.getD t11 (tn t13) (Ty.dflt (.pair (.arr 3 (.int .u8)) (.pair (.int .i64) .unit)))).1 (tn t1)) - (1 : Int))) 3 (List.getD t11 (tn t13) (Ty.dflt (.pair (.arr 3 (.int .u8)) (.pair (.int .i64) .unit)))).1 (tn t1)), (w6 ((mget (.arr 3 (.int .u8)) (.int .i64) t5 (tset (w8 ((tget (0 : Int) 3 (List.getD t11 (tn t13) (Ty.dflt (.pair (.arr 3 (.int .u8)) (.pair (.int .i64) .unit)))).1 (tn t1)) - (1 : Int))) 3 (List.getD t11 (tn t13) (Ty.dflt (.pair (.arr 3 (.int .u8)) (.pair (.int .i64) .unit)))).1 (tn t1))) + (w6 ((List.getD t11 (tn t13) (Ty.dflt (.pair (.arr 3 (.int .u8)) (.pair (.int .i64) .unit)))).2.1 * (w6 (tget (0 : Int) 3 (List.getD t11 (tn t13) (Ty.dflt (.pair (.arr 3 (.int .u8)) (.pair (.int .i64) .unit)))).1 (tn t1)))))))) :: t5), ((t11, ()), ((t12, ()), (((w6 (t13 + (1 : Int))), ()), ()))))))) else none) else none) else none) else k ((t1, ()), ((t2_0, (t2_1, (t2_2, ()))), ((t4_0, (t4_1, (t4_2, ()))), (t5, ((t11, ()), ((t12, ()), (((w6 (t13 + (1 : Int))), ()), ())))))))) else none) else none) else kx ((t1, ()), ((t2_0, (t2_1, (t2_2, ()))), ((t4_0, (t4_1, (t4_2, ()))), (t5, ((t11, ()), ((t12, ()), ((t13, ()), ()))))))))
def ru124_3 (g103 : G103) (F : Nat) (s : ShVal sh124_3) (kx : ShVal sh124_3 → Option R124) : Option R124 := iter (fun s k => st124_3 g103 F s k kx) F s
abbrev ls124_3 (g103 : G103) (F : Nat) : LS R124 := ⟨sh124_3, 0, ru124_3 g103 F⟩
def fn124 (g103 : G103) (F : Nat) (x : Args [.v poly, .v i64]) : Option R124 :=
  match x with
  | (x0, x1, _) => (bif decide ((List.length x0.2.2.1) ≤ 9223372036854775807) then (ru124_3 g103 F ((x1, ()), ((x0.1, (x0.2.1, (x0.2.2.1, ()))), (((Ty.dflt (.pair (.int .i64) (.pair (.int .i64) (.pair (.slice 135 (.pair (.arr 3 (.int .u8)) (.pair (.int .i64) .unit))) .unit)))).1, ((Ty.dflt (.pair (.int .i64) (.pair (.int .i64) (.pair (.slice 135 (.pair (.arr 3 (.int .u8)) (.pair (.int .i64) .unit))) .unit)))).2.1, ((Ty.dflt (.pair (.int .i64) (.pair (.int .i64) (.pair (.slice 135 (.pair (.arr 3 (.int .u8)) (.pair (.int .i64) .unit))) .unit)))).2.2.1, ()))), ([], ((x0.2.2.1, ()), (((Int.ofNat (List.length x0.2.2.1)), ()), (((0 : Int), ()), ()))))))) (fun s' => match s' with | ((t1, _), (t2_0, t2_1, t2_2, _), (t4_0, t4_1, t4_2, _), t5, (t11, _), (t12, _), (t13, _), _) => (match (g103 (t5, (t2_0, (t2_1, ())))) with | some r18 => (some ((r18.1.1, (r18.1.2.1, (r18.1.2.2.1, ()))), ())) | none => none))) else none)
theorem ev124_3 (g103 : G103) (F : Nat) (s : ShVal sh124_3) (k kx : ShVal sh124_3 → Option R124) : evL TT (ct124 g103 ) kp124 [] (loopOf Try.f124 3) (envOf sh124_3 s) (fitK sh124_3 k) (fun j e => bif Nat.beq j 0 then fitK sh124_3 kx e else none) kr124 = st124_3 g103 F s k kx := by
  obtain ⟨⟨t1, _⟩, ⟨t2_0, t2_1, t2_2, _⟩, ⟨t4_0, t4_1, t4_2, _⟩, t5, ⟨t11, _⟩, ⟨t12, _⟩, ⟨t13, _⟩, _⟩ := s
  kernel_rfl
theorem ok124_3 (g103 : G103) (F : Nat) (hK : KOK Try.prog (ct124 g103 )) : LSOK Try.prog ⟨49, false, undef⟩ (ls124_3 g103 F) (loopOf Try.f124 3) kr124 :=
  loop_ok (st124_3 g103 F) mixed tt_ok hK (by kernel_rfl) (LTOK_by (l := []) (by kernel_rfl) trivial) (ev124_3 g103 F)
theorem ev124 (g103 : G103) (F : Nat) (x : Args [.v poly, .v i64]) : fnK TT (ct124 g103 ) kp124 [poly] [(3, ls124_3 g103 F)] (bodyOf Try.f124) [.cell 4 58] [.v poly, .v i64] true false x = fn124 g103 F x := by
  obtain ⟨x0, x1, _⟩ := x
  kernel_rfl
theorem ok124 (g103 : G103) (hK : KOK Try.prog (ct124 g103 )) (cf : G124) (h : ∀ x y, cf x = some y → ∃ F, fn124 g103 F x = some y) : KOne Try.prog 124 ⟨[.v poly, .v i64], [poly], true, false, 0, cf⟩ :=
  fn_one rfl (c := bodyOf Try.f124) mixed tt_ok hK Try.func124 (by kernel_rfl) (by kernel_rfl) (Nat.le_of_ble_eq_true (by kernel_rfl)) (by decide) fun x y hxy => by
    obtain ⟨F, hF⟩ := h x y hxy
    exact ⟨[(3, ls124_3 g103 F)], LTOK_by (l := [loopOf Try.f124 3]) (by kernel_rfl) ⟨ls_at (by kernel_rfl) (ok124_3 g103 F hK), trivial⟩, (ev124 g103 F x).trans hF⟩
/-! impl.degree -/
abbrev R117 : Type := Ress [i64]
abbrev G117 : Type := Args [.v poly] → Option R117
abbrev kp117 : List (Nat × List Nat) := [(0, [1]), (1, [6, 1]), (2, [2]), (3, [2])]
abbrev ct117 (g159 : G159) : CTab := [(159, ⟨[.v ex], [i64], false, false, 0, g159⟩)]
abbrev kr117 : Env → Option R117 := endK TT [.tmp 2] [i64] false false
def fn117 (g159 : G159) (F : Nat) (x : Args [.v poly]) : Option R117 :=
  match x with
  | (x0, _) => (bif decide ((List.length x0.2.2.1) ≤ 9223372036854775807) then (bif decide ((Int.ofNat (List.length x0.2.2.1)) = (0 : Int)) then (some ((-(1 : Int)), ())) else (bif decide ((List.length x0.2.2.1) ≤ 9223372036854775807) then (bif ib (w6 ((Int.ofNat (List.length x0.2.2.1)) - (1 : Int))) (Int.ofNat (List.length x0.2.2.1)) then (match (g159 ((List.getD x0.2.2.1 (tn (w6 ((Int.ofNat (List.length x0.2.2.1)) - (1 : Int)))) (Ty.dflt (.pair (.arr 3 (.int .u8)) (.pair (.int .i64) .unit)))).1, ())) with | some r5 => (some (r5.1, ())) | none => none) else none) else none)) else none)
theorem ev117 (g159 : G159) (F : Nat) (x : Args [.v poly]) : fnK TT (ct117 g159 ) kp117 [i64] [] (bodyOf Try.f117) [.tmp 2] [.v poly] false false x = fn117 g159 F x := by
  obtain ⟨x0, _⟩ := x
  kernel_rfl
theorem ok117 (g159 : G159) (hK : KOK Try.prog (ct117 g159 )) (cf : G117) (h : ∀ x y, cf x = some y → ∃ F, fn117 g159 F x = some y) : KOne Try.prog 117 ⟨[.v poly], [i64], false, false, 0, cf⟩ :=
  fn_one rfl (c := bodyOf Try.f117) mixed tt_ok hK Try.func117 (by kernel_rfl) (by kernel_rfl) (Nat.le_of_ble_eq_true (by kernel_rfl)) (by decide) fun x y hxy => by
    obtain ⟨F, hF⟩ := h x y hxy
    exact ⟨[], LTOK_by (l := []) (by kernel_rfl) trivial, (ev117 g159 F x).trans hF⟩
/-! impl.product -/
abbrev R118 : Type := Ress [poly]
abbrev G118 : Type := Args [.v (.slice 58 poly), .v (.slice 2 i64)] → Option R118
abbrev kp118 : List (Nat × List Nat) := [(0, [1, 0, 4]), (1, [1, 0, 5, 4]), (2, [19, 0, 5, 17, 4, 18]), (3, [20, 5, 0, 19, 17, 4, 18]), (4, [7, 5, 6, 0, 19, 17, 4, 18]), (5, [25, 5, 6, 0, 19, 17, 4, 18, 24]), (6, [26, 25, 5, 6, 0, 19, 17, 4, 18, 24]), (7, [25, 5, 6, 0, 19, 17, 4, 18, 24]), (8, [25, 5, 6, 0, 19, 17, 4, 18, 24]), (9, [19, 0, 5, 17, 4, 18]), (10, [4])]
abbrev ct118 (g102 : G102) (g106 : G106) : CTab := [(102, ⟨[.v i64, .v i64, .v i64], [poly], true, false, 0, g102⟩), (106, ⟨[.v poly, .v poly], [poly], true, false, 0, g106⟩)]
abbrev kr118 : Env → Option R118 := endK TT [.cell 4 58] [poly] true false
abbrev sh118_6 : Shape := [(0, .val false [.fz (.slice 58 poly) 0 true]), (4, .box false [.fz i64 0 false, .fz i64 0 false, .rt 135 term 67 false true true]), (5, .box false [.fz i64 0 false, .fz i64 0 false, .rt 135 term 83 false true false]), (6, vv i64), (17, .val false [.fz (.slice 2 i64) 0 true]), (18, vv i64), (19, vv i64), (24, vv i64), (25, vv i64)]
def st118_6 (g102 : G102) (g106 : G106) (F : Nat) (s : ShVal sh118_6) (k kx : ShVal sh118_6 → Option R118) : Option R118 :=
  match s with
  | ((t0, _), (t4_0, t4_1, t4_2, _), (t5_0, t5_1, t5_2, _), (t6, _), (t17, _), (t18, _), (t19, _), (t24, _), (t25, _), _) => (bif decide (t25 < t24) then (bif ib t6 (Int.ofNat (List.length t0)) then (match (g106 ((t5_0, (t5_1, (t5_2, ()))), ((List.getD t0 (tn t6) (Ty.dflt (.pair (.int .i64) (.pair (.int .i64) (.pair (.slice 135 (.pair (.arr 3 (.int .u8)) (.pair (.int .i64) .unit))) .unit))))), ()))) with | some r36 => k ((t0, ()), ((t4_0, (t4_1, (t4_2, ()))), ((r36.1.1, (r36.1.2.1, (r36.1.2.2.1, ()))), ((t6, ()), ((t17, ()), ((t18, ()), ((t19, ()), ((t24, ()), (((w6 (t25 + (1 : Int))), ()), ()))))))))) | none => none) else none) else kx ((t0, ()), ((t4_0, (t4_1, (t4_2, ()))), ((t5_0, (t5_1, (t5_2, ()))), ((t6, ()), ((t17, ()), ((t18, ()), ((t19, ()), ((t24, ()), ((t25, ()), ()))))))))))
def ru118_6 (g102 : G102) (g106 : G106) (F : Nat) (s : ShVal sh118_6) (kx : ShVal sh118_6 → Option R118) : Option R118 := iter (fun s k => st118_6 g102 g106 F s k kx) F s
abbrev ls118_6 (g102 : G102) (g106 : G106) (F : Nat) : LS R118 := ⟨sh118_6, 2, ru118_6 g102 g106 F⟩
abbrev sh118_3 : Shape := [(0, .val false [.fz (.slice 58 poly) 0 true]), (4, .box false [.fz i64 0 false, .fz i64 0 false, .rt 135 term 67 false true true]), (5, .box false [.fz i64 0 false, .fz i64 0 false, .rt 135 term 83 false true false]), (17, .val false [.fz (.slice 2 i64) 0 true]), (18, vv i64), (19, vv i64)]
def st118_3 (g102 : G102) (g106 : G106) (F : Nat) (s : ShVal sh118_3) (k kx : ShVal sh118_3 → Option R118) : Option R118 :=
  match s with
  | ((t0, _), (t4_0, t4_1, t4_2, _), (t5_0, t5_1, t5_2, _), (t17, _), (t18, _), (t19, _), _) => (bif decide (t19 < t18) then (bif ib t19 (Int.ofNat (List.length t17)) then (ru118_6 g102 g106 F ((t0, ()), ((t4_0, (t4_1, (t4_2, ()))), ((t5_0, (t5_1, (t5_2, ()))), ((t19, ()), ((t17, ()), ((t18, ()), ((t19, ()), (((List.getD t17 (tn t19) (0 : Int)), ()), (((0 : Int), ()), ()))))))))) (fun s' => match s' with | ((t0, _), (t4_0, t4_1, t4_2, _), (t5_0, t5_1, t5_2, _), (t6, _), (t17, _), (t18, _), (t19, _), (t24, _), (t25, _), _) => k ((t0, ()), ((t4_0, (t4_1, (t4_2, ()))), ((t5_0, (t5_1, (t5_2, ()))), ((t17, ()), ((t18, ()), (((w6 (t19 + (1 : Int))), ()), ())))))))) else none) else kx ((t0, ()), ((t4_0, (t4_1, (t4_2, ()))), ((t5_0, (t5_1, (t5_2, ()))), ((t17, ()), ((t18, ()), ((t19, ()), ())))))))
def ru118_3 (g102 : G102) (g106 : G106) (F : Nat) (s : ShVal sh118_3) (kx : ShVal sh118_3 → Option R118) : Option R118 := iter (fun s k => st118_3 g102 g106 F s k kx) F s
abbrev ls118_3 (g102 : G102) (g106 : G106) (F : Nat) : LS R118 := ⟨sh118_3, 0, ru118_3 g102 g106 F⟩
def fn118 (g102 : G102) (g106 : G106) (F : Nat) (x : Args [.v (.slice 58 poly), .v (.slice 2 i64)]) : Option R118 :=
  match x with
  | (x0, x1, _) => (bif ib (0 : Int) (Int.ofNat (List.length x0)) then (bif ib (0 : Int) (Int.ofNat (List.length x0)) then (match (g102 ((List.getD x0 (tn (0 : Int)) (Ty.dflt (.pair (.int .i64) (.pair (.int .i64) (.pair (.slice 135 (.pair (.arr 3 (.int .u8)) (.pair (.int .i64) .unit))) .unit))))).1, ((List.getD x0 (tn (0 : Int)) (Ty.dflt (.pair (.int .i64) (.pair (.int .i64) (.pair (.slice 135 (.pair (.arr 3 (.int .u8)) (.pair (.int .i64) .unit))) .unit))))).2.1, ((1 : Int), ())))) with | some r6 => (bif decide ((List.length x1) ≤ 9223372036854775807) then (ru118_3 g102 g106 F ((x0, ()), (((Ty.dflt (.pair (.int .i64) (.pair (.int .i64) (.pair (.slice 135 (.pair (.arr 3 (.int .u8)) (.pair (.int .i64) .unit))) .unit)))).1, ((Ty.dflt (.pair (.int .i64) (.pair (.int .i64) (.pair (.slice 135 (.pair (.arr 3 (.int .u8)) (.pair (.int .i64) .unit))) .unit)))).2.1, ((Ty.dflt (.pair (.int .i64) (.pair (.int .i64) (.pair (.slice 135 (.pair (.arr 3 (.int .u8)) (.pair (.int .i64) .unit))) .unit)))).2.2.1, ()))), ((r6.1.1, (r6.1.2.1, (r6.1.2.2.1, ()))), ((x1, ()), (((Int.ofNat (List.length x1)), ()), (((0 : Int), ()), ())))))) (fun s' => match s' with | ((t0, _), (t4_0, t4_1, t4_2, _), (t5_0, t5_1, t5_2, _), (t17, _), (t18, _), (t19, _), _) => (some ((t5_0, (t5_1, (t5_2, ()))), ())))) else none) | none => none) else none) else none)
theorem ev118_6 (g102 : G102) (g106 : G106) (F : Nat) (s : ShVal sh118_6) (k kx : ShVal sh118_6 → Option R118) : evL TT (ct118 g102 g106 ) kp118 [] (loopOf Try.f118 6) (envOf sh118_6 s) (fitK sh118_6 k) (fun j e => bif Nat.beq j 2 then fitK sh118_6 kx e else none) kr118 = st118_6 g102 g106 F s k kx := by
  obtain ⟨⟨t0, _⟩, ⟨t4_0, t4_1, t4_2, _⟩, ⟨t5_0, t5_1, t5_2, _⟩, ⟨t6, _⟩, ⟨t17, _⟩, ⟨t18, _⟩, ⟨t19, _⟩, ⟨t24, _⟩, ⟨t25, _⟩, _⟩ := s
  kernel_rfl
theorem ok118_6 (g102 : G102) (g106 : G106) (F : Nat) (hK : KOK Try.prog (ct118 g102 g106 )) : LSOK Try.prog ⟨36, false, undef⟩ (ls118_6 g102 g106 F) (loopOf Try.f118 6) kr118 :=
  loop_ok (st118_6 g102 g106 F) mixed tt_ok hK (by kernel_rfl) (LTOK_by (l := []) (by kernel_rfl) trivial) (ev118_6 g102 g106 F)
theorem ev118_3 (g102 : G102) (g106 : G106) (F : Nat) (s : ShVal sh118_3) (k kx : ShVal sh118_3 → Option R118) : evL TT (ct118 g102 g106 ) kp118 [(6, ls118_6 g102 g106 F)] (loopOf Try.f118 3) (envOf sh118_3 s) (fitK sh118_3 k) (fun j e => bif Nat.beq j 0 then fitK sh118_3 kx e else none) kr118 = st118_3 g102 g106 F s k kx := by
  obtain ⟨⟨t0, _⟩, ⟨t4_0, t4_1, t4_2, _⟩, ⟨t5_0, t5_1, t5_2, _⟩, ⟨t17, _⟩, ⟨t18, _⟩, ⟨t19, _⟩, _⟩ := s
  kernel_rfl
theorem ok118_3 (g102 : G102) (g106 : G106) (F : Nat) (hK : KOK Try.prog (ct118 g102 g106 )) : LSOK Try.prog ⟨36, false, undef⟩ (ls118_3 g102 g106 F) (loopOf Try.f118 3) kr118 :=
  loop_ok (st118_3 g102 g106 F) mixed tt_ok hK (by kernel_rfl) (LTOK_by (l := [loopOf Try.f118 6]) (by kernel_rfl) ⟨ls_at (by kernel_rfl) (ok118_6 g102 g106 F hK), trivial⟩) (ev118_3 g102 g106 F)
theorem ev118 (g102 : G102) (g106 : G106) (F : Nat) (x : Args [.v (.slice 58 poly), .v (.slice 2 i64)]) : fnK TT (ct118 g102 g106 ) kp118 [poly] [(3, ls118_3 g102 g106 F)] (bodyOf Try.f118) [.cell 4 58] [.v (.slice 58 poly), .v (.slice 2 i64)] true false x = fn118 g102 g106 F x := by
  obtain ⟨x0, x1, _⟩ := x
  kernel_rfl
theorem ok118 (g102 : G102) (g106 : G106) (hK : KOK Try.prog (ct118 g102 g106 )) (cf : G118) (h : ∀ x y, cf x = some y → ∃ F, fn118 g102 g106 F x = some y) : KOne Try.prog 118 ⟨[.v (.slice 58 poly), .v (.slice 2 i64)], [poly], true, false, 0, cf⟩ :=
  fn_one rfl (c := bodyOf Try.f118) mixed tt_ok hK Try.func118 (by kernel_rfl) (by kernel_rfl) (Nat.le_of_ble_eq_true (by kernel_rfl)) (by decide) fun x y hxy => by
    obtain ⟨F, hF⟩ := h x y hxy
    exact ⟨[(3, ls118_3 g102 g106 F)], LTOK_by (l := [loopOf Try.f118 3]) (by kernel_rfl) ⟨ls_at (by kernel_rfl) (ok118_3 g102 g106 F hK), trivial⟩, (ev118 g102 g106 F x).trans hF⟩
/-! impl.raised -/
abbrev R101 : Type := Ress [i64]
abbrev G101 : Type := Args [.v i64, .v i64] → Option R101
abbrev kp101 : List (Nat × List Nat) := [(0, [1, 0]), (1, [1, 0, 5]), (2, [7, 0, 5, 6]), (3, [8, 5, 7, 0, 6]), (4, [7, 0, 5, 6]), (5, [7, 0, 5, 6]), (6, [4])]
abbrev ct101 : CTab := []
abbrev kr101 : Env → Option R101 := endK TT [.tmp 4] [i64] false false
abbrev sh101_3 : Shape := [(0, vv i64), (5, vv i64), (6, vv i64), (7, vv i64)]
def st101_3 (F : Nat) (s : ShVal sh101_3) (k kx : ShVal sh101_3 → Option R101) : Option R101 :=
  match s with
  | ((t0, _), (t5, _), (t6, _), (t7, _), _) => (bif decide (t7 < t6) then k ((t0, ()), (((bif decide ((1000000 : Int) < (w6 (t5 * t0))) then (1000000 : Int) else (w6 (t5 * t0))), ()), ((t6, ()), (((w6 (t7 + (1 : Int))), ()), ())))) else kx ((t0, ()), ((t5, ()), ((t6, ()), ((t7, ()), ())))))
def ru101_3 (F : Nat) (s : ShVal sh101_3) (kx : ShVal sh101_3 → Option R101) : Option R101 := iter (fun s k => st101_3 F s k kx) F s
abbrev ls101_3 (F : Nat) : LS R101 := ⟨sh101_3, 0, ru101_3 F⟩
def fn101 (F : Nat) (x : Args [.v i64, .v i64]) : Option R101 :=
  match x with
  | (x0, x1, _) => (ru101_3 F ((x0, ()), (((1 : Int), ()), ((x1, ()), (((0 : Int), ()), ())))) (fun s' => match s' with | ((t0, _), (t5, _), (t6, _), (t7, _), _) => (some (t5, ()))))
theorem ev101_3 (F : Nat) (s : ShVal sh101_3) (k kx : ShVal sh101_3 → Option R101) : evL TT (ct101 ) kp101 [] (loopOf Try.f101 3) (envOf sh101_3 s) (fitK sh101_3 k) (fun j e => bif Nat.beq j 0 then fitK sh101_3 kx e else none) kr101 = st101_3 F s k kx := by
  obtain ⟨⟨t0, _⟩, ⟨t5, _⟩, ⟨t6, _⟩, ⟨t7, _⟩, _⟩ := s
  kernel_rfl
theorem ok101_3 (F : Nat) (hK : KOK Try.prog (ct101 )) : LSOK Try.prog ⟨15, false, undef⟩ (ls101_3 F) (loopOf Try.f101 3) kr101 :=
  loop_ok (st101_3 F) mixed tt_ok hK (by kernel_rfl) (LTOK_by (l := []) (by kernel_rfl) trivial) (ev101_3 F)
theorem ev101 (F : Nat) (x : Args [.v i64, .v i64]) : fnK TT (ct101 ) kp101 [i64] [(3, ls101_3 F)] (bodyOf Try.f101) [.tmp 4] [.v i64, .v i64] false false x = fn101 F x := by
  obtain ⟨x0, x1, _⟩ := x
  kernel_rfl
theorem ok101 (hK : KOK Try.prog (ct101 )) (cf : G101) (h : ∀ x y, cf x = some y → ∃ F, fn101 F x = some y) : KOne Try.prog 101 ⟨[.v i64, .v i64], [i64], false, false, 0, cf⟩ :=
  fn_one rfl (c := bodyOf Try.f101) mixed tt_ok hK Try.func101 (by kernel_rfl) (by kernel_rfl) (Nat.le_of_ble_eq_true (by kernel_rfl)) (by decide) fun x y hxy => by
    obtain ⟨F, hF⟩ := h x y hxy
    exact ⟨[(3, ls101_3 F)], LTOK_by (l := [loopOf Try.f101 3]) (by kernel_rfl) ⟨ls_at (by kernel_rfl) (ok101_3 F hK), trivial⟩, (ev101 F x).trans hF⟩
end Go.Proofs.YtkoifikjfnbcpaaEv
