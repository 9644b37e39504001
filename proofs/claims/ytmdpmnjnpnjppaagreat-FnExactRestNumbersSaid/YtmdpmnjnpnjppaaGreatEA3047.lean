/- The program's operations on plain typed data, that the machine does the same, what the functions come to, and what they give (part 7). No condition. -/
import Derived.Test.YtmdpmnjnpnjppaaGreatEA3046
set_option linter.unusedVariables false
set_option linter.unusedSimpArgs false
namespace Go.Proofs.YtmdpmnjnpnjppaaGreatEv
open Go Go.RowKit
abbrev R89 : Type := Ress [(.slice 2 i64)]
abbrev G89 : Type := Args [.v poly, .v i64] → Option R89
abbrev kp89 : List (Nat × List Nat) := [(0, [1, 2]), (1, [5, 2, 6]), (2, [7, 5, 2, 6]), (3, [16, 6, 7, 5, 2]), (5, [7, 5, 2, 6]), (4, [7, 5, 2, 6]), (6, [4])]
abbrev ct89 (g161 : G161) (g163 : G163) : CTab := [(161, ⟨[.v i64, .v i64], [(.slice 107 ex)], true, false, 0, g161⟩), (163, ⟨[.v poly, .v ex], [i64], false, false, 0, g163⟩)]
abbrev kr89 : Env → Option R89 := endK TT [.tmp 4] [(.slice 2 i64)] true false
abbrev sh89_3 : Shape := [(2, .box false [.fz i64 0 false, .fz i64 0 false, .fz (.slice 135 term) 0 true]), (5, vr 107 ex 81 false), (6, vr 2 i64 97 false), (7, vv i64)]
def st89_3 (g161 : G161) (g163 : G163) (F : Nat) (s : ShVal sh89_3) (k kx : ShVal sh89_3 → Option R89) : Option R89 :=
  match s with
  | ((t2_0, t2_1, t2_2, _), (t5, _), (t6, _), (t7, _), _) => (bif decide ((List.length t5) ≤ 9223372036854775807) then (bif decide (t7 < (Int.ofNat (List.length t5))) then (bif ib t7 (Int.ofNat (List.length t5)) then (match (g163 ((t2_0, (t2_1, (t2_2, ()))), ((List.getD t5 (tn t7) (Ty.dflt (.arr 3 (.int .u8)))), ()))) with | some r16 => (bif (growOk (List.length t6) (List.length (r16.1 :: []))) then k ((t2_0, (t2_1, (t2_2, ()))), ((t5, ()), (((t6 ++ (r16.1 :: [])), ()), (((w6 (t7 + (1 : Int))), ()), ())))) else none) | none => none) else none) else kx ((t2_0, (t2_1, (t2_2, ()))), ((t5, ()), ((t6, ()), ((t7, ()), ()))))) else none)
def ru89_3 (g161 : G161) (g163 : G163) (F : Nat) (s : ShVal sh89_3) (kx : ShVal sh89_3 → Option R89) : Option R89 := iter (fun s k => st89_3 g161 g163 F s k kx) F s
abbrev ls89_3 (g161 : G161) (g163 : G163) (F : Nat) : LS R89 := ⟨sh89_3, 0, ru89_3 g161 g163 F⟩
def fn89 (g161 : G161) (g163 : G163) (F : Nat) (x : Args [.v poly, .v i64]) : Option R89 :=
  match x with
  | (x0, x1, _) => (match (g161 (x0.2.1, (x1, ()))) with | some r6 => (ru89_3 g161 g163 F ((x0.1, (x0.2.1, (x0.2.2.1, ()))), ((r6.1, ()), (([], ()), (((0 : Int), ()), ())))) (fun s' => match s' with | ((t2_0, t2_1, t2_2, _), (t5, _), (t6, _), (t7, _), _) => (some (t6, ())))) | none => none)
theorem ev89_3 (g161 : G161) (g163 : G163) (F : Nat) (s : ShVal sh89_3) (k kx : ShVal sh89_3 → Option R89) : evL TT (ct89 g161 g163 ) kp89 [] (loopOf Tryz.f89 3) (envOf sh89_3 s) (fitK sh89_3 k) (fun j e => bif Nat.beq j 0 then fitK sh89_3 kx e else none) kr89 = st89_3 g161 g163 F s k kx := by
  obtain ⟨⟨t2_0, t2_1, t2_2, _⟩, ⟨t5, _⟩, ⟨t6, _⟩, ⟨t7, _⟩, _⟩ := s
  kernel_rfl
theorem ok89_3 (g161 : G161) (g163 : G163) (F : Nat) (hK : KOK Tryz.prog (ct89 g161 g163 )) : LSOK Tryz.prog ⟨29, false, undef⟩ (ls89_3 g161 g163 F) (loopOf Tryz.f89 3) kr89 :=
  loop_ok (st89_3 g161 g163 F) mixed tt_ok hK (by kernel_rfl) (LTOK_by (l := []) (by kernel_rfl) trivial) (ev89_3 g161 g163 F)
theorem ev89 (g161 : G161) (g163 : G163) (F : Nat) (x : Args [.v poly, .v i64]) : fnK TT (ct89 g161 g163 ) kp89 [(.slice 2 i64)] [(3, ls89_3 g161 g163 F)] (bodyOf Tryz.f89) [.tmp 4] [.v poly, .v i64] true false x = fn89 g161 g163 F x := by
  obtain ⟨x0, x1, _⟩ := x
  kernel_rfl
theorem ok89 (g161 : G161) (g163 : G163) (hK : KOK Tryz.prog (ct89 g161 g163 )) (cf : G89) (h : ∀ x y, cf x = some y → ∃ F, fn89 g161 g163 F x = some y) : KOne Tryz.prog 89 ⟨[.v poly, .v i64], [(.slice 2 i64)], true, false, 0, cf⟩ :=
  fn_one rfl (c := bodyOf Tryz.f89) mixed tt_ok hK Tryz.func89 (by kernel_rfl) (by kernel_rfl) (Nat.le_of_ble_eq_true (by kernel_rfl)) (by decide) fun x y hxy => by
    obtain ⟨F, hF⟩ := h x y hxy
    exact ⟨[(3, ls89_3 g161 g163 F)], LTOK_by (l := [loopOf Tryz.f89 3]) (by kernel_rfl) ⟨ls_at (by kernel_rfl) (ok89_3 g161 g163 F hK), trivial⟩, (ev89 g161 g163 F x).trans hF⟩
abbrev R177 : Type := Ress [i64]
abbrev G177 : Type := Args [.v poly, .v ex] → Option R177
abbrev kp177 : List (Nat × List Nat) := [(0, [2, 3]), (1, [10, 3, 8, 9]), (2, [11, 9, 8, 3, 10]), (3, [9, 8, 3, 10, 6]), (4, [17, 9, 8, 3, 10, 6]), (5, [4]), (6, [10, 3, 8, 9]), (7, [4])]
abbrev ct177 : CTab := []
abbrev kr177 : Env → Option R177 := endK TT [.tmp 4] [i64] false false
abbrev sh177_2 : Shape := [(3, bb ex), (8, .val false [.fz (.slice 135 term) 0 true]), (9, vv i64), (10, vv i64)]
def st177_2 (F : Nat) (s : ShVal sh177_2) (k kx : ShVal sh177_2 → Option R177) : Option R177 :=
  match s with
  | ((t3, _), (t8, _), (t9, _), (t10, _), _) => (bif decide (t10 < t9) then (bif ib t10 (Int.ofNat (List.length t8)) then (bif (Ty.eqd (.arr 3 (.int .u8)) (List.getD t8 (tn t10) (Ty.dflt (.pair (.arr 3 (.int .u8)) (.pair (.int .i64) .unit)))).1 t3) then (some ((List.getD t8 (tn t10) (Ty.dflt (.pair (.arr 3 (.int .u8)) (.pair (.int .i64) .unit)))).2.1, ())) else k ((t3, ()), ((t8, ()), ((t9, ()), (((w6 (t10 + (1 : Int))), ()), ()))))) else none) else kx ((t3, ()), ((t8, ()), ((t9, ()), ((t10, ()), ())))))
def ru177_2 (F : Nat) (s : ShVal sh177_2) (kx : ShVal sh177_2 → Option R177) : Option R177 := iter (fun s k => st177_2 F s k kx) F s
abbrev ls177_2 (F : Nat) : LS R177 := ⟨sh177_2, 0, ru177_2 F⟩
def fn177 (F : Nat) (x : Args [.v poly, .v ex]) : Option R177 :=
  match x with
  | (x0, x1, _) => (bif decide ((List.length x0.2.2.1) ≤ 9223372036854775807) then (ru177_2 F ((x1, ()), ((x0.2.2.1, ()), (((Int.ofNat (List.length x0.2.2.1)), ()), (((0 : Int), ()), ())))) (fun s' => match s' with | ((t3, _), (t8, _), (t9, _), (t10, _), _) => (some ((0 : Int), ())))) else none)
theorem ev177_2 (F : Nat) (s : ShVal sh177_2) (k kx : ShVal sh177_2 → Option R177) : evL TT (ct177 ) kp177 [] (loopOf Tryz.f177 2) (envOf sh177_2 s) (fitK sh177_2 k) (fun j e => bif Nat.beq j 0 then fitK sh177_2 kx e else none) kr177 = st177_2 F s k kx := by
  obtain ⟨⟨t3, _⟩, ⟨t8, _⟩, ⟨t9, _⟩, ⟨t10, _⟩, _⟩ := s
  kernel_rfl
theorem ok177_2 (F : Nat) (hK : KOK Tryz.prog (ct177 )) : LSOK Tryz.prog ⟨21, false, undef⟩ (ls177_2 F) (loopOf Tryz.f177 2) kr177 :=
  loop_ok (st177_2 F) mixed tt_ok hK (by kernel_rfl) (LTOK_by (l := []) (by kernel_rfl) trivial) (ev177_2 F)
theorem ev177 (F : Nat) (x : Args [.v poly, .v ex]) : fnK TT (ct177 ) kp177 [i64] [(2, ls177_2 F)] (bodyOf Tryz.f177) [.tmp 4] [.v poly, .v ex] false false x = fn177 F x := by
  obtain ⟨x0, x1, _⟩ := x
  kernel_rfl
theorem ok177 (hK : KOK Tryz.prog (ct177 )) (cf : G177) (h : ∀ x y, cf x = some y → ∃ F, fn177 F x = some y) : KOne Tryz.prog 177 ⟨[.v poly, .v ex], [i64], false, false, 0, cf⟩ :=
  fn_one rfl (c := bodyOf Tryz.f177) mixed tt_ok hK Tryz.func177 (by kernel_rfl) (by kernel_rfl) (Nat.le_of_ble_eq_true (by kernel_rfl)) (by decide) fun x y hxy => by
    obtain ⟨F, hF⟩ := h x y hxy
    exact ⟨[(2, ls177_2 F)], LTOK_by (l := [loopOf Tryz.f177 2]) (by kernel_rfl) ⟨ls_at (by kernel_rfl) (ok177_2 F hK), trivial⟩, (ev177 F x).trans hF⟩
abbrev R98 : Type := Ress [(.slice 2 i64)]
abbrev G98 : Type := Args [.v poly, .v i64] → Option R98
abbrev kp98 : List (Nat × List Nat) := [(0, [1, 2]), (1, [5, 2]), (2, [5, 2, 6]), (3, [18, 2, 6, 16, 17]), (4, [19, 18, 2, 6, 16, 17]), (5, [7, 8, 18, 2, 6, 16, 17]), (6, [18, 2, 6, 16, 17]), (7, [18, 2, 6, 16, 17]), (8, [4])]
abbrev ct98 (g174 : G174) (g177 : G177) : CTab := [(174, ⟨[.v i64, .v i64], [(.slice 107 ex)], true, false, 0, g174⟩), (177, ⟨[.v poly, .v ex], [i64], false, false, 0, g177⟩)]
abbrev kr98 : Env → Option R98 := endK TT [.tmp 4] [(.slice 2 i64)] true false
abbrev sh98_4 : Shape := [(2, .box false [.fz i64 0 false, .fz i64 0 false, .fz (.slice 135 term) 0 true]), (6, vr 2 i64 97 false), (16, vr 107 ex 257 false), (17, vv i64), (18, vv i64)]
def st98_4 (g174 : G174) (g177 : G177) (F : Nat) (s : ShVal sh98_4) (k kx : ShVal sh98_4 → Option R98) : Option R98 :=
  match s with
  | ((t2_0, t2_1, t2_2, _), (t6, _), (t16, _), (t17, _), (t18, _), _) => (bif decide (t18 < t17) then (bif ib t18 (Int.ofNat (List.length t16)) then (match (g177 ((t2_0, (t2_1, (t2_2, ()))), ((List.getD t16 (tn t18) (Ty.dflt (.arr 3 (.int .u8)))), ()))) with | some r19 => (bif ib t18 (Int.ofNat (List.length t6)) then k ((t2_0, (t2_1, (t2_2, ()))), (((List.set t6 (tn t18) r19.1), ()), ((t16, ()), ((t17, ()), (((w6 (t18 + (1 : Int))), ()), ()))))) else none) | none => none) else none) else kx ((t2_0, (t2_1, (t2_2, ()))), ((t6, ()), ((t16, ()), ((t17, ()), ((t18, ()), ()))))))
def ru98_4 (g174 : G174) (g177 : G177) (F : Nat) (s : ShVal sh98_4) (kx : ShVal sh98_4 → Option R98) : Option R98 := iter (fun s k => st98_4 g174 g177 F s k kx) F s
abbrev ls98_4 (g174 : G174) (g177 : G177) (F : Nat) : LS R98 := ⟨sh98_4, 0, ru98_4 g174 g177 F⟩
def fn98 (g174 : G174) (g177 : G177) (F : Nat) (x : Args [.v poly, .v i64]) : Option R98 :=
  match x with
  | (x0, x1, _) => (match (g174 (x0.2.1, (x1, ()))) with | some r6 => (bif decide ((List.length r6.1) ≤ 9223372036854775807) then (bif ((decide ((0 : Int) ≤ (Int.ofNat (List.length r6.1))) && decide ((Int.ofNat (List.length r6.1)) ≤ (1099511627776 : Int))) && decide ((Int.ofNat (List.length r6.1)) = (Int.ofNat (List.length r6.1)))) then (bif decide ((List.length r6.1) ≤ 9223372036854775807) then (ru98_4 g174 g177 F ((x0.1, (x0.2.1, (x0.2.2.1, ()))), (((List.replicate (tn (Int.ofNat (List.length r6.1))) (0 : Int)), ()), ((r6.1, ()), (((Int.ofNat (List.length r6.1)), ()), (((0 : Int), ()), ()))))) (fun s' => match s' with | ((t2_0, t2_1, t2_2, _), (t6, _), (t16, _), (t17, _), (t18, _), _) => (some (t6, ())))) else none) else none) else none) | none => none)
theorem ev98_4 (g174 : G174) (g177 : G177) (F : Nat) (s : ShVal sh98_4) (k kx : ShVal sh98_4 → Option R98) : evL TT (ct98 g174 g177 ) kp98 [] (loopOf Tryz.f98 4) (envOf sh98_4 s) (fitK sh98_4 k) (fun j e => bif Nat.beq j 0 then fitK sh98_4 kx e else none) kr98 = st98_4 g174 g177 F s k kx := by
  obtain ⟨⟨t2_0, t2_1, t2_2, _⟩, ⟨t6, _⟩, ⟨t16, _⟩, ⟨t17, _⟩, ⟨t18, _⟩, _⟩ := s
  kernel_rfl
theorem ok98_4 (g174 : G174) (g177 : G177) (F : Nat) (hK : KOK Tryz.prog (ct98 g174 g177 )) : LSOK Tryz.prog ⟨31, false, undef⟩ (ls98_4 g174 g177 F) (loopOf Tryz.f98 4) kr98 :=
  loop_ok (st98_4 g174 g177 F) mixed tt_ok hK (by kernel_rfl) (LTOK_by (l := []) (by kernel_rfl) trivial) (ev98_4 g174 g177 F)
theorem ev98 (g174 : G174) (g177 : G177) (F : Nat) (x : Args [.v poly, .v i64]) : fnK TT (ct98 g174 g177 ) kp98 [(.slice 2 i64)] [(4, ls98_4 g174 g177 F)] (bodyOf Tryz.f98) [.tmp 4] [.v poly, .v i64] true false x = fn98 g174 g177 F x := by
  obtain ⟨x0, x1, _⟩ := x
  kernel_rfl
theorem ok98 (g174 : G174) (g177 : G177) (hK : KOK Tryz.prog (ct98 g174 g177 )) (cf : G98) (h : ∀ x y, cf x = some y → ∃ F, fn98 g174 g177 F x = some y) : KOne Tryz.prog 98 ⟨[.v poly, .v i64], [(.slice 2 i64)], true, false, 0, cf⟩ :=
  fn_one rfl (c := bodyOf Tryz.f98) mixed tt_ok hK Tryz.func98 (by kernel_rfl) (by kernel_rfl) (Nat.le_of_ble_eq_true (by kernel_rfl)) (by decide) fun x y hxy => by
    obtain ⟨F, hF⟩ := h x y hxy
    exact ⟨[(4, ls98_4 g174 g177 F)], LTOK_by (l := [loopOf Tryz.f98 4]) (by kernel_rfl) ⟨ls_at (by kernel_rfl) (ok98_4 g174 g177 F hK), trivial⟩, (ev98 g174 g177 F x).trans hF⟩
abbrev R86 : Type := Ress [(.slice 44 (.slice 2 i64))]
abbrev G86 : Type := Args [.v (.slice 34 poly), .v i64] → Option R86
abbrev kp86 : List (Nat × List Nat) := [(0, [1, 0]), (1, [1, 5, 0]), (2, [6, 1, 5, 0]), (3, [15, 6, 1, 5, 0]), (5, [24, 6, 1, 5, 0]), (6, [1, 5, 7, 6, 0]), (7, [8, 1, 5, 7, 6, 0]), (8, [41, 5, 8, 1, 7, 6, 0]), (10, [5, 9, 8, 1, 7, 6, 0]), (11, [8, 1, 5, 7, 6, 0]), (9, [8, 1, 5, 7, 6, 0]), (4, [6, 1, 5, 0]), (12, [4])]
abbrev ct86 (g161 : G161) (g89 : G89) (g121 : G121) (g120 : G120) (g84 : G84) : CTab := [(161, ⟨[.v i64, .v i64], [(.slice 107 ex)], true, false, 0, g161⟩), (89, ⟨[.v poly, .v i64], [(.slice 2 i64)], true, false, 0, g89⟩), (121, ⟨[.v poly, .v poly], [poly, .bool], true, false, 0, g121⟩), (120, ⟨[.v i64, .v i64, .v ex, .v i64], [poly], true, false, 0, g120⟩), (84, ⟨[.v poly], [i64], false, false, 0, g84⟩)]
abbrev kr86 : Env → Option R86 := endK TT [.tmp 4] [(.slice 44 (.slice 2 i64))] true false
abbrev sh86_8 : Shape := [(0, .val false [.fz (.slice 34 poly) 0 true]), (1, vv i64), (5, vr 44 (.slice 2 i64) 81 false), (6, vv i64), (7, vr 107 ex 113 false), (8, vv i64)]
def st86_8 (g161 : G161) (g89 : G89) (g121 : G121) (g120 : G120) (g84 : G84) (F : Nat) (s : ShVal sh86_8) (k kx : ShVal sh86_8 → Option R86) : Option R86 :=
  match s with
  | ((t0, _), (t1, _), (t5, _), (t6, _), (t7, _), (t8, _), _) => (bif decide ((List.length t7) ≤ 9223372036854775807) then (bif decide (t8 < (Int.ofNat (List.length t7))) then (bif ib t6 (Int.ofNat (List.length t0)) then (bif ib t6 (Int.ofNat (List.length t0)) then (bif ib t6 (Int.ofNat (List.length t0)) then (bif ib t8 (Int.ofNat (List.length t7)) then (match (g120 ((List.getD t0 (tn t6) (Ty.dflt (.pair (.int .i64) (.pair (.int .i64) (.pair (.slice 135 (.pair (.arr 3 (.int .u8)) (.pair (.int .i64) .unit))) .unit))))).1, ((List.getD t0 (tn t6) (Ty.dflt (.pair (.int .i64) (.pair (.int .i64) (.pair (.slice 135 (.pair (.arr 3 (.int .u8)) (.pair (.int .i64) .unit))) .unit))))).2.1, ((List.getD t7 (tn t8) (Ty.dflt (.arr 3 (.int .u8)))), ((1 : Int), ()))))) with | some r29 => (match (g121 ((List.getD t0 (tn t6) (Ty.dflt (.pair (.int .i64) (.pair (.int .i64) (.pair (.slice 135 (.pair (.arr 3 (.int .u8)) (.pair (.int .i64) .unit))) .unit))))), ((r29.1.1, (r29.1.2.1, (r29.1.2.2.1, ()))), ()))) with | some r30 => (match (g89 ((r30.1.1, (r30.1.2.1, (r30.1.2.2.1, ()))), (t1, ()))) with | some r32 => (bif (growOk (List.length t5) (List.length (r32.1 :: []))) then k ((t0, ()), ((t1, ()), (((t5 ++ (r32.1 :: [])), ()), ((t6, ()), ((t7, ()), (((w6 (t8 + (1 : Int))), ()), ())))))) else none) | none => none) | none => none) | none => none) else none) else none) else none) else none) else kx ((t0, ()), ((t1, ()), ((t5, ()), ((t6, ()), ((t7, ()), ((t8, ()), ()))))))) else none)
def ru86_8 (g161 : G161) (g89 : G89) (g121 : G121) (g120 : G120) (g84 : G84) (F : Nat) (s : ShVal sh86_8) (kx : ShVal sh86_8 → Option R86) : Option R86 := iter (fun s k => st86_8 g161 g89 g121 g120 g84 F s k kx) F s
abbrev ls86_8 (g161 : G161) (g89 : G89) (g121 : G121) (g120 : G120) (g84 : G84) (F : Nat) : LS R86 := ⟨sh86_8, 2, ru86_8 g161 g89 g121 g120 g84 F⟩
abbrev sh86_3 : Shape := [(0, .val false [.fz (.slice 34 poly) 0 true]), (1, vv i64), (5, vr 44 (.slice 2 i64) 81 false), (6, vv i64)]
def st86_3 (g161 : G161) (g89 : G89) (g121 : G121) (g120 : G120) (g84 : G84) (F : Nat) (s : ShVal sh86_3) (k kx : ShVal sh86_3 → Option R86) : Option R86 :=
  match s with
  | ((t0, _), (t1, _), (t5, _), (t6, _), _) => (bif decide ((List.length t0) ≤ 9223372036854775807) then (bif decide (t6 < (Int.ofNat (List.length t0))) then (bif ib t6 (Int.ofNat (List.length t0)) then (match (g84 ((List.getD t0 (tn t6) (Ty.dflt (.pair (.int .i64) (.pair (.int .i64) (.pair (.slice 135 (.pair (.arr 3 (.int .u8)) (.pair (.int .i64) .unit))) .unit))))), ())) with | some r16 => (bif decide (t1 < r16.1) then k ((t0, ()), ((t1, ()), ((t5, ()), (((w6 (t6 + (1 : Int))), ()), ())))) else (bif ib t6 (Int.ofNat (List.length t0)) then (bif ib t6 (Int.ofNat (List.length t0)) then (match (g84 ((List.getD t0 (tn t6) (Ty.dflt (.pair (.int .i64) (.pair (.int .i64) (.pair (.slice 135 (.pair (.arr 3 (.int .u8)) (.pair (.int .i64) .unit))) .unit))))), ())) with | some r18 => (match (g161 ((List.getD t0 (tn t6) (Ty.dflt (.pair (.int .i64) (.pair (.int .i64) (.pair (.slice 135 (.pair (.arr 3 (.int .u8)) (.pair (.int .i64) .unit))) .unit))))).2.1, ((w6 (t1 - r18.1)), ()))) with | some r19 => (ru86_8 g161 g89 g121 g120 g84 F ((t0, ()), ((t1, ()), ((t5, ()), ((t6, ()), ((r19.1, ()), (((0 : Int), ()), ())))))) (fun s' => match s' with | ((t0, _), (t1, _), (t5, _), (t6, _), (t7, _), (t8, _), _) => k ((t0, ()), ((t1, ()), ((t5, ()), (((w6 (t6 + (1 : Int))), ()), ())))))) | none => none) | none => none) else none) else none)) | none => none) else none) else kx ((t0, ()), ((t1, ()), ((t5, ()), ((t6, ()), ()))))) else none)
def ru86_3 (g161 : G161) (g89 : G89) (g121 : G121) (g120 : G120) (g84 : G84) (F : Nat) (s : ShVal sh86_3) (kx : ShVal sh86_3 → Option R86) : Option R86 := iter (fun s k => st86_3 g161 g89 g121 g120 g84 F s k kx) F s
abbrev ls86_3 (g161 : G161) (g89 : G89) (g121 : G121) (g120 : G120) (g84 : G84) (F : Nat) : LS R86 := ⟨sh86_3, 0, ru86_3 g161 g89 g121 g120 g84 F⟩
def fn86 (g161 : G161) (g89 : G89) (g121 : G121) (g120 : G120) (g84 : G84) (F : Nat) (x : Args [.v (.slice 34 poly), .v i64]) : Option R86 :=
  match x with
  | (x0, x1, _) => (ru86_3 g161 g89 g121 g120 g84 F ((x0, ()), ((x1, ()), (([], ()), (((0 : Int), ()), ())))) (fun s' => match s' with | ((t0, _), (t1, _), (t5, _), (t6, _), _) => (some (t5, ()))))
theorem ev86_8 (g161 : G161) (g89 : G89) (g121 : G121) (g120 : G120) (g84 : G84) (F : Nat) (s : ShVal sh86_8) (k kx : ShVal sh86_8 → Option R86) : evL TT (ct86 g161 g89 g121 g120 g84 ) kp86 [] (loopOf Tryz.f86 8) (envOf sh86_8 s) (fitK sh86_8 k) (fun j e => bif Nat.beq j 2 then fitK sh86_8 kx e else none) kr86 = st86_8 g161 g89 g121 g120 g84 F s k kx := by
  obtain ⟨⟨t0, _⟩, ⟨t1, _⟩, ⟨t5, _⟩, ⟨t6, _⟩, ⟨t7, _⟩, ⟨t8, _⟩, _⟩ := s
  kernel_rfl
theorem ok86_8 (g161 : G161) (g89 : G89) (g121 : G121) (g120 : G120) (g84 : G84) (F : Nat) (hK : KOK Tryz.prog (ct86 g161 g89 g121 g120 g84 )) : LSOK Tryz.prog ⟨74, false, undef⟩ (ls86_8 g161 g89 g121 g120 g84 F) (loopOf Tryz.f86 8) kr86 :=
  loop_ok (st86_8 g161 g89 g121 g120 g84 F) mixed tt_ok hK (by kernel_rfl) (LTOK_by (l := []) (by kernel_rfl) trivial) (ev86_8 g161 g89 g121 g120 g84 F)
theorem ev86_3 (g161 : G161) (g89 : G89) (g121 : G121) (g120 : G120) (g84 : G84) (F : Nat) (s : ShVal sh86_3) (k kx : ShVal sh86_3 → Option R86) : evL TT (ct86 g161 g89 g121 g120 g84 ) kp86 [(8, ls86_8 g161 g89 g121 g120 g84 F)] (loopOf Tryz.f86 3) (envOf sh86_3 s) (fitK sh86_3 k) (fun j e => bif Nat.beq j 0 then fitK sh86_3 kx e else none) kr86 = st86_3 g161 g89 g121 g120 g84 F s k kx := by
  obtain ⟨⟨t0, _⟩, ⟨t1, _⟩, ⟨t5, _⟩, ⟨t6, _⟩, _⟩ := s
  kernel_rfl
theorem ok86_3 (g161 : G161) (g89 : G89) (g121 : G121) (g120 : G120) (g84 : G84) (F : Nat) (hK : KOK Tryz.prog (ct86 g161 g89 g121 g120 g84 )) : LSOK Tryz.prog ⟨74, false, undef⟩ (ls86_3 g161 g89 g121 g120 g84 F) (loopOf Tryz.f86 3) kr86 :=
  loop_ok (st86_3 g161 g89 g121 g120 g84 F) mixed tt_ok hK (by kernel_rfl) (LTOK_by (l := [loopOf Tryz.f86 8]) (by kernel_rfl) ⟨ls_at (by kernel_rfl) (ok86_8 g161 g89 g121 g120 g84 F hK), trivial⟩) (ev86_3 g161 g89 g121 g120 g84 F)
theorem ev86 (g161 : G161) (g89 : G89) (g121 : G121) (g120 : G120) (g84 : G84) (F : Nat) (x : Args [.v (.slice 34 poly), .v i64]) : fnK TT (ct86 g161 g89 g121 g120 g84 ) kp86 [(.slice 44 (.slice 2 i64))] [(3, ls86_3 g161 g89 g121 g120 g84 F)] (bodyOf Tryz.f86) [.tmp 4] [.v (.slice 34 poly), .v i64] true false x = fn86 g161 g89 g121 g120 g84 F x := by
  obtain ⟨x0, x1, _⟩ := x
  kernel_rfl
theorem ok86 (g161 : G161) (g89 : G89) (g121 : G121) (g120 : G120) (g84 : G84) (hK : KOK Tryz.prog (ct86 g161 g89 g121 g120 g84 )) (cf : G86) (h : ∀ x y, cf x = some y → ∃ F, fn86 g161 g89 g121 g120 g84 F x = some y) : KOne Tryz.prog 86 ⟨[.v (.slice 34 poly), .v i64], [(.slice 44 (.slice 2 i64))], true, false, 0, cf⟩ :=
  fn_one rfl (c := bodyOf Tryz.f86) mixed tt_ok hK Tryz.func86 (by kernel_rfl) (by kernel_rfl) (Nat.le_of_ble_eq_true (by kernel_rfl)) (by decide) fun x y hxy => by
    obtain ⟨F, hF⟩ := h x y hxy
    exact ⟨[(3, ls86_3 g161 g89 g121 g120 g84 F)], LTOK_by (l := [loopOf Tryz.f86 3]) (by kernel_rfl) ⟨ls_at (by kernel_rfl) (ok86_3 g161 g89 g121 g120 g84 F hK), trivial⟩, (ev86 g161 g89 g121 g120 g84 F x).trans hF⟩
abbrev R97 : Type := Ress [(.slice 44 (.slice 2 i64))]
abbrev G97 : Type := Args [.v (.slice 34 poly), .v i64] → Option R97
abbrev kp97 : List (Nat × List Nat) := [(0, [1, 0]), (1, [1, 5, 0]), (2, [13, 1, 5, 11, 0, 12]), (3, [14, 13, 1, 5, 11, 0, 12]), (4, [7, 13, 1, 5, 11, 0, 12]), (5, [20, 7, 13, 1, 5, 11, 0, 12]), (6, [29, 1, 7, 5, 27, 13, 11, 0, 12, 28]), (7, [30, 5, 29, 1, 7, 27, 13, 11, 0, 12, 28]), (8, [5, 9, 29, 1, 7, 27, 13, 11, 0, 12, 28]), (9, [29, 1, 7, 5, 27, 13, 11, 0, 12, 28]), (10, [29, 1, 7, 5, 27, 13, 11, 0, 12, 28]), (11, [13, 1, 5, 11, 0, 12]), (12, [50, 5, 0]), (13, [4]), (14, [4])]
abbrev ct97 (g176 : G176) (g174 : G174) (g175 : G175) (g127 : G127) (g98 : G98) (g95 : G95) : CTab := [(176, ⟨[.v i64, .v (.slice 44 (.slice 2 i64))], [(.slice 44 (.slice 2 i64))], true, false, 0, g176⟩), (174, ⟨[.v i64, .v i64], [(.slice 107 ex)], true, false, 0, g174⟩), (175, ⟨[.v i64, .v i64, .v ex, .v i64], [poly], true, false, 0, g175⟩), (127, ⟨[.v poly, .v poly], [poly], true, false, 0, g127⟩), (98, ⟨[.v poly, .v i64], [(.slice 2 i64)], true, false, 0, g98⟩), (95, ⟨[.v poly], [i64], false, false, 0, g95⟩)]
abbrev kr97 : Env → Option R97 := endK TT [.tmp 4] [(.slice 44 (.slice 2 i64))] true false
abbrev sh97_7 : Shape := [(0, .val false [.fz (.slice 34 poly) 0 true]), (1, vv i64), (5, vr 44 (.slice 2 i64) 81 false), (7, .box false [.fz i64 0 false, .fz i64 0 false, .fz (.slice 135 term) 0 true]), (11, .val false [.fz (.slice 34 poly) 0 true]), (12, vv i64), (13, vv i64), (27, vr 107 ex 433 false), (28, vv i64), (29, vv i64)]
def st97_7 (g176 : G176) (g174 : G174) (g175 : G175) (g127 : G127) (g98 : G98) (g95 : G95) (F : Nat) (s : ShVal sh97_7) (k kx : ShVal sh97_7 → Option R97) : Option R97 :=
  match s with
  | ((t0, _), (t1, _), (t5, _), (t7_0, t7_1, t7_2, _), (t11, _), (t12, _), (t13, _), (t27, _), (t28, _), (t29, _), _) => (bif decide (t29 < t28) then (bif ib t29 (Int.ofNat (List.length t27)) then (match (g175 (t7_0, (t7_1, ((List.getD t27 (tn t29) (Ty.dflt (.arr 3 (.int .u8)))), ((1 : Int), ()))))) with | some r39 => (match (g127 ((t7_0, (t7_1, (t7_2, ()))), ((r39.1.1, (r39.1.2.1, (r39.1.2.2.1, ()))), ()))) with | some r40 => (match (g98 ((r40.1.1, (r40.1.2.1, (r40.1.2.2.1, ()))), (t1, ()))) with | some r41 => (bif (growOk (List.length t5) (List.length (r41.1 :: []))) then k ((t0, ()), ((t1, ()), (((t5 ++ (r41.1 :: [])), ()), ((t7_0, (t7_1, (t7_2, ()))), ((t11, ()), ((t12, ()), ((t13, ()), ((t27, ()), ((t28, ()), (((w6 (t29 + (1 : Int))), ()), ())))))))))) else none) | none => none) | none => none) | none => none) else none) else kx ((t0, ()), ((t1, ()), ((t5, ()), ((t7_0, (t7_1, (t7_2, ()))), ((t11, ()), ((t12, ()), ((t13, ()), ((t27, ()), ((t28, ()), ((t29, ()), ())))))))))))
def ru97_7 (g176 : G176) (g174 : G174) (g175 : G175) (g127 : G127) (g98 : G98) (g95 : G95) (F : Nat) (s : ShVal sh97_7) (kx : ShVal sh97_7 → Option R97) : Option R97 := iter (fun s k => st97_7 g176 g174 g175 g127 g98 g95 F s k kx) F s
abbrev ls97_7 (g176 : G176) (g174 : G174) (g175 : G175) (g127 : G127) (g98 : G98) (g95 : G95) (F : Nat) : LS R97 := ⟨sh97_7, 2, ru97_7 g176 g174 g175 g127 g98 g95 F⟩
abbrev sh97_3 : Shape := [(0, .val false [.fz (.slice 34 poly) 0 true]), (1, vv i64), (5, vr 44 (.slice 2 i64) 81 false), (11, .val false [.fz (.slice 34 poly) 0 true]), (12, vv i64), (13, vv i64)]
def st97_3 (g176 : G176) (g174 : G174) (g175 : G175) (g127 : G127) (g98 : G98) (g95 : G95) (F : Nat) (s : ShVal sh97_3) (k kx : ShVal sh97_3 → Option R97) : Option R97 :=
  match s with
  | ((t0, _), (t1, _), (t5, _), (t11, _), (t12, _), (t13, _), _) => (bif decide (t13 < t12) then (bif ib t13 (Int.ofNat (List.length t11)) then (match (g95 (((List.getD t11 (tn t13) (Ty.dflt (.pair (.int .i64) (.pair (.int .i64) (.pair (.slice 135 (.pair (.arr 3 (.int .u8)) (.pair (.int .i64) .unit))) .unit))))).1, ((List.getD t11 (tn t13) (Ty.dflt (.pair (.int .i64) (.pair (.int .i64) (.pair (.slice 135 (.pair (.arr 3 (.int .u8)) (.pair (.int .i64) .unit))) .unit))))).2.1, ((List.getD t11 (tn t13) (Ty.dflt (.pair (.int .i64) (.pair (.int .i64) (.pair (.slice 135 (.pair (.arr 3 (.int .u8)) (.pair (.int .i64) .unit))) .unit))))).2.2.1, ()))), ())) with | some r20 => (bif decide (t1 < r20.1) then k ((t0, ()), ((t1, ()), ((t5, ()), ((t11, ()), ((t12, ()), (((w6 (t13 + (1 : Int))), ()), ())))))) else (match (g95 (((List.getD t11 (tn t13) (Ty.dflt (.pair (.int .i64) (.pair (.int .i64) (.pair (.slice 135 (.pair (.arr 3 (.int .u8)) (.pair (.int .i64) .unit))) .unit))))).1, ((List.getD t11 (tn t13) (Ty.dflt (.pair (.int .i64) (.pair (.int .i64) (.pair (.slice 135 (.pair (.arr 3 (.int .u8)) (.pair (.int .i64) .unit))) .unit))))).2.1, ((List.getD t11 (tn t13) (Ty.dflt (.pair (.int .i64) (.pair (.int .i64) (.pair (.slice 135 (.pair (.arr 3 (.int .u8)) (.pair (.int .i64) .unit))) .unit))))).2.2.1, ()))), ())) with | some r22 => (match (g174 ((List.getD t11 (tn t13) (Ty.dflt (.pair (.int .i64) (.pair (.int .i64) (.pair (.slice 135 (.pair (.arr 3 (.int .u8)) (.pair (.int .i64) .unit))) .unit))))).2.1, ((w6 (t1 - r22.1)), ()))) with | some r23 => (bif decide ((List.length r23.1) ≤ 9223372036854775807) then (ru97_7 g176 g174 g175 g127 g98 g95 F ((t0, ()), ((t1, ()), ((t5, ()), (((List.getD t11 (tn t13) (Ty.dflt (.pair (.int .i64) (.pair (.int .i64) (.pair (.slice 135 (.pair (.arr 3 (.int .u8)) (.pair (.int .i64) .unit))) .unit))))).1, ((List.getD t11 (tn t13) (Ty.dflt (.pair (.int .i64) (.pair (.int .i64) (.pair (.slice 135 (.pair (.arr 3 (.int .u8)) (.pair (.int .i64) .unit))) .unit))))).2.1, ((List.getD t11 (tn t13) (Ty.dflt (.pair (.int .i64) (.pair (.int .i64) (.pair (.slice 135 (.pair (.arr 3 (.int .u8)) (.pair (.int .i64) .unit))) .unit))))).2.2.1, ()))), ((t11, ()), ((t12, ()), ((t13, ()), ((r23.1, ()), (((Int.ofNat (List.length r23.1)), ()), (((0 : Int), ()), ())))))))))) (fun s' => match s' with | ((t0, _), (t1, _), (t5, _), (t7_0, t7_1, t7_2, _), (t11, _), (t12, _), (t13, _), (t27, _), (t28, _), (t29, _), _) => k ((t0, ()), ((t1, ()), ((t5, ()), ((t11, ()), ((t12, ()), (((w6 (t13 + (1 : Int))), ()), ())))))))) else none) | none => none) | none => none)) | none => none) else none) else kx ((t0, ()), ((t1, ()), ((t5, ()), ((t11, ()), ((t12, ()), ((t13, ()), ())))))))
def ru97_3 (g176 : G176) (g174 : G174) (g175 : G175) (g127 : G127) (g98 : G98) (g95 : G95) (F : Nat) (s : ShVal sh97_3) (kx : ShVal sh97_3 → Option R97) : Option R97 := iter (fun s k => st97_3 g176 g174 g175 g127 g98 g95 F s k kx) F s
abbrev ls97_3 (g176 : G176) (g174 : G174) (g175 : G175) (g127 : G127) (g98 : G98) (g95 : G95) (F : Nat) : LS R97 := ⟨sh97_3, 0, ru97_3 g176 g174 g175 g127 g98 g95 F⟩
def fn97 (g176 : G176) (g174 : G174) (g175 : G175) (g127 : G127) (g98 : G98) (g95 : G95) (F : Nat) (x : Args [.v (.slice 34 poly), .v i64]) : Option R97 :=
  match x with
  | (x0, x1, _) => (bif decide ((List.length x0) ≤ 9223372036854775807) then (ru97_3 g176 g174 g175 g127 g98 g95 F ((x0, ()), ((x1, ()), (([], ()), ((x0, ()), (((Int.ofNat (List.length x0)), ()), (((0 : Int), ()), ())))))) (fun s' => match s' with | ((t0, _), (t1, _), (t5, _), (t11, _), (t12, _), (t13, _), _) => (bif decide ((List.length t5) ≤ 9223372036854775807) then (bif decide ((Int.ofNat (List.length t5)) = (0 : Int)) then (some ([], ())) else (bif ib (0 : Int) (Int.ofNat (List.length t0)) then (match (g176 ((List.getD t0 (tn (0 : Int)) (Ty.dflt (.pair (.int .i64) (.pair (.int .i64) (.pair (.slice 135 (.pair (.arr 3 (.int .u8)) (.pair (.int .i64) .unit))) .unit))))).1, (t5, ()))) with | some r19 => (some (r19.1, ())) | none => none) else none)) else none))) else none)
theorem ev97_7 (g176 : G176) (g174 : G174) (g175 : G175) (g127 : G127) (g98 : G98) (g95 : G95) (F : Nat) (s : ShVal sh97_7) (k kx : ShVal sh97_7 → Option R97) : evL TT (ct97 g176 g174 g175 g127 g98 g95 ) kp97 [] (loopOf Tryz.f97 7) (envOf sh97_7 s) (fitK sh97_7 k) (fun j e => bif Nat.beq j 2 then fitK sh97_7 kx e else none) kr97 = st97_7 g176 g174 g175 g127 g98 g95 F s k kx := by
  obtain ⟨⟨t0, _⟩, ⟨t1, _⟩, ⟨t5, _⟩, ⟨t7_0, t7_1, t7_2, _⟩, ⟨t11, _⟩, ⟨t12, _⟩, ⟨t13, _⟩, ⟨t27, _⟩, ⟨t28, _⟩, ⟨t29, _⟩, _⟩ := s
  kernel_rfl
theorem ok97_7 (g176 : G176) (g174 : G174) (g175 : G175) (g127 : G127) (g98 : G98) (g95 : G95) (F : Nat) (hK : KOK Tryz.prog (ct97 g176 g174 g175 g127 g98 g95 )) : LSOK Tryz.prog ⟨57, false, undef⟩ (ls97_7 g176 g174 g175 g127 g98 g95 F) (loopOf Tryz.f97 7) kr97 :=
  loop_ok (st97_7 g176 g174 g175 g127 g98 g95 F) mixed tt_ok hK (by kernel_rfl) (LTOK_by (l := []) (by kernel_rfl) trivial) (ev97_7 g176 g174 g175 g127 g98 g95 F)
theorem ev97_3 (g176 : G176) (g174 : G174) (g175 : G175) (g127 : G127) (g98 : G98) (g95 : G95) (F : Nat) (s : ShVal sh97_3) (k kx : ShVal sh97_3 → Option R97) : evL TT (ct97 g176 g174 g175 g127 g98 g95 ) kp97 [(7, ls97_7 g176 g174 g175 g127 g98 g95 F)] (loopOf Tryz.f97 3) (envOf sh97_3 s) (fitK sh97_3 k) (fun j e => bif Nat.beq j 0 then fitK sh97_3 kx e else none) kr97 = st97_3 g176 g174 g175 g127 g98 g95 F s k kx := by
  obtain ⟨⟨t0, _⟩, ⟨t1, _⟩, ⟨t5, _⟩, ⟨t11, _⟩, ⟨t12, _⟩, ⟨t13, _⟩, _⟩ := s
  kernel_rfl
theorem ok97_3 (g176 : G176) (g174 : G174) (g175 : G175) (g127 : G127) (g98 : G98) (g95 : G95) (F : Nat) (hK : KOK Tryz.prog (ct97 g176 g174 g175 g127 g98 g95 )) : LSOK Tryz.prog ⟨57, false, undef⟩ (ls97_3 g176 g174 g175 g127 g98 g95 F) (loopOf Tryz.f97 3) kr97 :=
  loop_ok (st97_3 g176 g174 g175 g127 g98 g95 F) mixed tt_ok hK (by kernel_rfl) (LTOK_by (l := [loopOf Tryz.f97 7]) (by kernel_rfl) ⟨ls_at (by kernel_rfl) (ok97_7 g176 g174 g175 g127 g98 g95 F hK), trivial⟩) (ev97_3 g176 g174 g175 g127 g98 g95 F)
theorem ev97 (g176 : G176) (g174 : G174) (g175 : G175) (g127 : G127) (g98 : G98) (g95 : G95) (F : Nat) (x : Args [.v (.slice 34 poly), .v i64]) : fnK TT (ct97 g176 g174 g175 g127 g98 g95 ) kp97 [(.slice 44 (.slice 2 i64))] [(3, ls97_3 g176 g174 g175 g127 g98 g95 F)] (bodyOf Tryz.f97) [.tmp 4] [.v (.slice 34 poly), .v i64] true false x = fn97 g176 g174 g175 g127 g98 g95 F x := by
  obtain ⟨x0, x1, _⟩ := x
  kernel_rfl
theorem ok97 (g176 : G176) (g174 : G174) (g175 : G175) (g127 : G127) (g98 : G98) (g95 : G95) (hK : KOK Tryz.prog (ct97 g176 g174 g175 g127 g98 g95 )) (cf : G97) (h : ∀ x y, cf x = some y → ∃ F, fn97 g176 g174 g175 g127 g98 g95 F x = some y) : KOne Tryz.prog 97 ⟨[.v (.slice 34 poly), .v i64], [(.slice 44 (.slice 2 i64))], true, false, 0, cf⟩ :=
  fn_one rfl (c := bodyOf Tryz.f97) mixed tt_ok hK Tryz.func97 (by kernel_rfl) (by kernel_rfl) (Nat.le_of_ble_eq_true (by kernel_rfl)) (by decide) fun x y hxy => by
    obtain ⟨F, hF⟩ := h x y hxy
    exact ⟨[(3, ls97_3 g176 g174 g175 g127 g98 g95 F)], LTOK_by (l := [loopOf Tryz.f97 3]) (by kernel_rfl) ⟨ls_at (by kernel_rfl) (ok97_3 g176 g174 g175 g127 g98 g95 F hK), trivial⟩, (ev97 g176 g174 g175 g127 g98 g95 F x).trans hF⟩
abbrev R100 : Type := Ress [i64]
abbrev G100 : Type := Args [.v (.slice 34 poly), .v i64, .v i64] → Option R100
abbrev kp100 : List (Nat × List Nat) := [(0, [0, 1, 2]), (1, [1, 2, 7]), (2, [17, 7]), (3, [7]), (4, [6])]
abbrev ct100 (g82 : G82) (g131 : G131) : CTab := [(82, ⟨[.v (.slice 34 poly), .v i64], [i64], false, false, 0, g82⟩), (131, ⟨[.v i64, .v i64, .v i64], [.bool], false, false, 0, g131⟩)]
def fn100 (g82 : G82) (g131 : G131) (F : Nat) (x : Args [.v (.slice 34 poly), .v i64, .v i64]) : Option R100 :=
  match x with
  | (x0, x1, x2, _) => (match (g82 (x0, ((0 : Int), ()))) with | some r7 => (bif decide (r7.1 = (0 : Int)) then (match (g131 (x1, (x2, ((12 : Int), ())))) with | some r9 => (bif (bif true then (!r9.1) else false) then (some ((2 : Int), ())) else (some (r7.1, ()))) | none => none) else (some (r7.1, ()))) | none => none)
theorem ev100 (g82 : G82) (g131 : G131) (F : Nat) (x : Args [.v (.slice 34 poly), .v i64, .v i64]) : fnK TT (ct100 g82 g131 ) kp100 [i64] [] (bodyOf Tryz.f100) [.tmp 6] [.v (.slice 34 poly), .v i64, .v i64] false false x = fn100 g82 g131 F x := by
  obtain ⟨x0, x1, x2, _⟩ := x
  kernel_rfl
theorem ok100 (g82 : G82) (g131 : G131) (hK : KOK Tryz.prog (ct100 g82 g131 )) (cf : G100) (h : ∀ x y, cf x = some y → ∃ F, fn100 g82 g131 F x = some y) : KOne Tryz.prog 100 ⟨[.v (.slice 34 poly), .v i64, .v i64], [i64], false, false, 0, cf⟩ :=
  fn_one rfl (c := bodyOf Tryz.f100) mixed tt_ok hK Tryz.func100 (by kernel_rfl) (by kernel_rfl) (Nat.le_of_ble_eq_true (by kernel_rfl)) (by decide) fun x y hxy => by
    obtain ⟨F, hF⟩ := h x y hxy
    exact ⟨[], LTOK_by (l := []) (by kernel_rfl) trivial, (ev100 g82 g131 F x).trans hF⟩
abbrev R101 : Type := Ress [i64]
abbrev G101 : Type := Args [.v i64, .v i64, .v (.slice 34 poly), .v i64] → Option R101
abbrev kp101 : List (Nat × List Nat) := [(0, [1, 0, 2, 3]), (1, [8])]
abbrev ct101 (g161 : G161) (g86 : G86) (g85 : G85) : CTab := [(161, ⟨[.v i64, .v i64], [(.slice 107 ex)], true, false, 0, g161⟩), (86, ⟨[.v (.slice 34 poly), .v i64], [(.slice 44 (.slice 2 i64))], true, false, 0, g86⟩), (85, ⟨[.v i64, .v (.slice 44 (.slice 2 i64))], [(.slice 44 (.slice 2 i64))], false, false, 0, g85⟩)]
def fn101 (g161 : G161) (g86 : G86) (g85 : G85) (F : Nat) (x : Args [.v i64, .v i64, .v (.slice 34 poly), .v i64]) : Option R101 :=
  match x with
  | (x0, x1, x2, x3, _) => (match (g161 (x1, (x3, ()))) with | some r9 => (bif decide ((List.length r9.1) ≤ 9223372036854775807) then (match (g86 (x2, (x3, ()))) with | some r10 => (match (g85 (x0, (r10.1, ()))) with | some r11 => (bif decide ((List.length r11.1) ≤ 9223372036854775807) then (some ((w6 ((Int.ofNat (List.length r9.1)) - (Int.ofNat (List.length r11.1)))), ())) else none) | none => none) | none => none) else none) | none => none)
theorem ev101 (g161 : G161) (g86 : G86) (g85 : G85) (F : Nat) (x : Args [.v i64, .v i64, .v (.slice 34 poly), .v i64]) : fnK TT (ct101 g161 g86 g85 ) kp101 [i64] [] (bodyOf Tryz.f101) [.tmp 8] [.v i64, .v i64, .v (.slice 34 poly), .v i64] false false x = fn101 g161 g86 g85 F x := by
  obtain ⟨x0, x1, x2, x3, _⟩ := x
  kernel_rfl
theorem ok101 (g161 : G161) (g86 : G86) (g85 : G85) (hK : KOK Tryz.prog (ct101 g161 g86 g85 )) (cf : G101) (h : ∀ x y, cf x = some y → ∃ F, fn101 g161 g86 g85 F x = some y) : KOne Tryz.prog 101 ⟨[.v i64, .v i64, .v (.slice 34 poly), .v i64], [i64], false, false, 0, cf⟩ :=
  fn_one rfl (c := bodyOf Tryz.f101) mixed tt_ok hK Tryz.func101 (by kernel_rfl) (by kernel_rfl) (Nat.le_of_ble_eq_true (by kernel_rfl)) (by decide) fun x y hxy => by
    obtain ⟨F, hF⟩ := h x y hxy
    exact ⟨[], LTOK_by (l := []) (by kernel_rfl) trivial, (ev101 g161 g86 g85 F x).trans hF⟩
abbrev R179 : Type := Ress [.bool]
abbrev G179 : Type := Args [.v i64] → Option R179
abbrev kp179 : List (Nat × List Nat) := [(0, [0]), (1, [2])]
abbrev ct179 : CTab := []
def fn179 (F : Nat) (x : Args [.v i64]) : Option R179 :=
  match x with
  | (x0, _) => (bif decide ((0 : Int) ≤ x0) then (some ((bif true then decide (x0 ≤ (12 : Int)) else false), ())) else (some (false, ())))
theorem ev179 (F : Nat) (x : Args [.v i64]) : fnK TT (ct179 ) kp179 [.bool] [] (bodyOf Tryz.f179) [.tmp 2] [.v i64] false false x = fn179 F x := by
  obtain ⟨x0, _⟩ := x
  kernel_rfl
theorem ok179 (hK : KOK Tryz.prog (ct179 )) (cf : G179) (h : ∀ x y, cf x = some y → ∃ F, fn179 F x = some y) : KOne Tryz.prog 179 ⟨[.v i64], [.bool], false, false, 0, cf⟩ :=
  fn_one rfl (c := bodyOf Tryz.f179) mixed tt_ok hK Tryz.func179 (by kernel_rfl) (by kernel_rfl) (Nat.le_of_ble_eq_true (by kernel_rfl)) (by decide) fun x y hxy => by
    obtain ⟨F, hF⟩ := h x y hxy
    exact ⟨[], LTOK_by (l := []) (by kernel_rfl) trivial, (ev179 F x).trans hF⟩
abbrev R102 : Type := Ress [i64]
abbrev G102 : Type := Args [.v (.slice 34 poly), .v i64] → Option R102
abbrev kp102 : List (Nat × List Nat) := [(0, [0, 1]), (1, [1, 5]), (2, [9, 1, 5]), (3, [4]), (4, [13]), (5, [4]), (6, [4])]
abbrev ct102 (g92 : G92) (g179 : G179) : CTab := [(92, ⟨[.v (.slice 34 poly)], [i64], false, false, 0, g92⟩), (179, ⟨[.v i64], [.bool], false, false, 0, g179⟩)]
def fn102 (g92 : G92) (g179 : G179) (F : Nat) (x : Args [.v (.slice 34 poly), .v i64]) : Option R102 :=
  match x with
  | (x0, x1, _) => (match (g92 (x0, ())) with | some r6 => (bif (!decide (r6.1 = (0 : Int))) then (some (r6.1, ())) else (match (g179 (x1, ())) with | some r9 => (bif (!r9.1) then (some ((2 : Int), ())) else (some ((0 : Int), ()))) | none => none)) | none => none)
theorem ev102 (g92 : G92) (g179 : G179) (F : Nat) (x : Args [.v (.slice 34 poly), .v i64]) : fnK TT (ct102 g92 g179 ) kp102 [i64] [] (bodyOf Tryz.f102) [.tmp 4] [.v (.slice 34 poly), .v i64] false false x = fn102 g92 g179 F x := by
  obtain ⟨x0, x1, _⟩ := x
  kernel_rfl
theorem ok102 (g92 : G92) (g179 : G179) (hK : KOK Tryz.prog (ct102 g92 g179 )) (cf : G102) (h : ∀ x y, cf x = some y → ∃ F, fn102 g92 g179 F x = some y) : KOne Tryz.prog 102 ⟨[.v (.slice 34 poly), .v i64], [i64], false, false, 0, cf⟩ :=
  fn_one rfl (c := bodyOf Tryz.f102) mixed tt_ok hK Tryz.func102 (by kernel_rfl) (by kernel_rfl) (Nat.le_of_ble_eq_true (by kernel_rfl)) (by decide) fun x y hxy => by
    obtain ⟨F, hF⟩ := h x y hxy
    exact ⟨[], LTOK_by (l := []) (by kernel_rfl) trivial, (ev102 g92 g179 F x).trans hF⟩
abbrev R103 : Type := Ress [i64]
abbrev G103 : Type := Args [.v i64, .v (.slice 34 poly), .v i64] → Option R103
abbrev kp103 : List (Nat × List Nat) := [(0, [0, 1, 2]), (1, [6])]
abbrev ct103 (g174 : G174) (g97 : G97) : CTab := [(174, ⟨[.v i64, .v i64], [(.slice 107 ex)], true, false, 0, g174⟩), (97, ⟨[.v (.slice 34 poly), .v i64], [(.slice 44 (.slice 2 i64))], true, false, 0, g97⟩)]
def fn103 (g174 : G174) (g97 : G97) (F : Nat) (x : Args [.v i64, .v (.slice 34 poly), .v i64]) : Option R103 :=
  match x with
  | (x0, x1, x2, _) => (match (g174 (x0, (x2, ()))) with | some r7 => (bif decide ((List.length r7.1) ≤ 9223372036854775807) then (match (g97 (x1, (x2, ()))) with | some r8 => (bif decide ((List.length r8.1) ≤ 9223372036854775807) then (some ((w6 ((Int.ofNat (List.length r7.1)) - (Int.ofNat (List.length r8.1)))), ())) else none) | none => none) else none) | none => none)
theorem ev103 (g174 : G174) (g97 : G97) (F : Nat) (x : Args [.v i64, .v (.slice 34 poly), .v i64]) : fnK TT (ct103 g174 g97 ) kp103 [i64] [] (bodyOf Tryz.f103) [.tmp 6] [.v i64, .v (.slice 34 poly), .v i64] false false x = fn103 g174 g97 F x := by
  obtain ⟨x0, x1, x2, _⟩ := x
  kernel_rfl
theorem ok103 (g174 : G174) (g97 : G97) (hK : KOK Tryz.prog (ct103 g174 g97 )) (cf : G103) (h : ∀ x y, cf x = some y → ∃ F, fn103 g174 g97 F x = some y) : KOne Tryz.prog 103 ⟨[.v i64, .v (.slice 34 poly), .v i64], [i64], false, false, 0, cf⟩ :=
  fn_one rfl (c := bodyOf Tryz.f103) mixed tt_ok hK Tryz.func103 (by kernel_rfl) (by kernel_rfl) (Nat.le_of_ble_eq_true (by kernel_rfl)) (by decide) fun x y hxy => by
    obtain ⟨F, hF⟩ := h x y hxy
    exact ⟨[], LTOK_by (l := []) (by kernel_rfl) trivial, (ev103 g174 g97 F x).trans hF⟩
abbrev R37 : Type := Ress [(.slice 2 i64), i64]
abbrev G37 : Type := Args [.v (.slice 34 poly), .v i64] → Option R37
abbrev kp37 : List (Nat × List Nat) := [(0, [1, 0]), (1, [1, 0, 6]), (2, [13, 1, 0, 6]), (3, [5, 4]), (4, [0, 7, 1]), (5, [8, 0, 7, 1]), (6, [18, 7, 8, 0, 1]), (8, [8, 0, 7, 1]), (7, [8, 0, 7, 1]), (9, [5, 4])]
abbrev ct37 (g100 : G100) (g101 : G101) : CTab := [(100, ⟨[.v (.slice 34 poly), .v i64, .v i64], [i64], false, false, 0, g100⟩), (101, ⟨[.v i64, .v i64, .v (.slice 34 poly), .v i64], [i64], false, false, 0, g101⟩)]
abbrev kr37 : Env → Option R37 := endK TT [.tmp 4, .tmp 5] [(.slice 2 i64), i64] true false
abbrev sh37_6 : Shape := [(0, .val false [.fz (.slice 34 poly) 0 true]), (1, vv i64), (7, vr 2 i64 113 false), (8, vv i64)]
def st37_6 (g100 : G100) (g101 : G101) (F : Nat) (s : ShVal sh37_6) (k kx : ShVal sh37_6 → Option R37) : Option R37 :=
  match s with
  | ((t0, _), (t1, _), (t7, _), (t8, _), _) => (bif decide (t8 ≤ t1) then (bif ib (0 : Int) (Int.ofNat (List.length t0)) then (bif ib (0 : Int) (Int.ofNat (List.length t0)) then (match (g101 ((List.getD t0 (tn (0 : Int)) (Ty.dflt (.pair (.int .i64) (.pair (.int .i64) (.pair (.slice 135 (.pair (.arr 3 (.int .u8)) (.pair (.int .i64) .unit))) .unit))))).1, ((List.getD t0 (tn (0 : Int)) (Ty.dflt (.pair (.int .i64) (.pair (.int .i64) (.pair (.slice 135 (.pair (.arr 3 (.int .u8)) (.pair (.int .i64) .unit))) .unit))))).2.1, (t0, (t8, ()))))) with | some r16 => (bif (growOk (List.length t7) (List.length (r16.1 :: []))) then k ((t0, ()), ((t1, ()), (((t7 ++ (r16.1 :: [])), ()), (((w6 (t8 + (1 : Int))), ()), ())))) else none) | none => none) else none) else none) else kx ((t0, ()), ((t1, ()), ((t7, ()), ((t8, ()), ())))))
def ru37_6 (g100 : G100) (g101 : G101) (F : Nat) (s : ShVal sh37_6) (kx : ShVal sh37_6 → Option R37) : Option R37 := iter (fun s k => st37_6 g100 g101 F s k kx) F s
abbrev ls37_6 (g100 : G100) (g101 : G101) (F : Nat) : LS R37 := ⟨sh37_6, 0, ru37_6 g100 g101 F⟩
def fn37 (g100 : G100) (g101 : G101) (F : Nat) (x : Args [.v (.slice 34 poly), .v i64]) : Option R37 :=
  match x with
  | (x0, x1, _) => (match (g100 (x0, (x1, ((0 : Int), ())))) with | some r6 => (bif (!decide (r6.1 = (0 : Int))) then (some ([], (r6.1, ()))) else (ru37_6 g100 g101 F ((x0, ()), ((x1, ()), (([], ()), (((0 : Int), ()), ())))) (fun s' => match s' with | ((t0, _), (t1, _), (t7, _), (t8, _), _) => (some (t7, ((0 : Int), ())))))) | none => none)
theorem ev37_6 (g100 : G100) (g101 : G101) (F : Nat) (s : ShVal sh37_6) (k kx : ShVal sh37_6 → Option R37) : evL TT (ct37 g100 g101 ) kp37 [] (loopOf Tryz.f37 6) (envOf sh37_6 s) (fitK sh37_6 k) (fun j e => bif Nat.beq j 0 then fitK sh37_6 kx e else none) kr37 = st37_6 g100 g101 F s k kx := by
  obtain ⟨⟨t0, _⟩, ⟨t1, _⟩, ⟨t7, _⟩, ⟨t8, _⟩, _⟩ := s
  kernel_rfl
theorem ok37_6 (g100 : G100) (g101 : G101) (F : Nat) (hK : KOK Tryz.prog (ct37 g100 g101 )) : LSOK Tryz.prog ⟨36, false, undef⟩ (ls37_6 g100 g101 F) (loopOf Tryz.f37 6) kr37 :=
  loop_ok (st37_6 g100 g101 F) mixed tt_ok hK (by kernel_rfl) (LTOK_by (l := []) (by kernel_rfl) trivial) (ev37_6 g100 g101 F)
theorem ev37 (g100 : G100) (g101 : G101) (F : Nat) (x : Args [.v (.slice 34 poly), .v i64]) : fnK TT (ct37 g100 g101 ) kp37 [(.slice 2 i64), i64] [(6, ls37_6 g100 g101 F)] (bodyOf Tryz.f37) [.tmp 4, .tmp 5] [.v (.slice 34 poly), .v i64] true false x = fn37 g100 g101 F x := by
  obtain ⟨x0, x1, _⟩ := x
  kernel_rfl
theorem ok37 (g100 : G100) (g101 : G101) (hK : KOK Tryz.prog (ct37 g100 g101 )) (cf : G37) (h : ∀ x y, cf x = some y → ∃ F, fn37 g100 g101 F x = some y) : KOne Tryz.prog 37 ⟨[.v (.slice 34 poly), .v i64], [(.slice 2 i64), i64], true, false, 0, cf⟩ :=
  fn_one rfl (c := bodyOf Tryz.f37) mixed tt_ok hK Tryz.func37 (by kernel_rfl) (by kernel_rfl) (Nat.le_of_ble_eq_true (by kernel_rfl)) (by decide) fun x y hxy => by
    obtain ⟨F, hF⟩ := h x y hxy
    exact ⟨[(6, ls37_6 g100 g101 F)], LTOK_by (l := [loopOf Tryz.f37 6]) (by kernel_rfl) ⟨ls_at (by kernel_rfl) (ok37_6 g100 g101 F hK), trivial⟩, (ev37 g100 g101 F x).trans hF⟩
abbrev R38 : Type := Ress [(.slice 2 i64), i64]
abbrev G38 : Type := Args [.v (.slice 34 poly), .v i64] → Option R38
abbrev kp38 : List (Nat × List Nat) := [(0, [0, 1]), (1, [0, 1, 6]), (2, [13, 0, 1, 6]), (3, [5, 4]), (4, [1, 0, 7]), (5, [18, 0, 7, 17]), (6, [19, 7, 18, 0, 17]), (7, [7, 8, 18, 0, 17]), (8, [18, 0, 7, 17]), (9, [18, 0, 7, 17]), (10, [5, 4])]
abbrev ct38 (g102 : G102) (g103 : G103) : CTab := [(102, ⟨[.v (.slice 34 poly), .v i64], [i64], false, false, 0, g102⟩), (103, ⟨[.v i64, .v (.slice 34 poly), .v i64], [i64], false, false, 0, g103⟩)]
abbrev kr38 : Env → Option R38 := endK TT [.tmp 4, .tmp 5] [(.slice 2 i64), i64] true false
abbrev sh38_6 : Shape := [(0, .val false [.fz (.slice 34 poly) 0 true]), (7, vr 2 i64 113 false), (17, vv i64), (18, vv i64)]
def st38_6 (g102 : G102) (g103 : G103) (F : Nat) (s : ShVal sh38_6) (k kx : ShVal sh38_6 → Option R38) : Option R38 :=
  match s with
  | ((t0, _), (t7, _), (t17, _), (t18, _), _) => (bif decide (t18 < t17) then (bif ib (0 : Int) (Int.ofNat (List.length t0)) then (match (g103 ((List.getD t0 (tn (0 : Int)) (Ty.dflt (.pair (.int .i64) (.pair (.int .i64) (.pair (.slice 135 (.pair (.arr 3 (.int .u8)) (.pair (.int .i64) .unit))) .unit))))).2.1, (t0, (t18, ())))) with | some r17 => (bif (growOk (List.length t7) (List.length (r17.1 :: []))) then k ((t0, ()), (((t7 ++ (r17.1 :: [])), ()), ((t17, ()), (((w6 (t18 + (1 : Int))), ()), ())))) else none) | none => none) else none) else kx ((t0, ()), ((t7, ()), ((t17, ()), ((t18, ()), ())))))
def ru38_6 (g102 : G102) (g103 : G103) (F : Nat) (s : ShVal sh38_6) (kx : ShVal sh38_6 → Option R38) : Option R38 := iter (fun s k => st38_6 g102 g103 F s k kx) F s
abbrev ls38_6 (g102 : G102) (g103 : G103) (F : Nat) : LS R38 := ⟨sh38_6, 0, ru38_6 g102 g103 F⟩
def fn38 (g102 : G102) (g103 : G103) (F : Nat) (x : Args [.v (.slice 34 poly), .v i64]) : Option R38 :=
  match x with
  | (x0, x1, _) => (match (g102 (x0, (x1, ()))) with | some r6 => (bif (!decide (r6.1 = (0 : Int))) then (some ([], (r6.1, ()))) else (ru38_6 g102 g103 F ((x0, ()), (([], ()), (((w6 (x1 + (1 : Int))), ()), (((0 : Int), ()), ())))) (fun s' => match s' with | ((t0, _), (t7, _), (t17, _), (t18, _), _) => (some (t7, ((0 : Int), ())))))) | none => none)
theorem ev38_6 (g102 : G102) (g103 : G103) (F : Nat) (s : ShVal sh38_6) (k kx : ShVal sh38_6 → Option R38) : evL TT (ct38 g102 g103 ) kp38 [] (loopOf Tryz.f38 6) (envOf sh38_6 s) (fitK sh38_6 k) (fun j e => bif Nat.beq j 0 then fitK sh38_6 kx e else none) kr38 = st38_6 g102 g103 F s k kx := by
  obtain ⟨⟨t0, _⟩, ⟨t7, _⟩, ⟨t17, _⟩, ⟨t18, _⟩, _⟩ := s
  kernel_rfl
theorem ok38_6 (g102 : G102) (g103 : G103) (F : Nat) (hK : KOK Tryz.prog (ct38 g102 g103 )) : LSOK Tryz.prog ⟨33, false, undef⟩ (ls38_6 g102 g103 F) (loopOf Tryz.f38 6) kr38 :=
  loop_ok (st38_6 g102 g103 F) mixed tt_ok hK (by kernel_rfl) (LTOK_by (l := []) (by kernel_rfl) trivial) (ev38_6 g102 g103 F)
theorem ev38 (g102 : G102) (g103 : G103) (F : Nat) (x : Args [.v (.slice 34 poly), .v i64]) : fnK TT (ct38 g102 g103 ) kp38 [(.slice 2 i64), i64] [(6, ls38_6 g102 g103 F)] (bodyOf Tryz.f38) [.tmp 4, .tmp 5] [.v (.slice 34 poly), .v i64] true false x = fn38 g102 g103 F x := by
  obtain ⟨x0, x1, _⟩ := x
  kernel_rfl
theorem ok38 (g102 : G102) (g103 : G103) (hK : KOK Tryz.prog (ct38 g102 g103 )) (cf : G38) (h : ∀ x y, cf x = some y → ∃ F, fn38 g102 g103 F x = some y) : KOne Tryz.prog 38 ⟨[.v (.slice 34 poly), .v i64], [(.slice 2 i64), i64], true, false, 0, cf⟩ :=
  fn_one rfl (c := bodyOf Tryz.f38) mixed tt_ok hK Tryz.func38 (by kernel_rfl) (by kernel_rfl) (Nat.le_of_ble_eq_true (by kernel_rfl)) (by decide) fun x y hxy => by
    obtain ⟨F, hF⟩ := h x y hxy
    exact ⟨[(6, ls38_6 g102 g103 F)], LTOK_by (l := [loopOf Tryz.f38 6]) (by kernel_rfl) ⟨ls_at (by kernel_rfl) (ok38_6 g102 g103 F hK), trivial⟩, (ev38 g102 g103 F x).trans hF⟩
open Go Go.RowKit Go.Proofs
noncomputable def mons (d n : Int) : List ex.den := match cf88 (d, n, ()) with | some x => x.1 | none => []
theorem mons_is {d n : Int} (hd : 1 ≤ d ∧ d ≤ 3) (hn : 0 ≤ n ∧ n ≤ 12) : cf88 (d, n, ()) = some (mons d n, ()) ∧ cf84 (d, n, ()) = some (mons d n, ()) ∧ (mons d n).Pairwise (fun a b => keyX a < keyX b) ∧ (∀ e ∈ mons d n, okX e) ∧ (mons d n).length ≤ 100 := by
  obtain ⟨m, h1, h2, h3, h4, h5⟩ := mons_ok hd hn
  have : mons d n = m := by unfold mons; rw [h1]
  rw [this]; exact ⟨h1, h2, h3, h4, h5⟩
def monsL (d n : Nat) : List ex.den := (List.range (n + 1)).flatMap fun i => (List.range (i + 1)).flatMap fun j => if (2 ≤ d ∨ i - j = 0) ∧ (3 ≤ d ∨ j = 0) then [(((n - i : Nat) : Int), ((i - j : Nat) : Int), (j : Int), ())] else []
theorem chkL : ((List.range 3).all fun d => (List.range 13).all fun n => match fn174 100 ((d : Int) + 1, (n : Int), ()) with | some x => eqX x.1 (monsL (d + 1) n) | none => false) = true := by kernel_rfl
def vrs (d : Int) (e : ex.den) : Prop := (2 ≤ d ∨ x1 e = 0) ∧ (3 ≤ d ∨ x2 e = 0)
theorem mons_mem {d n : Int} (hd : 1 ≤ d ∧ d ≤ 3) (hn : 0 ≤ n ∧ n ≤ 12) {e : ex.den} : e ∈ mons d n ↔ okX e ∧ degX e = n ∧ vrs d e := by
  have key := chkL
  rw [List.all_eq_true] at key
  have key := key (d.toNat - 1) (by simp; omega)
  rw [List.all_eq_true] at key
  have key := key n.toNat (by simp; omega)
  rw [show (((d.toNat - 1 : Nat) : Int) + 1) = d by omega, show ((n.toNat : Nat) : Int) = n by omega] at key
  have h1 : fn174 100 (d, n, ()) = some (mons d n, ()) := (mons_is hd hn).1
  rw [h1] at key
  have key := eqX_eq key
  change mons d n = monsL (d.toNat - 1 + 1) n.toNat at key
  rw [key]
  unfold monsL
  simp only [List.mem_flatMap, List.mem_range]
  constructor
  · rintro ⟨i, hi, j, hj, he⟩
    split at he
    · rename_i hc
      rw [List.mem_singleton] at he; subst he
      refine ⟨⟨?_, ?_, ?_⟩, ?_, ?_, ?_⟩
      · show 0 ≤ ((n.toNat - i : Nat) : Int) ∧ ((n.toNat - i : Nat) : Int) ≤ 255; omega
      · show 0 ≤ ((i - j : Nat) : Int) ∧ ((i - j : Nat) : Int) ≤ 255; omega
      · show 0 ≤ (j : Int) ∧ (j : Int) ≤ 255; omega
      · show ((n.toNat - i : Nat) : Int) + ((i - j : Nat) : Int) + (j : Int) = n; omega
      · show 2 ≤ d ∨ ((i - j : Nat) : Int) = 0
        rcases hc.1 with q | q
        · exact .inl (by omega)
        · exact .inr (by omega)
      · show 3 ≤ d ∨ (j : Int) = 0
        rcases hc.2 with q | q
        · exact .inl (by omega)
        · exact .inr (by omega)
    · cases he
  · rintro ⟨ho, hg, v1, v2⟩
    obtain ⟨a, b, c, _⟩ := e
    change Int at a; change Int at b; change Int at c
    obtain ⟨⟨a0, a1⟩, ⟨b0, b1⟩, ⟨c0, c1⟩⟩ := ho
    change (0 : Int) ≤ a at a0; change (0 : Int) ≤ b at b0; change (0 : Int) ≤ c at c0
    change a + b + c = n at hg
    change 2 ≤ d ∨ b = 0 at v1
    change 3 ≤ d ∨ c = 0 at v2
    refine ⟨n.toNat - a.toNat, by omega, c.toNat, by omega, ?_⟩
    have hcond : (2 ≤ d.toNat - 1 + 1 ∨ n.toNat - a.toNat - c.toNat = 0) ∧ (3 ≤ d.toNat - 1 + 1 ∨ c.toNat = 0) := by
      refine ⟨?_, ?_⟩
      · rcases v1 with q | q
        · exact .inl (by omega)
        · exact .inr (by omega)
      · rcases v2 with q | q
        · exact .inl (by omega)
        · exact .inr (by omega)
    rw [if_pos hcond, List.mem_singleton]
    have e1 : ((n.toNat - (n.toNat - a.toNat) : Nat) : Int) = a := by omega
    have e2 : ((n.toNat - a.toNat - c.toNat : Nat) : Int) = b := by omega
    have e3 : (c.toNat : Int) = c := by omega
    rw [e1, e2, e3]
theorem mons_deg {d n : Int} (hd : 1 ≤ d ∧ d ≤ 3) (hn : 0 ≤ n ∧ n ≤ 12) : ∀ e ∈ mons d n, degX e = n := fun e he => ((mons_mem hd hn).1 he).2.1
noncomputable def rwP (d n : Int) (ts : List term.den) : List Int := (mons d n).map (coT ts)
theorem rwP_len {d n : Int} {ts : List term.den} : (rwP d n ts).length = (mons d n).length := by simp [rwP]
theorem el_map {α : Type} {f : α → Int} {l : List α} (i : Nat) : el (l.map f) i = if h : i < l.length then f l[i] else 0 := by
  unfold el
  rw [List.getD_eq_getElem?_getD]
  split
  · rename_i h; rw [List.getElem?_map, List.getElem?_eq_getElem h]; rfl
  · rename_i h; rw [List.getElem?_eq_none (by simp; omega)]; rfl
theorem rwP_can {p d n : Int} {ts : List term.den} (hp : 0 < p) (h : CanT p ts) : Can p (mons d n).length (rwP d n ts) := by
  refine ⟨rwP_len, fun i => ?_⟩
  unfold rwP
  rw [el_map]
  split
  · exact coT_rng hp h
  · omega
theorem mapTake {α β : Type} {f : α → β} {l : List α} {i : Nat} (h : i < l.length) : (l.take (i + 1)).map f = (l.take i).map f ++ [f l[i]] := by rw [take_snoc h, List.map_append]; rfl
theorem flatTake {α β : Type} {f : α → List β} {l : List α} {i : Nat} (h : i < l.length) : (l.take (i + 1)).flatMap f = (l.take i).flatMap f ++ f l[i] := by rw [take_snoc h, List.flatMap_append]; simp
theorem getD_at {α : Type} {l : List α} {i : Nat} {d : α} (h : i < l.length) : l.getD i d = l[i] := by rw [List.getD_eq_getElem?_getD, List.getElem?_eq_getElem h]; rfl
noncomputable def cf362 : G89 := by
  classical exact fun x => if ((1 : Int) ≤ x.1.2.1 ∧ x.1.2.1 ≤ (3 : Int)) ∧ ((0 : Int) ≤ x.2.1 ∧ x.2.1 ≤ (12 : Int)) ∧ (tms x.1).length ≤ 1000000 then some (rwP x.1.2.1 x.2.1 (tms x.1), ()) else none
theorem k362 : KOne Tryz.prog 89 ⟨[.v poly, .v i64], [.slice 2 i64], true, false, 0, cf362⟩ := ok89 _ _ (.cons k84 (.cons k146 .nil)) cf362 fun x y h => by
  obtain ⟨⟨p, d, ts, u⟩, n, _⟩ := x
  change List term.den at ts
  change Int at d
  change Int at n
  simp only [cf362] at h
  split at h
  · rename_i hc
    injection h with h; subst h
    obtain ⟨h1, h2, h3⟩ := hc
    have h1 : 1 ≤ d ∧ d ≤ 3 := h1
    have h2 : 0 ≤ n ∧ n ≤ 12 := h2
    have h3 : ts.length ≤ 1000000 := h3
    obtain ⟨m1, m2, _, _, m5⟩ := mons_is h1 h2
    refine ⟨200, ?_⟩
    simp only [fn89]
    rw [m2]
    simp only [ru89_3]
    refine (iter_run (mons d n).length 200 (fun i => ((p, d, ts, ()), ((mons d n, ()), ((((mons d n).take i).map (coT ts), ()), (((i : Int), ()), ()))))) (by omega) (fun i hi k => ?_) (fun k => ?_)).trans rfl
    · simp only [st89_3]
      simp (disch := omega) only [dln_t, cond_true, ofn, dlt_t, ib_t, tn_cast, w6_id]
      have g : cf146 ((p, d, ts, ()), (mons d n).getD i (Ty.dflt (.arr 3 (.int .u8))), ()) = some (coT ts (mons d n)[i], ()) := by
        rw [getD_at hi]; exact if_pos h3
      rw [g]
      simp only
      rw [grow_t (by simp; omega), cond_true, mapTake hi]
      rfl
    · simp only [st89_3]
      simp (disch := omega) only [dln_t, cond_true, ofn, dlt_f, cond_false, List.take_length]
      rfl
  · cases h
theorem g362_ok {p d n : Int} {ts : List term.den} (hd : 1 ≤ d ∧ d ≤ 3) (hn : 0 ≤ n ∧ n ≤ 12) (hl : ts.length ≤ 1000000) : cf362 ((p, d, ts, ()), n, ()) = some (rwP d n ts, ()) := if_pos ⟨hd, hn, hl⟩
theorem run400 {e : ex.den} {ts : List term.den} (hl : ts.length ≤ 1000000) {F0 : Nat} : ∀ (r pre : List term.den) (F : Nat), r.length < F → pre ++ r = ts →
    iter (fun s k => st177_2 F0 s k (fun s' => match s' with | ((t3, _), (t8, _), (t9, _), (t10, _), _) => (some ((0 : Int), ())))) F ((e, ()), ((ts, ()), (((ts.length : Int), ()), (((pre.length : Int), ()), ())))) = some (coT r e, ())
  | [], pre, F, hF, he => by
    obtain ⟨F, rfl⟩ : ∃ f, F = f + 1 := ⟨F - 1, by simp at hF; omega⟩
    rw [List.append_nil] at he; subst he
    simp only [iter, st177_2]
    rw [dlt_f (by omega), cond_false]; rfl
  | t :: r, pre, F, hF, he => by
    obtain ⟨F, rfl⟩ : ∃ f, F = f + 1 := ⟨F - 1, by simp at hF; omega⟩
    have l1 : pre.length < ts.length := by rw [← he]; simp
    have g1 : ∀ dd, ts.getD pre.length dd = t := fun dd => by rw [← he]; exact getD_pre
    simp only [iter, st177_2]
    simp (disch := omega) only [cond_true, ofn, dlt_t, ib_t, tn_cast, w6_id, g1]
    rw [eqd_exB]
    simp only [coT]
    by_cases q : t.1 = e
    · rw [decide_eq_true q, if_pos q]; rfl
    · rw [decide_eq_false q, if_neg q, cond_false]
      have ih := run400 (e := e) hl (F0 := F0) r (pre ++ [t]) F (by simp at hF; omega) (by simpa using he)
      simp only [List.length_append, List.length_singleton] at ih
      exact ih
def cf400 : G177 := fun x => if (show List term.den from x.1.2.2.1).length ≤ 1000000 then some (coT x.1.2.2.1 x.2.1, ()) else none
theorem k400 : KOne Tryz.prog 177 ⟨[.v poly, .v ex], [i64], false, false, 0, cf400⟩ := ok177 .nil cf400 fun x y h => by
  obtain ⟨⟨p, d, ts, u⟩, e, _⟩ := x
  change List term.den at ts
  simp only [cf400] at h
  split at h
  · rename_i hc
    injection h with h; subst h
    have hc : ts.length ≤ 1000000 := hc
    refine ⟨ts.length + 1, ?_⟩
    simp only [fn177, ofn, ru177_2]
    rw [dln_t (by omega), cond_true]
    exact run400 hc ts [] (ts.length + 1) (by omega) rfl
  · cases h
noncomputable def cf365 : G98 := by
  classical exact fun x => if ((1 : Int) ≤ x.1.2.1 ∧ x.1.2.1 ≤ (3 : Int)) ∧ ((0 : Int) ≤ x.2.1 ∧ x.2.1 ≤ (12 : Int)) ∧ (tms x.1).length ≤ 1000000 then some (rwP x.1.2.1 x.2.1 (tms x.1), ()) else none
theorem mapSet {α : Type} {f : α → Int} {l : List α} {i : Nat} (h : i < l.length) : ((l.take i).map f ++ List.replicate (l.length - i) (0 : Int)).set i (f l[i]) = (l.take (i + 1)).map f ++ List.replicate (l.length - (i + 1)) 0 := by
  rw [mapTake h]
  have hl : ((l.take i).map f).length = i := by simp; omega
  rw [List.set_append_right _ _ (by omega), hl, Nat.sub_self, show l.length - i = (l.length - (i + 1)) + 1 by omega, List.replicate_succ]
  simp
theorem k365 : KOne Tryz.prog 98 ⟨[.v poly, .v i64], [.slice 2 i64], true, false, 0, cf365⟩ := ok98 _ _ (.cons k88 (.cons k400 .nil)) cf365 fun x y h => by
  obtain ⟨⟨p, d, ts, u⟩, n, _⟩ := x
  change List term.den at ts
  change Int at d
  change Int at n
  simp only [cf365] at h
  split at h
  · rename_i hc
    injection h with h; subst h
    obtain ⟨h1, h2, h3⟩ := hc
    have h1 : 1 ≤ d ∧ d ≤ 3 := h1
    have h2 : 0 ≤ n ∧ n ≤ 12 := h2
    have h3 : ts.length ≤ 1000000 := h3
    obtain ⟨m1, m2, _, _, m5⟩ := mons_is h1 h2
    refine ⟨200, ?_⟩
    simp only [fn98]
    rw [m1]
    simp only [ofn]
    rw [dln_t (show (mons d n).length ≤ 9223372036854775807 by omega), cond_true, dle_t (show (0 : Int) ≤ (mons d n).length by omega), dle_t (show ((mons d n).length : Int) ≤ 1099511627776 by omega)]
    simp only [Bool.and_self, decide_true, cond_true, tn_cast, ru98_4]
    refine (iter_run (step := fun s k => st98_4 cf88 cf400 200 s k _) (mons d n).length 200 (fun i => ((p, d, ts, ()), ((((mons d n).take i).map (coT ts) ++ List.replicate ((mons d n).length - i) (0 : Int), ()), ((mons d n, ()), ((((mons d n).length : Int), ()), (((i : Int), ()), ())))))) (by omega) (fun i hi k => ?_) (fun k => ?_)).trans rfl
    · have hs := mapSet (f := coT ts) hi
      have hl : (((mons d n).take i).map (coT ts) ++ List.replicate ((mons d n).length - i) (0 : Int)).length = (mons d n).length := by simp; omega
      generalize ((mons d n).take i).map (coT ts) ++ List.replicate ((mons d n).length - i) (0 : Int) = A at hs hl ⊢
      simp only [st98_4]
      simp (disch := omega) only [cond_true, ofn, dlt_t, ib_t, tn_cast, w6_id, hl]
      have g : cf400 ((p, d, ts, ()), (mons d n).getD i (Ty.dflt (.arr 3 (.int .u8))), ()) = some (coT ts (mons d n)[i], ()) := by
        rw [getD_at hi]; exact if_pos h3
      rw [g]
      simp only
      rw [hs]; rfl
    · simp only [st98_4]
      simp (disch := omega) only [ofn, dlt_f, cond_false, List.take_length, Nat.sub_self]
      simp only [List.replicate_zero, List.append_nil]
      rfl
  · cases h
theorem g365_ok {p d n : Int} {ts : List term.den} (hd : 1 ≤ d ∧ d ≤ 3) (hn : 0 ≤ n ∧ n ≤ 12) (hl : ts.length ≤ 1000000) : cf365 ((p, d, ts, ()), n, ()) = some (rwP d n ts, ()) := if_pos ⟨hd, hn, hl⟩
structure FineP (p d : Int) (x : Po) : Prop where
  p1 : (show Int from x.1) = p
  d1 : (show Int from x.2.1) = d
  can : CanT p (tms x)
  deg : DegLe 12 (tms x)
  vars : ∀ t ∈ tms x, expsB d t.1 = true
  even : evB (tms x) = true
theorem FineP.eq {p d : Int} {x : Po} (h : FineP p d x) : x = (p, d, tms x, ()) := by
  obtain ⟨a, b, c, u⟩ := x
  have h1 : a = p := h.p1
  have h2 : b = d := h.d1
  subst h1; subst h2; rfl
theorem FineP.len {p d : Int} {x : Po} (h : FineP p d x) : (tms x).length ≤ 68921 := can_len h.can h.deg (by omega)
theorem FineP.ts {p d : Int} {x : Po} (h : FineP p d x) : okTs (tms x) := okTs_of h.can h.deg (by omega)
theorem FineP.degI {p d : Int} {x : Po} (h : FineP p d x) : -1 ≤ degI (tms x) ∧ degI (tms x) ≤ 12 := degI_rng h.can h.deg (by omega)
theorem vT_vars {p d : Int} : ∀ {ts : List term.den} {q : Option ex.den}, vT p d q ts = true → ∀ t ∈ ts, expsB d t.1 = true
  | [], _, _ => by simp
  | s :: r, q, h => by
    simp only [vT, Bool.and_eq_true] at h
    intro t ht
    rcases List.mem_cons.1 ht with rfl | ht
    · exact h.1.1.1
    · exact vT_vars h.2 t ht
theorem fine_of {x : Po} (ho : okT2 (tms x)) (hv : vP x = true) (he : evB (tms x) = true) : isP x.1 = true ∧ ((1 : Int) ≤ x.2.1 ∧ x.2.1 ≤ (3 : Int)) ∧ FineP x.1 x.2.1 x := by
  obtain ⟨h1, h2, h3, h4⟩ := vP_can ho hv
  simp only [vP, Bool.and_eq_true] at hv
  exact ⟨h1, h2, rfl, rfl, h3, h4, vT_vars hv.2, he⟩
structure LOk (L : List Po) (p d : Int) : Prop where
  hP : isP p = true
  hd : 1 ≤ d ∧ d ≤ 3
  len : 1 ≤ L.length ∧ L.length ≤ 8
  each : ∀ x ∈ L, FineP p d x ∧ 1 ≤ degI (tms x)
  p0 : (show Int from (L.getD 0 DPo).1) = p
  d0 : (show Int from (L.getD 0 DPo).2.1) = d
theorem lc_ok {L : List Po} (hs : smallV L) (h : lc L = 0) : ∃ p d, LOk L p d := by
  unfold lc at h
  cases hv : L.all vP with
  | false => rw [hv] at h; simp at h
  | true =>
    rw [hv, cond_true] at h
    by_cases c0 : (L.length : Int) = 0
    · rw [deq_t c0] at h; simp at h
    · rw [deq_f c0, cond_false] at h
      cases hg : (L.all (gd (L.getD 0 DPo)) && decide ((L.length : Int) ≤ 8)) with
      | false => rw [hg] at h; simp at h
      | true =>
        simp only [Bool.and_eq_true, decide_eq_true_eq] at hg
        have h0 : L.getD 0 DPo ∈ L := memG (by omega)
        have f := fun x (hx : x ∈ L) => by
          have g := List.all_eq_true.1 hg.1 x hx
          simp only [gd, alB, Bool.and_eq_true, decide_eq_true_eq, Bool.not_eq_true', decide_eq_false_iff_not] at g
          exact g
        obtain ⟨q1, q2, q3⟩ := fine_of (hs.2 _ h0) (List.all_eq_true.1 hv _ h0) (f _ h0).2
        refine ⟨(L.getD 0 DPo).1, (L.getD 0 DPo).2.1, q1, q2, ⟨by omega, by omega⟩, fun x hx => ?_, rfl, rfl⟩
        have g := f x hx
        obtain ⟨_, _, z3⟩ := fine_of (hs.2 x hx) (List.all_eq_true.1 hv x hx) g.2
        exact ⟨⟨g.1.1.1, g.1.1.2, by have := z3.can; rwa [show x.1 = (L.getD 0 DPo).1 from g.1.1.1] at this, z3.deg, by have := z3.vars; rwa [show x.2.1 = (L.getD 0 DPo).2.1 from g.1.1.2] at this, g.2⟩, by omega⟩
theorem oneP_1 {p : Int} (hp : 2 ≤ p) {e : ex.den} (he : okX e) : oneP p e 1 = [(e, 1, ())] := by
  unfold oneP putP
  have : (1 + coT [] e) % p = 1 := by simp only [coT]; rw [Int.add_zero]; exact Int.emod_eq_of_lt (by omega) (by omega)
  rw [this, show decide ((1 : Int) = 0) = false from rfl]
  rfl
theorem one_can {p : Int} (hp : 2 ≤ p) {e : ex.den} (he : okX e) : CanT p [(e, 1, ())] := ⟨List.pairwise_singleton _ _, fun t ht => by
  rw [List.mem_singleton] at ht; subst ht; exact ⟨he, by show (0 : Int) < 1; omega, by show (1 : Int) < p; omega⟩⟩
theorem degI_one {e : ex.den} {x : Int} : degI [(e, x, ())] = degX e := rfl
theorem deg_one {d : Int} {e : ex.den} {x : Int} (h : degX e ≤ d) : DegLe d [(e, x, ())] := fun t ht => by rw [List.mem_singleton] at ht; subst ht; exact h
noncomputable def mulR (p d n : Int) (x : Po) : List (List Int) := if n < degI (tms x) then [] else (mons d (n - degI (tms x))).map fun e => rwP d n (timesP p (tms x) [(e, 1, ())])
noncomputable def mulL (p d n : Int) (L : List Po) : List (List Int) := L.flatMap (mulR p d n)
theorem mul_one {p d n : Int} {x : Po} (hp : 2 ≤ p ∧ p ≤ 13) (hn : 0 ≤ n ∧ n ≤ 12) (hd : 1 ≤ d ∧ d ≤ 3) (fx : FineP p d x) (h1 : 0 ≤ degI (tms x)) (hle : degI (tms x) ≤ n) {e : ex.den} (he : e ∈ mons d (n - degI (tms x))) :
    okX e ∧ degX e = n - degI (tms x) ∧ CanT p [(e, 1, ())] ∧ CanT p (timesP p (tms x) [(e, 1, ())]) ∧ DegLe 12 (timesP p (tms x) [(e, 1, ())]) := by
  obtain ⟨_, _, _, m4, _⟩ := mons_is hd (n := n - degI (tms x)) ⟨by omega, by omega⟩
  have ho := m4 e he
  have hdg := mons_deg hd (n := n - degI (tms x)) ⟨by omega, by omega⟩ e he
  have c1 := one_can hp.1 ho
  have fd := fx.degI
  have := timesP_can (p := p) (a := tms x) (b := [(e, 1, ())]) (by omega) (small fx.can fx.deg (by omega)) (small c1 (deg_one (d := 12) (by omega)) (by omega))
  refine ⟨ho, hdg, c1, this.1, ?_⟩
  have hd2 : DegLe (degI (tms x)) (tms x) := can_deg fx.can
  exact (timesP_deg (d := degI (tms x)) (e := n - degI (tms x)) (by omega) fx.can c1 hd2 (deg_one (by omega)) (by omega) (by omega)).mono (by omega)
theorem mulR_len {p d n : Int} {x : Po} (hn : 0 ≤ n ∧ n ≤ 12) (hd : 1 ≤ d ∧ d ≤ 3) (h1 : 0 ≤ degI (tms x)) : (mulR p d n x).length ≤ 100 := by
  unfold mulR
  split
  · simp
  · rw [List.length_map]; exact (mons_is hd (n := n - degI (tms x)) ⟨by omega, by omega⟩).2.2.2.2
theorem flat_len {α β : Type} {f : α → List β} {m : Nat} : ∀ {l : List α}, (∀ x ∈ l, (f x).length ≤ m) → (l.flatMap f).length ≤ l.length * m
  | [], _ => by simp
  | x :: l, h => by
    have ih := flat_len (f := f) (l := l) fun y hy => h y (.tail _ hy)
    have hx := h x (.head _)
    rw [List.flatMap_cons, List.length_append, List.length_cons, Nat.succ_mul]; omega
theorem mulR_can {p d n : Int} {x : Po} (hp : 2 ≤ p ∧ p ≤ 13) (hn : 0 ≤ n ∧ n ≤ 12) (hd : 1 ≤ d ∧ d ≤ 3) (fx : FineP p d x) (h1 : 0 ≤ degI (tms x)) : ∀ r ∈ mulR p d n x, Can p (mons d n).length r := by
  intro r hr
  unfold mulR at hr
  split at hr
  · cases hr
  · obtain ⟨e, he, rfl⟩ := List.mem_map.1 hr
    exact rwP_can (by omega) (mul_one hp hn hd fx h1 (by omega) he).2.2.2.1
theorem mulL_can {p d n : Int} {L : List Po} (hp : 2 ≤ p ∧ p ≤ 13) (hn : 0 ≤ n ∧ n ≤ 12) (hd : 1 ≤ d ∧ d ≤ 3) (hL : ∀ x ∈ L, FineP p d x ∧ 0 ≤ degI (tms x)) : ∀ r ∈ mulL p d n L, Can p (mons d n).length r := fun r hr => by
  obtain ⟨x, hx, hr⟩ := List.mem_flatMap.1 hr
  exact mulR_can hp hn hd (hL x hx).1 (hL x hx).2 r hr
structure okMl (p d n : Int) (L : List Po) : Prop where
  hP : isP p = true
  hn : 0 ≤ n ∧ n ≤ 12
  hd : 1 ≤ d ∧ d ≤ 3
  hl : L.length ≤ 1000
  each : ∀ x ∈ L, FineP p d x ∧ 0 ≤ degI (tms x)
theorem okMl.rows {p d n : Int} {L : List Po} (h : okMl p d n L) : (mulL p d n L).length ≤ 100000 := by
  have := flat_len (f := mulR p d n) (m := 100) (l := L) fun x hx => mulR_len h.hn h.hd (h.each x hx).2
  have := h.hl
  unfold mulL; omega
theorem okMl.take {p d n : Int} {L : List Po} (h : okMl p d n L) (i : Nat) : ((L.take i).flatMap (mulR p d n)).length ≤ 100000 := by
  have := flat_len (f := mulR p d n) (m := 100) (l := L.take i) fun x hx => mulR_len h.hn h.hd (h.each x (List.mem_of_mem_take hx)).2
  have := h.hl
  have : (L.take i).length ≤ L.length := by simp; omega
  omega
theorem in361 {p d n : Int} {L : List Po} (h : okMl p d n L) {i : Nat} (hi : i < L.length) (hle : degI (tms L[i]) ≤ n) {acc : List (List Int)} (ha : acc.length ≤ 100000) {F0 : Nat} {kx : ShVal sh86_8 → Option R86} (F : Nat) (hF : 200 < F) :
    iter (fun s k => st86_8 cf84 cf362 cf99 cf96 cf115 F0 s k kx) F ((L, ()), ((n, ()), ((acc, ()), (((i : Int), ()), ((mons d (n - degI (tms L[i])), ()), (((0 : Int), ()), ())))))) =
      kx ((L, ()), ((n, ()), ((acc ++ mulR p d n L[i], ()), (((i : Int), ()), ((mons d (n - degI (tms L[i])), ()), ((((mons d (n - degI (tms L[i]))).length : Int), ()), ())))))) := by
  have hp := isP_pos h.hP
  have hn := h.hn
  obtain ⟨fx, h1⟩ := h.each L[i] (List.getElem_mem hi)
  obtain ⟨_, _, _, _, m5⟩ := mons_is h.hd (n := n - degI (tms L[i])) ⟨by omega, by omega⟩
  have hll := h.hl
  generalize hM : mons d (n - degI (tms L[i])) = M at m5 ⊢
  have e0 : acc = acc ++ (M.take 0).map fun e => rwP d n (timesP p (tms L[i]) [(e, 1, ())]) := by simp
  have eN : mulR p d n L[i] = (M.take M.length).map fun e => rwP d n (timesP p (tms L[i]) [(e, 1, ())]) := by unfold mulR; rw [if_neg (by omega), List.take_length, hM]
  rw [eN]
  have key := iter_run (step := fun s k => st86_8 cf84 cf362 cf99 cf96 cf115 F0 s k kx) (r := kx ((L, ()), ((n, ()), ((acc ++ (M.take M.length).map fun e => rwP d n (timesP p (tms L[i]) [(e, 1, ())]), ()), (((i : Int), ()), ((M, ()), (((M.length : Int), ()), ())))))))
    M.length F (fun j => ((L, ()), ((n, ()), ((acc ++ (M.take j).map fun e => rwP d n (timesP p (tms L[i]) [(e, 1, ())]), ()), (((i : Int), ()), ((M, ()), (((j : Int), ()), ()))))))) (by omega) (fun j hj k => ?_) (fun k => ?_)
  · rw [← e0] at key
    exact key
  · have hmem : M[j] ∈ mons d (n - degI (tms L[i])) := by rw [hM]; exact List.getElem_mem hj
    obtain ⟨o1, o2, o3, o4, o5⟩ := mul_one hp hn h.hd fx h1 hle hmem
    simp only [st86_8]
    simp (disch := omega) only [dln_t, cond_true, ofn, dlt_t, ib_t, tn_cast, w6_id]
    have gx : ∀ dd, L.getD i dd = (p, d, tms L[i], ()) := fun dd => by rw [getD_at hi]; exact fx.eq
    have gm : ∀ dd, M.getD j dd = M[j] := fun dd => getD_at hj
    rw [gx, gm]
    have g1 : cf96 (p, d, M[j], (1 : Int), ()) = some ((p, d, [(M[j], 1, ())], ()), ()) := by rw [g96_ok ⟨by omega, by omega⟩ o1 ⟨by omega, by omega⟩, oneP_1 hp.1 o1]
    rw [g1]
    simp only
    have hfit : fits (tms L[i]) [(M[j], 1, ())] = true := by
      unfold fits
      rw [degI_one, o2, dle_t (show degI (tms L[i]) + (n - degI (tms L[i])) ≤ 12 by omega)]; simp
    have g2 : cf99 ((p, d, tms L[i], ()), (p, d, [(M[j], 1, ())], ()), ()) = some ((p, d, timesP p (tms L[i]) [(M[j], 1, ())], ()), true, ()) := by
      rw [g99_ok ⟨⟨by omega, by omega⟩, fx.can, o3, fx.deg, deg_one (by omega)⟩, hfit]
      unfold timesO; rw [hfit, cond_true]
    rw [g2]
    simp only
    have g3 := g362_ok (p := p) h.hd hn (ts := timesP p (tms L[i]) [(M[j], 1, ())]) (Nat.le_trans (can_len o4 o5 (by omega)) (by omega))
    rw [g3]
    simp only
    rw [grow_t (by simp; omega), cond_true, mapTake hj, List.append_assoc]
    rfl
  · simp only [st86_8]
    simp (disch := omega) only [dln_t, cond_true, ofn, dlt_f, cond_false]
theorem run361 {p d n : Int} {L : List Po} (h : okMl p d n L) {F : Nat} (hF : 2000 < F) : fn86 cf84 cf362 cf99 cf96 cf115 F (L, n, ()) = some (mulL p d n L, ()) := by
  have hp := isP_pos h.hP
  have hn := h.hn
  have hll := h.hl
  refine (iter_run (step := fun s k => st86_3 cf84 cf362 cf99 cf96 cf115 F s k (fun s' => match s' with | ((t0, _), (t1, _), (t5, _), (t6, _), _) => (some (t5, ())))) L.length F (fun i => ((L, ()), ((n, ()), (((L.take i).flatMap (mulR p d n), ()), (((i : Int), ()), ()))))) (by omega) (fun i hi k => ?_) (fun k => ?_)).trans rfl
  · obtain ⟨fx, h1⟩ := h.each L[i] (List.getElem_mem hi)
    have ha := h.take i
    simp only [st86_3, ru86_8]
    simp (disch := omega) only [dln_t, cond_true, ofn, dlt_t, ib_t, tn_cast, w6_id]
    have gx : ∀ dd, L.getD i dd = (p, d, tms L[i], ()) := fun dd => by rw [getD_at hi]; exact fx.eq
    rw [gx, g115_ok fx.ts]
    simp only
    have fd := fx.degI
    by_cases q : n < degI (tms L[i])
    · rw [dlt_t q, cond_true, flatTake hi, show mulR p d n L[i] = [] from if_pos q, List.append_nil]
      rfl
    · rw [dlt_f (by omega), cond_false, w6_id (x := n - degI (tms L[i])) (by omega) (by omega), (mons_is h.hd (n := n - degI (tms L[i])) ⟨by omega, by omega⟩).2.1]
      simp only
      rw [in361 h hi (by omega) ha F (by omega), flatTake hi]
      simp (disch := omega) only [w6_id]
      rfl
  · simp only [st86_3]
    simp (disch := omega) only [dln_t, cond_true, ofn, dlt_f, cond_false, List.take_length]
    rfl
theorem mulL_nil {p d n : Int} : mulL p d n [] = [] := List.flatMap_nil
theorem mulL_head {p d n : Int} {L : List Po} (h : okMl p d n L) : mulL (L.getD 0 DPo).1 (L.getD 0 DPo).2.1 n L = mulL p d n L := by
  cases L with
  | nil => rw [mulL_nil, mulL_nil]
  | cons x r =>
    have f := (h.each x (.head _)).1
    have e1 : (show Int from ((x :: r).getD 0 DPo).1) = p := f.p1
    have e2 : (show Int from ((x :: r).getD 0 DPo).2.1) = d := f.d1
    rw [show ((x :: r).getD 0 DPo).1 = p from e1, show ((x :: r).getD 0 DPo).2.1 = d from e2]
noncomputable def cf361 : G86 := by
  classical exact fun x => if ∃ p d, okMl p d x.2.1 x.1 then some (mulL (List.getD x.1 0 DPo).1 (List.getD x.1 0 DPo).2.1 x.2.1 x.1, ()) else none
theorem g361_ok {p d n : Int} {L : List Po} (h : okMl p d n L) : cf361 (L, n, ()) = some (mulL p d n L, ()) := (if_pos ⟨p, d, h⟩).trans (by rw [← mulL_head h])
theorem k361 : KOne Tryz.prog 86 ⟨[.v (.slice 34 poly), .v i64], [.slice 44 (.slice 2 i64)], true, false, 0, cf361⟩ := ok86 _ _ _ _ _ (.cons k84 (.cons k362 (.cons k99 (.cons k96 (.cons k115 .nil))))) cf361 fun x y h => by
  obtain ⟨L, n, _⟩ := x
  have hc : ∃ p d, okMl p d n L := by
    simp only [cf361] at h
    split at h
    · assumption
    · cases h
  obtain ⟨p, d, ho⟩ := hc
  have e : cf361 (L, n, ()) = some (mulL p d n L, ()) := g361_ok ho
  change cf361 (L, n, ()) = some y at h
  rw [e] at h
  injection h with h; subst h
  exact ⟨2001, run361 ho (by omega)⟩
theorem in364 {p d n : Int} {L : List Po} (h : okMl p d n L) {i : Nat} (hi : i < L.length) (hle : degI (tms L[i]) ≤ n) {acc : List (List Int)} (ha : acc.length ≤ 100000) {M : List ex.den} (hM : M = mons d (n - degI (tms L[i]))) {g145 : G176} {F0 : Nat} {kx : ShVal sh97_7 → Option R97} (F : Nat) (hF : 200 < F) :
    iter (fun s k => st97_7 g145 cf88 cf148 cf106 cf365 cf117 F0 s k kx) F ((L, ()), ((n, ()), ((acc, ()), ((p, (d, (tms L[i], ()))), ((L, ()), (((L.length : Int), ()), (((i : Int), ()), ((M, ()), (((M.length : Int), ()), (((0 : Int), ()), ())))))))))) =
      kx ((L, ()), ((n, ()), ((acc ++ mulR p d n L[i], ()), ((p, (d, (tms L[i], ()))), ((L, ()), (((L.length : Int), ()), (((i : Int), ()), ((M, ()), (((M.length : Int), ()), (((M.length : Int), ()), ())))))))))) := by
  have hp := isP_pos h.hP
  have hn := h.hn
  obtain ⟨fx, h1⟩ := h.each L[i] (List.getElem_mem hi)
  obtain ⟨_, _, _, _, m5⟩ := mons_is h.hd (n := n - degI (tms L[i])) ⟨by omega, by omega⟩
  rw [← hM] at m5
  have hll := h.hl
  have e0 : acc = acc ++ (M.take 0).map fun e => rwP d n (timesP p (tms L[i]) [(e, 1, ())]) := by simp
  have eN : mulR p d n L[i] = (M.take M.length).map fun e => rwP d n (timesP p (tms L[i]) [(e, 1, ())]) := by unfold mulR; rw [if_neg (by omega), List.take_length, hM]
  rw [eN]
  have key := iter_run (step := fun s k => st97_7 g145 cf88 cf148 cf106 cf365 cf117 F0 s k kx) (r := kx ((L, ()), ((n, ()), ((acc ++ (M.take M.length).map fun e => rwP d n (timesP p (tms L[i]) [(e, 1, ())]), ()), ((p, (d, (tms L[i], ()))), ((L, ()), (((L.length : Int), ()), (((i : Int), ()), ((M, ()), (((M.length : Int), ()), (((M.length : Int), ()), ())))))))))))
    M.length F (fun j => ((L, ()), ((n, ()), ((acc ++ (M.take j).map fun e => rwP d n (timesP p (tms L[i]) [(e, 1, ())]), ()), ((p, (d, (tms L[i], ()))), ((L, ()), (((L.length : Int), ()), (((i : Int), ()), ((M, ()), (((M.length : Int), ()), (((j : Int), ()), ()))))))))))) (by omega) (fun j hj k => ?_) (fun k => ?_)
  · rw [← e0] at key
    exact key
  · have hmem : M[j] ∈ mons d (n - degI (tms L[i])) := by rw [← hM]; exact List.getElem_mem hj
    obtain ⟨o1, o2, o3, o4, o5⟩ := mul_one hp hn h.hd fx h1 hle hmem
    simp only [st97_7]
    simp (disch := omega) only [cond_true, ofn, dlt_t, ib_t, tn_cast, w6_id]
    have gm : ∀ dd, M.getD j dd = M[j] := fun dd => getD_at hj
    rw [gm]
    have g1 : cf148 (p, d, M[j], (1 : Int), ()) = some ((p, d, [(M[j], 1, ())], ()), ()) := by rw [g148_ok ⟨by omega, by omega⟩ o1, oneP_1 hp.1 o1]
    rw [g1]
    simp only
    have g2 : cf106 ((p, d, tms L[i], ()), (p, d, [(M[j], 1, ())], ()), ()) = some ((p, d, timesP p (tms L[i]) [(M[j], 1, ())], ()), ()) := g106_ok ⟨⟨by omega, by omega⟩, fx.can, o3, fx.deg.mono (by omega), deg_one (by omega)⟩
    rw [g2]
    simp only
    have g3 := g365_ok (p := p) h.hd hn (ts := timesP p (tms L[i]) [(M[j], 1, ())]) (Nat.le_trans (can_len o4 o5 (by omega)) (by omega))
    rw [g3]
    simp only
    rw [grow_t (by simp; omega), cond_true, mapTake hj, List.append_assoc]
    rfl
  · simp only [st97_7]
    simp (disch := omega) only [ofn, dlt_f, cond_false]
theorem run364 {p d n : Int} {L : List Po} (h : okMl p d n L) {F : Nat} (hF : 2000 < F) : fn97 cf145 cf88 cf148 cf106 cf365 cf117 F (L, n, ()) = some (ech p (mulL p d n L), ()) := by
  have hp := isP_pos h.hP
  have hn := h.hn
  have hll := h.hl
  simp only [fn97, ofn]
  rw [dln_t (show L.length ≤ 9223372036854775807 by omega), cond_true]
  simp only [ru97_3]
  refine iter_run (step := fun s k => st97_3 cf145 cf88 cf148 cf106 cf365 cf117 F s k _) L.length F (fun i => ((L, ()), ((n, ()), (((L.take i).flatMap (mulR p d n), ()), ((L, ()), (((L.length : Int), ()), (((i : Int), ()), ()))))))) (by omega) (fun i hi k => ?_) (fun k => ?_)
  · obtain ⟨fx, h1⟩ := h.each L[i] (List.getElem_mem hi)
    have ha := h.take i
    simp only [st97_3, ru97_7]
    simp (disch := omega) only [dln_t, cond_true, ofn, dlt_t, ib_t, tn_cast, w6_id]
    have gx : ∀ dd, L.getD i dd = (p, d, tms L[i], ()) := fun dd => by rw [getD_at hi]; exact fx.eq
    rw [gx]
    simp only
    rw [g117_ok fx.ts]
    simp only
    have fd := fx.degI
    by_cases q : n < degI (tms L[i])
    · rw [dlt_t q, cond_true, flatTake hi, show mulR p d n L[i] = [] from if_pos q, List.append_nil]
      rfl
    · rw [dlt_f (by omega), cond_false, w6_id (x := n - degI (tms L[i])) (by omega) (by omega), (mons_is h.hd (n := n - degI (tms L[i])) ⟨by omega, by omega⟩).1]
      simp only
      have m5 := (mons_is h.hd (n := n - degI (tms L[i])) ⟨by omega, by omega⟩).2.2.2.2
      rw [dln_t (by omega), cond_true]
      rw [in364 h hi (by omega) ha rfl F (by omega), flatTake hi]
      simp (disch := omega) only [w6_id]
      rfl
  · simp only [st97_3]
    have hr := h.rows
    have hcan := mulL_can hp hn h.hd h.each
    rw [dlt_f (by omega), cond_false]
    simp only [List.take_length]
    rw [show List.flatMap (mulR p d n) L = mulL p d n L from rfl, dln_t (by omega), cond_true]
    by_cases q : ((mulL p d n L).length : Int) = 0
    · have : mulL p d n L = [] := List.eq_nil_of_length_eq_zero (by omega)
      rw [deq_t q, cond_true, this]; rfl
    · rw [deq_f q, cond_false]
      have hne : 0 < L.length := by
        rcases Nat.eq_zero_or_pos L.length with z | z
        · have := List.eq_nil_of_length_eq_zero z; subst this; exact absurd rfl q
        · exact z
      rw [ib_t (by omega) (by omega), cond_true]
      have hp0 : (show Int from (L.getD (tn 0) (Ty.dflt (.pair (.int .i64) (.pair (.int .i64) (.pair (.slice 135 (.pair (.arr 3 (.int .u8)) (.pair (.int .i64) .unit))) .unit))))).1) = p := by
        rw [show tn 0 = 0 from rfl, getD_at hne]; exact (h.each _ (List.getElem_mem hne)).1.p1
      have g := g145_ok (p := p) (m := (mons d n).length) (rows := mulL p d n L) h.hP hcan (by have := (mons_is h.hd hn).2.2.2.2; omega) (by omega)
      change (match cf145 ((show Int from (L.getD (tn 0) (Ty.dflt (.pair (.int .i64) (.pair (.int .i64) (.pair (.slice 135 (.pair (.arr 3 (.int .u8)) (.pair (.int .i64) .unit))) .unit))))).1), mulL p d n L, ()) with | some r19 => some (r19.1, ()) | none => none) = _
      rw [hp0, g]
theorem ech_nil {p : Int} : ech p [] = [] := rfl
noncomputable def cf364 : G97 := by
  classical exact fun x => if ∃ p d, okMl p d x.2.1 x.1 then some (ech (List.getD x.1 0 DPo).1 (mulL (List.getD x.1 0 DPo).1 (List.getD x.1 0 DPo).2.1 x.2.1 x.1), ()) else none
theorem g364_ok {p d n : Int} {L : List Po} (h : okMl p d n L) : cf364 (L, n, ()) = some (ech p (mulL p d n L), ()) := (if_pos ⟨p, d, h⟩).trans (by
  cases L with
  | nil => rw [mulL_nil, mulL_nil, ech_nil, ech_nil]
  | cons x r =>
    have f := (h.each x (.head _)).1
    have e1 : (show Int from ((x :: r).getD 0 DPo).1) = p := f.p1
    have e2 := mulL_head h
    rw [e2, show ((x :: r).getD 0 DPo).1 = p from e1])
theorem k364 : KOne Tryz.prog 97 ⟨[.v (.slice 34 poly), .v i64], [.slice 44 (.slice 2 i64)], true, false, 0, cf364⟩ := ok97 _ _ _ _ _ _ (.cons k145 (.cons k88 (.cons k148 (.cons k106 (.cons k365 (.cons k117 .nil)))))) cf364 fun x y h => by
  obtain ⟨L, n, _⟩ := x
  have hc : ∃ p d, okMl p d n L := by
    simp only [cf364] at h
    split at h
    · assumption
    · cases h
  obtain ⟨p, d, ho⟩ := hc
  have e : cf364 (L, n, ()) = some (ech p (mulL p d n L), ()) := g364_ok ho
  change cf364 (L, n, ()) = some y at h
  rw [e] at h
  injection h with h; subst h
  exact ⟨2001, run364 ho (by omega)⟩
theorem LOk.ml {L : List Po} {p d n : Int} (h : LOk L p d) (hn : 0 ≤ n ∧ n ≤ 12) : okMl p d n L := ⟨h.hP, hn, h.hd, by have := h.len; omega, fun x hx => ⟨(h.each x hx).1, by have := (h.each x hx).2; omega⟩⟩
theorem LOk.at0 {L : List Po} {p d : Int} (h : LOk L p d) (dd : Po) : L.getD (tn (0 : Int)) dd = (p, d, tms (L.getD 0 DPo), ()) := by
  have hl := h.len
  rw [show tn (0 : Int) = 0 from rfl, getD_at (by omega), getD_at (by omega)]
  exact (h.each _ (List.getElem_mem _)).1.eq
noncomputable def rstN (p d n : Int) (L : List Po) : Int := ((mons d n).length : Int) - ((ech p (mulL p d n L)).length : Int)
theorem rst_b {p d n : Int} {L : List Po} (h : okMl p d n L) : (mons d n).length ≤ 100 ∧ (ech p (mulL p d n L)).length ≤ 100000 := ⟨(mons_is h.hd h.hn).2.2.2.2, Nat.le_trans ech_len h.rows⟩
noncomputable def cf367 : G101 := by
  classical exact fun x => if okMl x.1 x.2.1 x.2.2.2.1 x.2.2.1 then some (rstN x.1 x.2.1 x.2.2.2.1 x.2.2.1, ()) else none
theorem k367 : KOne Tryz.prog 101 ⟨[.v i64, .v i64, .v (.slice 34 poly), .v i64], [i64], false, false, 0, cf367⟩ := ok101 _ _ _ (.cons k84 (.cons k361 (.cons k108 .nil))) cf367 fun x y h => by
  obtain ⟨p, d, L, n, _⟩ := x
  change Int at p; change Int at d; change Int at n
  simp only [cf367] at h
  split at h
  · rename_i hc
    injection h with h; subst h
    have hc : okMl p d n L := hc
    refine ⟨0, ?_⟩
    obtain ⟨b1, b2⟩ := rst_b hc
    have hr := hc.rows
    simp only [fn101]
    rw [(mons_is hc.hd hc.hn).2.1]
    simp only
    rw [dln_t (by omega), cond_true, g361_ok hc]
    simp only
    rw [g108_ok (m := (mons d n).length) hc.hP (mulL_can (isP_pos hc.hP) hc.hn hc.hd hc.each) (by omega) (by omega)]
    simp only
    rw [dln_t (by omega), cond_true, ofn, ofn, w6_id (by omega) (by omega)]
    rfl
  · cases h
theorem g367_ok {p d n : Int} {L : List Po} (h : okMl p d n L) : cf367 (p, d, L, n, ()) = some (rstN p d n L, ()) := if_pos h
noncomputable def cf369 : G103 := by
  classical exact fun x => if ∃ p, okMl p x.1 x.2.2.1 x.2.1 then some (rstN (List.getD x.2.1 0 DPo).1 x.1 x.2.2.1 x.2.1, ()) else none
theorem rst_head {p d n : Int} {L : List Po} (h : okMl p d n L) : rstN (L.getD 0 DPo).1 d n L = rstN p d n L := by
  cases L with
  | nil => unfold rstN; rw [mulL_nil, mulL_nil, ech_nil, ech_nil]
  | cons x r =>
    have e1 : (show Int from ((x :: r).getD 0 DPo).1) = p := (h.each x (.head _)).1.p1
    rw [show ((x :: r).getD 0 DPo).1 = p from e1]
theorem g369_ok {p d n : Int} {L : List Po} (h : okMl p d n L) : cf369 (d, L, n, ()) = some (rstN p d n L, ()) := (if_pos ⟨p, h⟩).trans (by rw [← rst_head h])
theorem k369 : KOne Tryz.prog 103 ⟨[.v i64, .v (.slice 34 poly), .v i64], [i64], false, false, 0, cf369⟩ := ok103 _ _ (.cons k88 (.cons k364 .nil)) cf369 fun x y h => by
  obtain ⟨d, L, n, _⟩ := x
  have hc : ∃ p, okMl p d n L := by
    simp only [cf369] at h
    split at h
    · assumption
    · cases h
  obtain ⟨p, hc⟩ := hc
  change cf369 (d, L, n, ()) = some y at h
  rw [g369_ok hc] at h
  injection h with h; subst h
  refine ⟨0, ?_⟩
  obtain ⟨b1, b2⟩ := rst_b hc
  simp only [fn103]
  rw [(mons_is hc.hd hc.hn).1]
  simp only
  rw [dln_t (by omega), cond_true, g364_ok hc]
  simp only
  rw [dln_t (by omega), cond_true, ofn, ofn, w6_id (by omega) (by omega)]
  rfl
def cdN (L : List Po) (n low : Int) : Int := if lc L = 0 then (if low ≤ n ∧ n ≤ 12 then 0 else 2) else lc L
noncomputable def cf366 : G100 := fn100 cf64 cf73 0
theorem k366 : KOne Tryz.prog 100 ⟨[.v (.slice 34 poly), .v i64, .v i64], [i64], false, false, 0, cf366⟩ := ok100 _ _ (.cons k64 (.cons k73 .nil)) cf366 fun x y h => ⟨0, h⟩
theorem in_dec {lo n : Int} : (decide (lo ≤ n) && decide (n ≤ 12)) = decide (lo ≤ n ∧ n ≤ 12) := by rw [Bool.decide_and]
theorem g366_ok {L : List Po} {n low : Int} (hs : smallV L) : cf366 (L, n, low, ()) = some (cdN L n low, ()) := by
  simp only [cf366, fn100]
  rw [g64_ok hs ⟨by omega, by omega⟩]
  simp only
  rw [show cf73 (n, low, (12 : Int), ()) = some (decide (low ≤ n) && decide (n ≤ 12), ()) from rfl]
  simp only
  unfold cdN
  by_cases h : lc L = 0
  · rw [deq_t h, if_pos h, cond_true, in_dec]
    by_cases q : low ≤ n ∧ n ≤ 12
    · rw [decide_eq_true q, if_pos q, h]; rfl
    · rw [decide_eq_false q, if_neg q]; rfl
  · rw [deq_f h, if_neg h, cond_false]
def cf401 : G179 := fn179 0
theorem k401 : KOne Tryz.prog 179 ⟨[.v i64], [.bool], false, false, 0, cf401⟩ := ok179 .nil cf401 fun x y h => ⟨0, h⟩
theorem g401_ok {n : Int} : cf401 (n, ()) = some (decide ((0 : Int) ≤ n ∧ n ≤ 12), ()) := by
  rw [← in_dec]
  simp only [cf401, fn179]
  cases decide ((0 : Int) ≤ n) <;> rfl
noncomputable def cf368 : G102 := fn102 cf67 cf401 0
theorem k368 : KOne Tryz.prog 102 ⟨[.v (.slice 34 poly), .v i64], [i64], false, false, 0, cf368⟩ := ok102 _ _ (.cons k67 (.cons k401 .nil)) cf368 fun x y h => ⟨0, h⟩
theorem g368_ok {L : List Po} {n : Int} (hs : smallV L) : cf368 (L, n, ()) = some (cdN L n 0, ()) := by
  simp only [cf368, fn102]
  rw [g67_ok hs, g401_ok]
  simp only
  unfold cdN
  by_cases h : lc L = 0
  · rw [deq_t h, if_pos h, Bool.not_true, cond_false]
    by_cases q : (0 : Int) ≤ n ∧ n ≤ 12
    · rw [decide_eq_true q, if_pos q]; rfl
    · rw [decide_eq_false q, if_neg q]; rfl
  · rw [deq_f h, if_neg h, Bool.not_false, cond_true]
theorem cdN_ok {L : List Po} {n low : Int} (hs : smallV L) (h : cdN L n low = 0) : (∃ p d, LOk L p d) ∧ low ≤ n ∧ n ≤ 12 := by
  unfold cdN at h
  by_cases q : lc L = 0
  · rw [if_pos q] at h
    by_cases q2 : low ≤ n ∧ n ≤ 12
    · exact ⟨lc_ok hs q, q2⟩
    · rw [if_neg q2] at h; cases h
  · rw [if_neg q] at h; exact absurd h q
noncomputable def cf328 : G37 := fn37 cf366 cf367 20
theorem k328 : KOne Tryz.prog 37 ⟨[.v (.slice 34 poly), .v i64], [.slice 2 i64, i64], true, false, 0, cf328⟩ := ok37 _ _ (.cons k366 (.cons k367 .nil)) cf328 fun x y h => ⟨20, h⟩
noncomputable def cf329 : G38 := fn38 cf368 cf369 20
theorem k329 : KOne Tryz.prog 38 ⟨[.v (.slice 34 poly), .v i64], [.slice 2 i64, i64], true, false, 0, cf329⟩ := ok38 _ _ (.cons k368 (.cons k369 .nil)) cf329 fun x y h => ⟨20, h⟩
noncomputable def rsts (p d : Int) (L : List Po) (m : Nat) : List Int := (List.range m).map fun (i : Nat) => rstN p d (i : Int) L
theorem rsts_succ {p d : Int} {L : List Po} {m : Nat} : rsts p d L (m + 1) = rsts p d L m ++ [rstN p d (m : Int) L] := by unfold rsts; rw [List.range_succ, List.map_append]; rfl
theorem same328 {L : List Po} {n : Int} (hs : smallV L) : ∃ (R : List Int) (c : Int), R.length ≤ 13 ∧ cf328 (L, n, ()) = some (R, c, ()) ∧ cf329 (L, n, ()) = some (R, c, ()) := by
  simp only [cf328, cf329, fn37, fn38]
  rw [g366_ok hs, g368_ok hs]
  simp only
  by_cases h : cdN L n 0 = 0
  · obtain ⟨⟨p, d, ho⟩, h1, h2⟩ := cdN_ok hs h
    have hl := ho.len
    obtain ⟨m, rfl⟩ : ∃ m : Nat, n = (m : Int) := ⟨n.toNat, by omega⟩
    rw [deq_t h, Bool.not_true, cond_false, cond_false]
    refine ⟨rsts p d L (m + 1), 0, by simp [rsts]; omega, ?_, ?_⟩
    · refine iter_run (step := fun s k => st37_6 cf366 cf367 20 s k _) (m + 1) 20 (fun i => ((L, ()), (((m : Int), ()), ((rsts p d L i, ()), (((i : Int), ()), ()))))) (by omega) (fun i hi k => ?_) (fun k => ?_)
      · have hlr : (rsts p d L i).length = i := by simp [rsts]
        simp only [st37_6]
        rw [dle_t (by omega), cond_true, ofn, ib_t (by omega) (by omega), cond_true, cond_true, ho.at0]
        simp only
        rw [g367_ok (ho.ml (n := (i : Int)) ⟨by omega, by omega⟩)]
        simp only
        rw [grow_t (by simp; omega), cond_true, rsts_succ, w6_id (by omega) (by omega)]
        rfl
      · simp only [st37_6]
        rw [dle_f (by omega), cond_false]
    · rw [w6_id (x := (m : Int) + 1) (by omega) (by omega)]
      refine iter_run (step := fun s k => st38_6 cf368 cf369 20 s k _) (m + 1) 20 (fun i => ((L, ()), ((rsts p d L i, ()), ((((m : Int) + 1), ()), (((i : Int), ()), ()))))) (by omega) (fun i hi k => ?_) (fun k => ?_)
      · have hlr : (rsts p d L i).length = i := by simp [rsts]
        simp only [st38_6]
        rw [dlt_t (by omega), cond_true, ofn, ib_t (by omega) (by omega), cond_true, ho.at0]
        simp only
        rw [g369_ok (ho.ml (n := (i : Int)) ⟨by omega, by omega⟩)]
        simp only
        rw [grow_t (by simp; omega), cond_true, rsts_succ, w6_id (by omega) (by omega)]
        rfl
      · simp only [st38_6]
        rw [dlt_f (by omega), cond_false]
  · rw [deq_f h]; exact ⟨_, _, by simp, rfl, rfl⟩
theorem okP_of {f : Po} (h : okV lpoly f = true) : (tms f).length ≤ 9223372036854775807 ∧ ∀ t ∈ tms f, okX t.1 := by
  obtain ⟨p, d, l, u⟩ := f
  change List term.den at l
  simp only [okV, Bool.and_true, Bool.and_eq_true, decide_eq_true_eq] at h
  obtain ⟨_, _, t1, t2⟩ := h
  refine ⟨t1, fun t ht => ?_⟩
  have := List.all_eq_true.1 t2 t ht
  obtain ⟨⟨a, b, c, _⟩, v, _⟩ := t
  simp [okV, okV.okT, kwf, IntKind.min, IntKind.max, IntKind.bits, IntKind.signed] at this
  change Int at a; change Int at b; change Int at c
  show (0 ≤ a ∧ a ≤ 255) ∧ (0 ≤ b ∧ b ≤ 255) ∧ (0 ≤ c ∧ c ≤ 255)
  exact this.1
theorem okL_args {L : List Po} (h : okV (.slice 25 lpoly) L = true) : L.length ≤ 9223372036854775807 ∧ ∀ z ∈ L, (tms z).length ≤ 9223372036854775807 ∧ ∀ t ∈ tms z, okX t.1 := by
  simp only [okV, Bool.and_eq_true, decide_eq_true_eq] at h
  exact ⟨h.1, fun z hz => okP_of (List.all_eq_true.1 h.2 z hz)⟩
structure SmL (L : List Po) : Prop where
  sm : L.length ≤ 1048576 ∧ totT L ≤ 1048576
  sP : smallP L
  sV : smallV L
  c23 : cf23 (L, ()) = some (L, ())
  c26 : cf26 (L, L, ()) = some (true, ())
theorem smL_of {L : List Po} (h : ∀ z ∈ L, (tms z).length ≤ 9223372036854775807 ∧ ∀ t ∈ tms z, okX t.1) (hsz : 0 ≤ sz21 L) : SmL L := by
  have hsm := sz21_small hsz
  have hsP := smallP_of hsm
  exact ⟨hsm, hsP, ⟨hsP.1, fun z hz => ⟨hsP.2 z hz, (h z hz).2⟩⟩, g23_ok hsP, g26_ok hsP⟩
abbrev R7 : Type := Ress [.bool]
abbrev G7 : Type := Args [.v (.slice 25 lpoly), .v i64] → Option R7
abbrev kp7 : List (Nat × List Nat) := [(0, [0, 1]), (1, [5, 0, 1]), (2, [5, 0, 1]), (3, [20, 0, 1]), (4, [4]), (5, [7, 6, 1, 0]), (6, [8, 7, 6, 1, 0]), (7, [8, 10, 9, 7, 6, 1, 0]), (8, [44, 8, 10, 9, 7, 6, 1, 0]), (9, [4]), (10, [49, 0, 1, 6, 7, 9, 10, 8]), (11, [4]), (12, [8, 11, 10, 9, 7, 6, 1, 0]), (13, [11, 10, 9, 7, 6, 1, 0]), (14, [65, 9, 7, 6, 1, 0]), (15, [4]), (16, [12, 0, 1, 6, 7, 9]), (17, [0, 1, 6, 7, 12, 9]), (18, [13, 0, 1, 6, 7, 12, 9]), (19, [0, 1, 6, 7, 12, 9, 13]), (20, [73, 0, 1, 6, 7, 12, 9, 13]), (21, [4]), (22, [76, 9, 12, 7, 6, 1, 0]), (23, [4]), (24, [14, 6, 15, 7, 12, 9]), (25, [92, 12, 9]), (26, [4]), (27, [9, 13, 12]), (28, [12, 13]), (29, [97, 12, 13]), (30, [4]), (31, [100]), (32, [4]), (33, [4])]
abbrev ct7 (g39 : G39) (g41 : G41) (g42 : G42) (g40 : G40) (g29 : G29) (g38 : G38) (g37 : G37) (g26 : G26) (g23 : G23) : CTab := [(39, ⟨[.v (.slice 2 i64), .v (.slice 2 i64)], [.bool], false, false, 0, g39⟩), (41, ⟨[.v (.slice 2 i64), .v i64], [(.slice 2 i64), i64], false, false, 1, g41⟩), (42, ⟨[.v (.slice 2 i64), .v i64], [i64], false, false, 0, g42⟩), (40, ⟨[.v (.slice 34 poly), .v i64], [(.slice 34 poly), i64], false, false, 1, g40⟩), (29, ⟨[.v (.slice 34 poly), .v (.slice 34 poly)], [.bool], false, false, 0, g29⟩), (38, ⟨[.v (.slice 34 poly), .v i64], [(.slice 2 i64), i64], true, false, 0, g38⟩), (37, ⟨[.v (.slice 34 poly), .v i64], [(.slice 2 i64), i64], true, false, 0, g37⟩), (26, ⟨[.v (.slice 25 lpoly)], [(.slice 34 poly)], true, false, 0, g26⟩), (23, ⟨[.v (.slice 25 lpoly), .v i64], [i64], false, false, 0, g23⟩)]
def fn7 (g39 : G39) (g41 : G41) (g42 : G42) (g40 : G40) (g29 : G29) (g38 : G38) (g37 : G37) (g26 : G26) (g23 : G23) (F : Nat) (x : Args [.v (.slice 25 lpoly), .v i64]) : Option R7 :=
  match x with
  | (x0, x1, _) => (match (g23 (x0, ((1048576 : Int), ()))) with | some r14 => (bif decide (r14.1 < (0 : Int)) then (some (true, ())) else (match (g26 (x0, ())) with | some r17 => (match (g37 (r17.1, (x1, ()))) with | some r18 => (match (g26 (x0, ())) with | some r20 => (match (g38 (r20.1, (x1, ()))) with | some r22 => (match (g39 (r22.1, (r18.1, ()))) with | some r24 => (bif (!r24.1) then (some (false, ())) else (bif (bif false then true else (!decide (r22.2.1 = r18.2.1))) then (some (false, ())) else (match (g26 (x0, ())) with | some r26 => (match (g29 (r20.1, (r26.1, ()))) with | some r27 => (bif (!r27.1) then (some (false, ())) else (match (g40 (r20.1, ((1 : Int), ()))) with | some r30 => (bif decide (r30.2.1 < (0 : Int)) then (some (false, ())) else (match (g39 (r22.1, (r18.1, ()))) with | some r32 => (bif (bif false then true else (!r32.1)) then (some (false, ())) else (bif (bif false then true else (!decide (r22.2.1 = r18.2.1))) then (some (false, ())) else (match (g41 (r22.1, ((1 : Int), ()))) with | some r35 => (match (g42 ((bif ((Nat.beq 2 2) && true) then r35.1 else []), ((1 : Int), ()))) with | some r38 => (bif decide (r38.1 < (0 : Int)) then (some (false, ())) else (bif (!decide (r38.1 = r35.2.1)) then (some (false, ())) else (match (g26 (x0, ())) with | some r42 => (match (g38 (r42.1, (x1, ()))) with | some r43 => (match (g39 (r43.1, (r18.1, ()))) with | some r45 => (bif (!r45.1) then (some (false, ())) else (bif (bif false then true else (!decide (r43.2.1 = r18.2.1))) then (some (false, ())) else (match (g42 ((bif ((Nat.beq 2 2) && true) then r35.1 else []), ((1 : Int), ()))) with | some r48 => (bif decide (r48.1 < (0 : Int)) then (some (false, ())) else (bif (!decide (r48.1 = r35.2.1)) then (some (false, ())) else (some (true, ())))) | none => none))) | none => none) | none => none) | none => none))) | none => none) | none => none))) | none => none)) | none => none)) | none => none) | none => none))) | none => none) | none => none) | none => none) | none => none) | none => none)) | none => none)
theorem ev7 (g39 : G39) (g41 : G41) (g42 : G42) (g40 : G40) (g29 : G29) (g38 : G38) (g37 : G37) (g26 : G26) (g23 : G23) (F : Nat) (x : Args [.v (.slice 25 lpoly), .v i64]) : fnK TT (ct7 g39 g41 g42 g40 g29 g38 g37 g26 g23 ) kp7 [.bool] [] (bodyOf Tryz.f7) [.tmp 4] [.v (.slice 25 lpoly), .v i64] false false x = fn7 g39 g41 g42 g40 g29 g38 g37 g26 g23 F x := by
  obtain ⟨x0, x1, _⟩ := x
  kernel_rfl
theorem ok7 (g39 : G39) (g41 : G41) (g42 : G42) (g40 : G40) (g29 : G29) (g38 : G38) (g37 : G37) (g26 : G26) (g23 : G23) (hK : KOK Tryz.prog (ct7 g39 g41 g42 g40 g29 g38 g37 g26 g23 )) (cf : G7) (h : ∀ x y, cf x = some y → ∃ F, fn7 g39 g41 g42 g40 g29 g38 g37 g26 g23 F x = some y) : KOne Tryz.prog 7 ⟨[.v (.slice 25 lpoly), .v i64], [.bool], false, false, 0, cf⟩ :=
  fn_one rfl (c := bodyOf Tryz.f7) mixed tt_ok hK Tryz.func7 (by kernel_rfl) (by kernel_rfl) (Nat.le_of_ble_eq_true (by kernel_rfl)) (by decide) fun x y hxy => by
    obtain ⟨F, hF⟩ := h x y hxy
    exact ⟨[], LTOK_by (l := []) (by kernel_rfl) trivial, (ev7 g39 g41 g42 g40 g29 g38 g37 g26 g23 F x).trans hF⟩
section
variable {p : Int} {m n : Nat}
theorem RR.incr {out : List (List Int)} (rr : RR p m out) {i j : Nat} (hij : i < j) (hj : j < out.length) : ld (out[i]'(by omega)) < ld out[j] :=
  (List.pairwise_iff_getElem.1 rr.ord i j (by omega) hj hij).1
theorem RR.ge {out : List (List Int)} (rr : RR p m out) : ∀ (i : Nat) (hi : i < out.length), i ≤ ld out[i]
  | 0, _ => Nat.zero_le _
  | i + 1, hi => by
    have h1 := rr.ge i (by omega)
    have h2 := rr.incr (i := i) (j := i + 1) (by omega) hi
    omega
theorem RR.le {out : List (List Int)} (rr : RR p m out) (h : ∀ r ∈ out, ld r < out.length) : ∀ (k i : Nat) (hi : i < out.length), out.length - 1 - i = k → ld out[i] ≤ i
  | 0, i, hi, hk => by
    have := h _ (List.getElem_mem hi); omega
  | k + 1, i, hi, hk => by
    have h1 := rr.le h k (i + 1) (by omega) (by omega)
    have h2 := rr.incr (i := i) (j := i + 1) (by omega) (by omega)
    omega
theorem RR.all {out : List (List Int)} (rr : RR p m out) (h : ∀ r ∈ out, ld r < out.length) (i : Nat) (hi : i < out.length) : ld out[i] = i := by
  have h1 := rr.ge i hi
  have h2 := rr.le h _ i hi rfl
  omega
end
theorem g19_ok {l : List Int} {k : Int} (hl : l.length ≤ 1000000) (hk : 0 ≤ k ∧ k ≤ 1000000000000) : cf19 (l, k, ()) = some (marks k l.length, k + l.length, ()) := if_pos ⟨hl, hk.1, hk.2⟩
theorem g20_ok {n : Nat} {k : Int} (hl : n ≤ 1000000) (hk : 0 ≤ k ∧ k ≤ 1000000000000) : cf20 (marks k n, k, ()) = some (k + n, ()) := by
  have hm := marks_len n k
  have : cf20 (marks k n, k, ()) = some (k + ((marks k n).length : Int), ()) := if_pos ⟨by rw [hm]; exact hl, hk.1, hk.2, by rw [hm]⟩
  rw [this, hm]
theorem law304_one : KOne Tryz.prog 7 ⟨[.v (.slice 25 lpoly), .v i64], [.bool], false, false, 0, fun x => bif okA [.v (.slice 25 lpoly), .v i64] x then some (true, ()) else none⟩ :=
  ok7 _ _ _ _ _ _ _ _ _ (.cons k18 (.cons k19 (.cons k20 (.cons k27 (.cons k26 (.cons k329 (.cons k328 (.cons k23 (.cons k21 .nil))))))))) _ fun x y h => by
    obtain ⟨L, n, _⟩ := x
    change List Po at L
    cases hx : okA [.v (.slice 25 lpoly), .v i64] (L, n, ()) with
    | false => simp only [hx, cond_false] at h; cases h
    | true =>
      simp only [hx, cond_true] at h
      injection h with h; subst h
      refine ⟨0, ?_⟩
      simp only [okA, Bool.and_eq_true] at hx
      obtain ⟨x1, x2⟩ := okL_args hx.1
      simp only [fn7]
      rw [g21_ok x1 fun z hz => (x2 z hz).1]
      simp only
      by_cases hsz : sz21 L < 0
      · rw [dlt_t hsz, cond_true]
      · rw [dlt_f (by omega), cond_false]
        have s := smL_of x2 (by omega)
        obtain ⟨R, c, hl, e1, e2⟩ := same328 (n := n) s.sV
        obtain ⟨M, m, c27, n0, n1⟩ := g27_ok s.sm
        have c18 : cf18 (R, R, ()) = some (true, ()) := by
          have : cf18 (R, R, ()) = some (decide (R = R), ()) := if_pos ⟨by simp only [B]; omega, by simp only [B]; omega⟩
          rw [this, decide_eq_true rfl]
        have c19 : cf19 (R, (1 : Int), ()) = some (marks 1 R.length, 1 + (R.length : Int), ()) := g19_ok (by omega) (by omega)
        have c20 : cf20 (marks 1 R.length, (1 : Int), ()) = some (1 + (R.length : Int), ()) := g20_ok (by omega) (by omega)
        have n2 : (bif ((Nat.beq 2 2) && true) then marks 1 R.length else []) = marks 1 R.length := rfl
        simp (disch := omega) only [s.c23, e1, e2, s.c26, c27, c18, c19, n2, c20, Bool.not_true, cond_false, deq_t, decide_true, dlt_f]
end Go.Proofs.YtmdpmnjnpnjppaaGreatEv
