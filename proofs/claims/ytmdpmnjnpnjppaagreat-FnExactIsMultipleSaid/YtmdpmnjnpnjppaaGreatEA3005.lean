/- The program's operations on plain typed data, that the machine does the same, what the functions come to, and what they give (part 5). No condition. -/
import Derived.Test.YtmdpmnjnpnjppaaGreatEA3004
set_option linter.unusedVariables false
set_option linter.unusedSimpArgs false
namespace Go.Proofs.YtmdpmnjnpnjppaaGreatEv
open Go Go.RowKit
abbrev R190 : Type := Ress [poly]
abbrev G190 : Type := Args [.v i64, .v i64] → Option R190
abbrev kp190 : List (Nat × List Nat) := [(0, [0, 1, 4]), (1, [4])]
abbrev ct190 : CTab := []
def fn190 (F : Nat) (x : Args [.v i64, .v i64]) : Option R190 :=
  match x with
  | (x0, x1, _) => (some ((x0, (x1, ([], ()))), ()))
theorem ev190 (F : Nat) (x : Args [.v i64, .v i64]) : fnK TT (ct190 ) kp190 [poly] [] (bodyOf Tryz.f190) [.cell 4 34] [.v i64, .v i64] true false x = fn190 F x := by
  obtain ⟨x0, x1, _⟩ := x
  kernel_rfl
theorem ok190 (hK : KOK Tryz.prog (ct190 )) (cf : G190) (h : ∀ x y, cf x = some y → ∃ F, fn190 F x = some y) : KOne Tryz.prog 190 ⟨[.v i64, .v i64], [poly], true, false, 0, cf⟩ :=
  fn_one rfl (c := bodyOf Tryz.f190) mixed tt_ok hK Tryz.func190 (by kernel_rfl) (by kernel_rfl) (Nat.le_of_ble_eq_true (by kernel_rfl)) (by decide) fun x y hxy => by
    obtain ⟨F, hF⟩ := h x y hxy
    exact ⟨[], LTOK_by (l := []) (by kernel_rfl) trivial, (ev190 F x).trans hF⟩
abbrev R163 : Type := Ress [i64]
abbrev G163 : Type := Args [.v poly, .v ex] → Option R163
abbrev kp163 : List (Nat × List Nat) := [(0, [2, 3]), (1, [5, 2, 3]), (2, [10, 3, 2, 5]), (4, [20, 3, 2, 5]), (5, [4]), (3, [5, 2, 3]), (6, [4])]
abbrev ct163 : CTab := []
abbrev kr163 : Env → Option R163 := endK TT [.tmp 4] [i64] false false
abbrev sh163_2 : Shape := [(2, .box false [.fz i64 0 false, .fz i64 0 false, .fz (.slice 135 term) 0 true]), (3, bb ex), (5, vv i64)]
def st163_2 (F : Nat) (s : ShVal sh163_2) (k kx : ShVal sh163_2 → Option R163) : Option R163 :=
  match s with
  | ((t2_0, t2_1, t2_2, _), (t3, _), (t5, _), _) => (bif decide ((List.length t2_2) ≤ 9223372036854775807) then (bif decide (t5 < (Int.ofNat (List.length t2_2))) then (bif ib t5 (Int.ofNat (List.length t2_2)) then (bif (Ty.eqd (.arr 3 (.int .u8)) (List.getD t2_2 (tn t5) (Ty.dflt (.pair (.arr 3 (.int .u8)) (.pair (.int .i64) .unit)))).1 t3) then (bif ib t5 (Int.ofNat (List.length t2_2)) then (some ((List.getD t2_2 (tn t5) (Ty.dflt (.pair (.arr 3 (.int .u8)) (.pair (.int .i64) .unit)))).2.1, ())) else none) else k ((t2_0, (t2_1, (t2_2, ()))), ((t3, ()), (((w6 (t5 + (1 : Int))), ()), ())))) else none) else kx ((t2_0, (t2_1, (t2_2, ()))), ((t3, ()), ((t5, ()), ())))) else none)
def ru163_2 (F : Nat) (s : ShVal sh163_2) (kx : ShVal sh163_2 → Option R163) : Option R163 := iter (fun s k => st163_2 F s k kx) F s
abbrev ls163_2 (F : Nat) : LS R163 := ⟨sh163_2, 0, ru163_2 F⟩
def fn163 (F : Nat) (x : Args [.v poly, .v ex]) : Option R163 :=
  match x with
  | (x0, x1, _) => (ru163_2 F ((x0.1, (x0.2.1, (x0.2.2.1, ()))), ((x1, ()), (((0 : Int), ()), ()))) (fun s' => match s' with | ((t2_0, t2_1, t2_2, _), (t3, _), (t5, _), _) => (some ((0 : Int), ()))))
theorem ev163_2 (F : Nat) (s : ShVal sh163_2) (k kx : ShVal sh163_2 → Option R163) : evL TT (ct163 ) kp163 [] (loopOf Tryz.f163 2) (envOf sh163_2 s) (fitK sh163_2 k) (fun j e => bif Nat.beq j 0 then fitK sh163_2 kx e else none) kr163 = st163_2 F s k kx := by
  obtain ⟨⟨t2_0, t2_1, t2_2, _⟩, ⟨t3, _⟩, ⟨t5, _⟩, _⟩ := s
  kernel_rfl
theorem ok163_2 (F : Nat) (hK : KOK Tryz.prog (ct163 )) : LSOK Tryz.prog ⟨27, false, undef⟩ (ls163_2 F) (loopOf Tryz.f163 2) kr163 :=
  loop_ok (st163_2 F) mixed tt_ok hK (by kernel_rfl) (LTOK_by (l := []) (by kernel_rfl) trivial) (ev163_2 F)
theorem ev163 (F : Nat) (x : Args [.v poly, .v ex]) : fnK TT (ct163 ) kp163 [i64] [(2, ls163_2 F)] (bodyOf Tryz.f163) [.tmp 4] [.v poly, .v ex] false false x = fn163 F x := by
  obtain ⟨x0, x1, _⟩ := x
  kernel_rfl
theorem ok163 (hK : KOK Tryz.prog (ct163 )) (cf : G163) (h : ∀ x y, cf x = some y → ∃ F, fn163 F x = some y) : KOne Tryz.prog 163 ⟨[.v poly, .v ex], [i64], false, false, 0, cf⟩ :=
  fn_one rfl (c := bodyOf Tryz.f163) mixed tt_ok hK Tryz.func163 (by kernel_rfl) (by kernel_rfl) (Nat.le_of_ble_eq_true (by kernel_rfl)) (by decide) fun x y hxy => by
    obtain ⟨F, hF⟩ := h x y hxy
    exact ⟨[(2, ls163_2 F)], LTOK_by (l := [loopOf Tryz.f163 2]) (by kernel_rfl) ⟨ls_at (by kernel_rfl) (ok163_2 F hK), trivial⟩, (ev163 F x).trans hF⟩
abbrev R158 : Type := Ress [i64]
abbrev G158 : Type := Args [.v ex] → Option R158
abbrev kp158 : List (Nat × List Nat) := [(0, [1]), (1, [2])]
abbrev ct158 : CTab := []
def fn158 (F : Nat) (x : Args [.v ex]) : Option R158 :=
  match x with
  | (x0, _) => (some ((w6 ((w6 ((w6 (tget (0 : Int) 3 x0 (tn (0 : Int)))) + (w6 (tget (0 : Int) 3 x0 (tn (1 : Int)))))) + (w6 (tget (0 : Int) 3 x0 (tn (2 : Int)))))), ()))
theorem ev158 (F : Nat) (x : Args [.v ex]) : fnK TT (ct158 ) kp158 [i64] [] (bodyOf Tryz.f158) [.tmp 2] [.v ex] false false x = fn158 F x := by
  obtain ⟨x0, _⟩ := x
  kernel_rfl
theorem ok158 (hK : KOK Tryz.prog (ct158 )) (cf : G158) (h : ∀ x y, cf x = some y → ∃ F, fn158 F x = some y) : KOne Tryz.prog 158 ⟨[.v ex], [i64], false, false, 0, cf⟩ :=
  fn_one rfl (c := bodyOf Tryz.f158) mixed tt_ok hK Tryz.func158 (by kernel_rfl) (by kernel_rfl) (Nat.le_of_ble_eq_true (by kernel_rfl)) (by decide) fun x y hxy => by
    obtain ⟨F, hF⟩ := h x y hxy
    exact ⟨[], LTOK_by (l := []) (by kernel_rfl) trivial, (ev158 F x).trans hF⟩
abbrev R84 : Type := Ress [i64]
abbrev G84 : Type := Args [.v poly] → Option R84
abbrev kp84 : List (Nat × List Nat) := [(0, [1]), (1, [6, 1]), (2, [2]), (3, [2])]
abbrev ct84 (g158 : G158) : CTab := [(158, ⟨[.v ex], [i64], false, false, 0, g158⟩)]
def fn84 (g158 : G158) (F : Nat) (x : Args [.v poly]) : Option R84 :=
  match x with
  | (x0, _) => (bif decide ((List.length x0.2.2.1) ≤ 9223372036854775807) then (bif decide ((Int.ofNat (List.length x0.2.2.1)) = (0 : Int)) then (some ((-(1 : Int)), ())) else (bif decide ((List.length x0.2.2.1) ≤ 9223372036854775807) then (bif ib (w6 ((Int.ofNat (List.length x0.2.2.1)) - (1 : Int))) (Int.ofNat (List.length x0.2.2.1)) then (match (g158 ((List.getD x0.2.2.1 (tn (w6 ((Int.ofNat (List.length x0.2.2.1)) - (1 : Int)))) (Ty.dflt (.pair (.arr 3 (.int .u8)) (.pair (.int .i64) .unit)))).1, ())) with | some r5 => (some (r5.1, ())) | none => none) else none) else none)) else none)
theorem ev84 (g158 : G158) (F : Nat) (x : Args [.v poly]) : fnK TT (ct84 g158 ) kp84 [i64] [] (bodyOf Tryz.f84) [.tmp 2] [.v poly] false false x = fn84 g158 F x := by
  obtain ⟨x0, _⟩ := x
  kernel_rfl
theorem ok84 (g158 : G158) (hK : KOK Tryz.prog (ct84 g158 )) (cf : G84) (h : ∀ x y, cf x = some y → ∃ F, fn84 g158 F x = some y) : KOne Tryz.prog 84 ⟨[.v poly], [i64], false, false, 0, cf⟩ :=
  fn_one rfl (c := bodyOf Tryz.f84) mixed tt_ok hK Tryz.func84 (by kernel_rfl) (by kernel_rfl) (Nat.le_of_ble_eq_true (by kernel_rfl)) (by decide) fun x y hxy => by
    obtain ⟨F, hF⟩ := h x y hxy
    exact ⟨[], LTOK_by (l := []) (by kernel_rfl) trivial, (ev84 g158 F x).trans hF⟩
abbrev R156 : Type := Ress [.bool]
abbrev G156 : Type := Args [.v i64, .v ex] → Option R156
abbrev kp156 : List (Nat × List Nat) := [(0, [0, 3]), (1, [5, 3]), (2, [8, 3, 5]), (4, [14, 3, 5]), (5, [4]), (3, [5, 3]), (6, [4])]
abbrev ct156 (g158 : G158) : CTab := [(158, ⟨[.v ex], [i64], false, false, 0, g158⟩)]
abbrev kr156 : Env → Option R156 := endK TT [.tmp 4] [.bool] false false
abbrev sh156_2 : Shape := [(3, bb ex), (5, vv i64)]
def st156_2 (g158 : G158) (F : Nat) (s : ShVal sh156_2) (k kx : ShVal sh156_2 → Option R156) : Option R156 :=
  match s with
  | ((t3, _), (t5, _), _) => (bif decide (t5 < (3 : Int)) then (bif ib t5 (Int.ofNat 3) then (bif (!decide ((tget (0 : Int) 3 t3 (tn t5)) = (0 : Int))) then (some (false, ())) else k ((t3, ()), (((w6 (t5 + (1 : Int))), ()), ()))) else none) else kx ((t3, ()), ((t5, ()), ())))
def ru156_2 (g158 : G158) (F : Nat) (s : ShVal sh156_2) (kx : ShVal sh156_2 → Option R156) : Option R156 := iter (fun s k => st156_2 g158 F s k kx) F s
abbrev ls156_2 (g158 : G158) (F : Nat) : LS R156 := ⟨sh156_2, 0, ru156_2 g158 F⟩
def fn156 (g158 : G158) (F : Nat) (x : Args [.v i64, .v ex]) : Option R156 :=
  match x with
  | (x0, x1, _) => (ru156_2 g158 F ((x1, ()), ((x0, ()), ())) (fun s' => match s' with | ((t3, _), (t5, _), _) => (match (g158 (t3, ())) with | some r8 => (some (decide (r8.1 ≤ (12 : Int)), ())) | none => none)))
theorem ev156_2 (g158 : G158) (F : Nat) (s : ShVal sh156_2) (k kx : ShVal sh156_2 → Option R156) : evL TT (ct156 g158 ) kp156 [] (loopOf Tryz.f156 2) (envOf sh156_2 s) (fitK sh156_2 k) (fun j e => bif Nat.beq j 0 then fitK sh156_2 kx e else none) kr156 = st156_2 g158 F s k kx := by
  obtain ⟨⟨t3, _⟩, ⟨t5, _⟩, _⟩ := s
  kernel_rfl
theorem ok156_2 (g158 : G158) (F : Nat) (hK : KOK Tryz.prog (ct156 g158 )) : LSOK Tryz.prog ⟨18, false, undef⟩ (ls156_2 g158 F) (loopOf Tryz.f156 2) kr156 :=
  loop_ok (st156_2 g158 F) mixed tt_ok hK (by kernel_rfl) (LTOK_by (l := []) (by kernel_rfl) trivial) (ev156_2 g158 F)
theorem ev156 (g158 : G158) (F : Nat) (x : Args [.v i64, .v ex]) : fnK TT (ct156 g158 ) kp156 [.bool] [(2, ls156_2 g158 F)] (bodyOf Tryz.f156) [.tmp 4] [.v i64, .v ex] false false x = fn156 g158 F x := by
  obtain ⟨x0, x1, _⟩ := x
  kernel_rfl
theorem ok156 (g158 : G158) (hK : KOK Tryz.prog (ct156 g158 )) (cf : G156) (h : ∀ x y, cf x = some y → ∃ F, fn156 g158 F x = some y) : KOne Tryz.prog 156 ⟨[.v i64, .v ex], [.bool], false, false, 0, cf⟩ :=
  fn_one rfl (c := bodyOf Tryz.f156) mixed tt_ok hK Tryz.func156 (by kernel_rfl) (by kernel_rfl) (Nat.le_of_ble_eq_true (by kernel_rfl)) (by decide) fun x y hxy => by
    obtain ⟨F, hF⟩ := h x y hxy
    exact ⟨[(2, ls156_2 g158 F)], LTOK_by (l := [loopOf Tryz.f156 2]) (by kernel_rfl) ⟨ls_at (by kernel_rfl) (ok156_2 g158 F hK), trivial⟩, (ev156 g158 F x).trans hF⟩
abbrev R83 : Type := Ress [.bool]
abbrev G83 : Type := Args [.v poly] → Option R83
abbrev kp83 : List (Nat × List Nat) := [(0, [1]), (1, [2])]
abbrev ct83 (g158 : G158) (g84 : G84) : CTab := [(158, ⟨[.v ex], [i64], false, false, 0, g158⟩), (84, ⟨[.v poly], [i64], false, false, 0, g84⟩)]
def fn83 (g158 : G158) (g84 : G84) (F : Nat) (x : Args [.v poly]) : Option R83 :=
  match x with
  | (x0, _) => (bif decide ((List.length x0.2.2.1) ≤ 9223372036854775807) then (bif decide ((Int.ofNat (List.length x0.2.2.1)) = (0 : Int)) then (some (true, ())) else (bif ib (0 : Int) (Int.ofNat (List.length x0.2.2.1)) then (match (g158 ((List.getD x0.2.2.1 (tn (0 : Int)) (Ty.dflt (.pair (.arr 3 (.int .u8)) (.pair (.int .i64) .unit)))).1, ())) with | some r5 => (match (g84 ((x0.1, (x0.2.1, (x0.2.2.1, ()))), ())) with | some r6 => (some ((bif false then true else decide (r5.1 = r6.1)), ())) | none => none) | none => none) else none)) else none)
theorem ev83 (g158 : G158) (g84 : G84) (F : Nat) (x : Args [.v poly]) : fnK TT (ct83 g158 g84 ) kp83 [.bool] [] (bodyOf Tryz.f83) [.tmp 2] [.v poly] false false x = fn83 g158 g84 F x := by
  obtain ⟨x0, _⟩ := x
  kernel_rfl
theorem ok83 (g158 : G158) (g84 : G84) (hK : KOK Tryz.prog (ct83 g158 g84 )) (cf : G83) (h : ∀ x y, cf x = some y → ∃ F, fn83 g158 g84 F x = some y) : KOne Tryz.prog 83 ⟨[.v poly], [.bool], false, false, 0, cf⟩ :=
  fn_one rfl (c := bodyOf Tryz.f83) mixed tt_ok hK Tryz.func83 (by kernel_rfl) (by kernel_rfl) (Nat.le_of_ble_eq_true (by kernel_rfl)) (by decide) fun x y hxy => by
    obtain ⟨F, hF⟩ := h x y hxy
    exact ⟨[], LTOK_by (l := []) (by kernel_rfl) trivial, (ev83 g158 g84 F x).trans hF⟩
abbrev R157 : Type := Ress [.bool]
abbrev G157 : Type := Args [.v ex, .v ex] → Option R157
abbrev kp157 : List (Nat × List Nat) := [(0, [2, 3]), (1, [9, 2, 3]), (2, [4]), (3, [19, 2, 3]), (4, [4]), (5, [4])]
abbrev ct157 (g158 : G158) : CTab := [(158, ⟨[.v ex], [i64], false, false, 0, g158⟩)]
def fn157 (g158 : G158) (F : Nat) (x : Args [.v ex, .v ex]) : Option R157 :=
  match x with
  | (x0, x1, _) => (match (g158 (x0, ())) with | some r5 => (match (g158 (x1, ())) with | some r6 => (bif (!decide (r5.1 = r6.1)) then (match (g158 (x0, ())) with | some r8 => (match (g158 (x1, ())) with | some r9 => (some (decide (r8.1 < r9.1), ())) | none => none) | none => none) else (bif (!decide ((tget (0 : Int) 3 x0 (tn (0 : Int))) = (tget (0 : Int) 3 x1 (tn (0 : Int))))) then (some (decide ((tget (0 : Int) 3 x1 (tn (0 : Int))) < (tget (0 : Int) 3 x0 (tn (0 : Int)))), ())) else (some (decide ((tget (0 : Int) 3 x1 (tn (1 : Int))) < (tget (0 : Int) 3 x0 (tn (1 : Int)))), ())))) | none => none) | none => none)
theorem ev157 (g158 : G158) (F : Nat) (x : Args [.v ex, .v ex]) : fnK TT (ct157 g158 ) kp157 [.bool] [] (bodyOf Tryz.f157) [.tmp 4] [.v ex, .v ex] false false x = fn157 g158 F x := by
  obtain ⟨x0, x1, _⟩ := x
  kernel_rfl
theorem ok157 (g158 : G158) (hK : KOK Tryz.prog (ct157 g158 )) (cf : G157) (h : ∀ x y, cf x = some y → ∃ F, fn157 g158 F x = some y) : KOne Tryz.prog 157 ⟨[.v ex, .v ex], [.bool], false, false, 0, cf⟩ :=
  fn_one rfl (c := bodyOf Tryz.f157) mixed tt_ok hK Tryz.func157 (by kernel_rfl) (by kernel_rfl) (Nat.le_of_ble_eq_true (by kernel_rfl)) (by decide) fun x y hxy => by
    obtain ⟨F, hF⟩ := h x y hxy
    exact ⟨[], LTOK_by (l := []) (by kernel_rfl) trivial, (ev157 g158 F x).trans hF⟩
abbrev R189 : Type := Ress [poly]
abbrev G189 : Type := Args [.v poly, .v ex, .v i64] → Option R189
abbrev kp189 : List (Nat × List Nat) := [(0, [2, 4, 3, 6]), (1, [2, 7, 4, 3, 6]), (2, [7, 4, 2, 3, 6]), (3, [7, 4, 2, 8, 3, 6]), (4, [9, 7, 4, 2, 8, 3, 6]), (5, [30, 8, 9, 7, 4, 2, 3, 6]), (7, [8, 10, 9, 7, 4, 2, 3, 6]), (8, [45, 8, 10, 9, 7, 4, 2, 3, 6]), (9, [10, 9, 7, 4, 2, 3, 6]), (10, [10, 9, 7, 4, 2, 8, 3, 6]), (11, [57, 10, 9, 7, 4, 2, 8, 3, 6]), (12, [9, 7, 4, 2, 8, 3, 6]), (6, [9, 7, 4, 2, 8, 3, 6]), (13, [65, 4, 2, 7, 6]), (14, [7, 6]), (15, [6])]
abbrev ct189 (g190 : G190) (g157 : G157) (g219 : G219) (g163 : G163) : CTab := [(190, ⟨[.v i64, .v i64], [poly], true, false, 0, g190⟩), (157, ⟨[.v ex, .v ex], [.bool], false, false, 0, g157⟩), (219, ⟨[.v i64, .v i64], [i64], false, false, 0, g219⟩), (163, ⟨[.v poly, .v ex], [i64], false, false, 0, g163⟩)]
abbrev kr189 : Env → Option R189 := endK TT [.cell 6 34] [poly] true false
abbrev sh189_5 : Shape := [(2, vv i64), (3, .box false [.fz i64 0 false, .fz i64 0 false, .fz (.slice 135 term) 0 true]), (4, bb ex), (6, .box false [.fz i64 0 false, .fz i64 0 false, .rt 135 term 99 false true true]), (7, .box false [.fz i64 0 false, .fz i64 0 false, .rt 135 term 115 false true false]), (8, vv .bool), (9, vv i64)]
def st189_5 (g190 : G190) (g157 : G157) (g219 : G219) (g163 : G163) (F : Nat) (s : ShVal sh189_5) (k kx : ShVal sh189_5 → Option R189) : Option R189 :=
  match s with
  | ((t2, _), (t3_0, t3_1, t3_2, _), (t4, _), (t6_0, t6_1, t6_2, _), (t7_0, t7_1, t7_2, _), (t8, _), (t9, _), _) => (bif decide ((List.length t3_2) ≤ 9223372036854775807) then (bif decide (t9 < (Int.ofNat (List.length t3_2))) then (bif ib t9 (Int.ofNat (List.length t3_2)) then (bif (!t8) then (match (g157 (t4, ((List.getD t3_2 (tn t9) (Ty.dflt (.pair (.arr 3 (.int .u8)) (.pair (.int .i64) .unit)))).1, ()))) with | some r31 => (bif (bif true then r31.1 else false) then (bif (growOk (List.length t7_2) (List.length ((t4, (t2, ())) :: []))) then (bif (!(Ty.eqd (.arr 3 (.int .u8)) (List.getD t3_2 (tn t9) (Ty.dflt (.pair (.arr 3 (.int .u8)) (.pair (.int .i64) .unit)))).1 t4)) then (bif (growOk (List.length (t7_2 ++ ((t4, (t2, ())) :: []))) (List.length (((List.getD t3_2 (tn t9) (Ty.dflt (.pair (.arr 3 (.int .u8)) (.pair (.int .i64) .unit)))).1, ((List.getD t3_2 (tn t9) (Ty.dflt (.pair (.arr 3 (.int .u8)) (.pair (.int .i64) .unit)))).2.1, ())) :: []))) then k ((t2, ()), ((t3_0, (t3_1, (t3_2, ()))), ((t4, ()), ((t6_0, (t6_1, (t6_2, ()))), ((t7_0, (t7_1, (((t7_2 ++ ((t4, (t2, ())) :: [])) ++ (((List.getD t3_2 (tn t9) (Ty.dflt (.pair (.arr 3 (.int .u8)) (.pair (.int .i64) .unit)))).1, ((List.getD t3_2 (tn t9) (Ty.dflt (.pair (.arr 3 (.int .u8)) (.pair (.int .i64) .unit)))).2.1, ())) :: [])), ()))), ((true, ()), (((w6 (t9 + (1 : Int))), ()), ()))))))) else none) else k ((t2, ()), ((t3_0, (t3_1, (t3_2, ()))), ((t4, ()), ((t6_0, (t6_1, (t6_2, ()))), ((t7_0, (t7_1, ((t7_2 ++ ((t4, (t2, ())) :: [])), ()))), ((true, ()), (((w6 (t9 + (1 : Int))), ()), ())))))))) else none) else (bif (!(Ty.eqd (.arr 3 (.int .u8)) (List.getD t3_2 (tn t9) (Ty.dflt (.pair (.arr 3 (.int .u8)) (.pair (.int .i64) .unit)))).1 t4)) then (bif (growOk (List.length t7_2) (List.length (((List.getD t3_2 (tn t9) (Ty.dflt (.pair (.arr 3 (.int .u8)) (.pair (.int .i64) .unit)))).1, ((List.getD t3_2 (tn t9) (Ty.dflt (.pair (.arr 3 (.int .u8)) (.pair (.int .i64) .unit)))).2.1, ())) :: []))) then k ((t2, ()), ((t3_0, (t3_1, (t3_2, ()))), ((t4, ()), ((t6_0, (t6_1, (t6_2, ()))), ((t7_0, (t7_1, ((t7_2 ++ (((List.getD t3_2 (tn t9) (Ty.dflt (.pair (.arr 3 (.int .u8)) (.pair (.int .i64) .unit)))).1, ((List.getD t3_2 (tn t9) (Ty.dflt (.pair (.arr 3 (.int .u8)) (.pair (.int .i64) .unit)))).2.1, ())) :: [])), ()))), ((t8, ()), (((w6 (t9 + (1 : Int))), ()), ()))))))) else none) else k ((t2, ()), ((t3_0, (t3_1, (t3_2, ()))), ((t4, ()), ((t6_0, (t6_1, (t6_2, ()))), ((t7_0, (t7_1, (t7_2, ()))), ((t8, ()), (((w6 (t9 + (1 : Int))), ()), ()))))))))) | none => none) else (bif (!(Ty.eqd (.arr 3 (.int .u8)) (List.getD t3_2 (tn t9) (Ty.dflt (.pair (.arr 3 (.int .u8)) (.pair (.int .i64) .unit)))).1 t4)) then (bif (growOk (List.length t7_2) (List.length (((List.getD t3_2 (tn t9) (Ty.dflt (.pair (.arr 3 (.int .u8)) (.pair (.int .i64) .unit)))).1, ((List.getD t3_2 (tn t9) (Ty.dflt (.pair (.arr 3 (.int .u8)) (.pair (.int .i64) .unit)))).2.1, ())) :: []))) then k ((t2, ()), ((t3_0, (t3_1, (t3_2, ()))), ((t4, ()), ((t6_0, (t6_1, (t6_2, ()))), ((t7_0, (t7_1, ((t7_2 ++ (((List.getD t3_2 (tn t9) (Ty.dflt (.pair (.arr 3 (.int .u8)) (.pair (.int .i64) .unit)))).1, ((List.getD t3_2 (tn t9) (Ty.dflt (.pair (.arr 3 (.int .u8)) (.pair (.int .i64) .unit)))).2.1, ())) :: [])), ()))), ((t8, ()), (((w6 (t9 + (1 : Int))), ()), ()))))))) else none) else k ((t2, ()), ((t3_0, (t3_1, (t3_2, ()))), ((t4, ()), ((t6_0, (t6_1, (t6_2, ()))), ((t7_0, (t7_1, (t7_2, ()))), ((t8, ()), (((w6 (t9 + (1 : Int))), ()), ()))))))))) else none) else kx ((t2, ()), ((t3_0, (t3_1, (t3_2, ()))), ((t4, ()), ((t6_0, (t6_1, (t6_2, ()))), ((t7_0, (t7_1, (t7_2, ()))), ((t8, ()), ((t9, ()), ())))))))) else none)
def ru189_5 (g190 : G190) (g157 : G157) (g219 : G219) (g163 : G163) (F : Nat) (s : ShVal sh189_5) (kx : ShVal sh189_5 → Option R189) : Option R189 := iter (fun s k => st189_5 g190 g157 g219 g163 F s k kx) F s
abbrev ls189_5 (g190 : G190) (g157 : G157) (g219 : G219) (g163 : G163) (F : Nat) : LS R189 := ⟨sh189_5, 0, ru189_5 g190 g157 g219 g163 F⟩
def fn189 (g190 : G190) (g157 : G157) (g219 : G219) (g163 : G163) (F : Nat) (x : Args [.v poly, .v ex, .v i64]) : Option R189 :=
  match x with
  | (x0, x1, x2, _) => (match (g190 (x0.1, (x0.2.1, ()))) with | some r9 => (match (g163 ((x0.1, (x0.2.1, (x0.2.2.1, ()))), (x1, ()))) with | some r11 => (match (g219 (x0.1, ((w6 (x2 + r11.1)), ()))) with | some r12 => (ru189_5 g190 g157 g219 g163 F ((r12.1, ()), ((x0.1, (x0.2.1, (x0.2.2.1, ()))), ((x1, ()), (((Ty.dflt (.pair (.int .i64) (.pair (.int .i64) (.pair (.slice 135 (.pair (.arr 3 (.int .u8)) (.pair (.int .i64) .unit))) .unit)))).1, ((Ty.dflt (.pair (.int .i64) (.pair (.int .i64) (.pair (.slice 135 (.pair (.arr 3 (.int .u8)) (.pair (.int .i64) .unit))) .unit)))).2.1, ((Ty.dflt (.pair (.int .i64) (.pair (.int .i64) (.pair (.slice 135 (.pair (.arr 3 (.int .u8)) (.pair (.int .i64) .unit))) .unit)))).2.2.1, ()))), ((r9.1.1, (r9.1.2.1, (r9.1.2.2.1, ()))), ((decide (r12.1 = (0 : Int)), ()), (((0 : Int), ()), ()))))))) (fun s' => match s' with | ((t2, _), (t3_0, t3_1, t3_2, _), (t4, _), (t6_0, t6_1, t6_2, _), (t7_0, t7_1, t7_2, _), (t8, _), (t9, _), _) => (bif (!t8) then (bif (growOk (List.length t7_2) (List.length ((t4, (t2, ())) :: []))) then (some ((t7_0, (t7_1, ((t7_2 ++ ((t4, (t2, ())) :: [])), ()))), ())) else none) else (some ((t7_0, (t7_1, (t7_2, ()))), ()))))) | none => none) | none => none) | none => none)
theorem ev189_5 (g190 : G190) (g157 : G157) (g219 : G219) (g163 : G163) (F : Nat) (s : ShVal sh189_5) (k kx : ShVal sh189_5 → Option R189) : evL TT (ct189 g190 g157 g219 g163 ) kp189 [] (loopOf Tryz.f189 5) (envOf sh189_5 s) (fitK sh189_5 k) (fun j e => bif Nat.beq j 0 then fitK sh189_5 kx e else none) kr189 = st189_5 g190 g157 g219 g163 F s k kx := by
  obtain ⟨⟨t2, _⟩, ⟨t3_0, t3_1, t3_2, _⟩, ⟨t4, _⟩, ⟨t6_0, t6_1, t6_2, _⟩, ⟨t7_0, t7_1, t7_2, _⟩, ⟨t8, _⟩, ⟨t9, _⟩, _⟩ := s
  kernel_rfl
theorem ok189_5 (g190 : G190) (g157 : G157) (g219 : G219) (g163 : G163) (F : Nat) (hK : KOK Tryz.prog (ct189 g190 g157 g219 g163 )) : LSOK Tryz.prog ⟨75, false, undef⟩ (ls189_5 g190 g157 g219 g163 F) (loopOf Tryz.f189 5) kr189 :=
  loop_ok (st189_5 g190 g157 g219 g163 F) mixed tt_ok hK (by kernel_rfl) (LTOK_by (l := []) (by kernel_rfl) trivial) (ev189_5 g190 g157 g219 g163 F)
theorem ev189 (g190 : G190) (g157 : G157) (g219 : G219) (g163 : G163) (F : Nat) (x : Args [.v poly, .v ex, .v i64]) : fnK TT (ct189 g190 g157 g219 g163 ) kp189 [poly] [(5, ls189_5 g190 g157 g219 g163 F)] (bodyOf Tryz.f189) [.cell 6 34] [.v poly, .v ex, .v i64] true false x = fn189 g190 g157 g219 g163 F x := by
  obtain ⟨x0, x1, x2, _⟩ := x
  kernel_rfl
theorem ok189 (g190 : G190) (g157 : G157) (g219 : G219) (g163 : G163) (hK : KOK Tryz.prog (ct189 g190 g157 g219 g163 )) (cf : G189) (h : ∀ x y, cf x = some y → ∃ F, fn189 g190 g157 g219 g163 F x = some y) : KOne Tryz.prog 189 ⟨[.v poly, .v ex, .v i64], [poly], true, false, 0, cf⟩ :=
  fn_one rfl (c := bodyOf Tryz.f189) mixed tt_ok hK Tryz.func189 (by kernel_rfl) (by kernel_rfl) (Nat.le_of_ble_eq_true (by kernel_rfl)) (by decide) fun x y hxy => by
    obtain ⟨F, hF⟩ := h x y hxy
    exact ⟨[(5, ls189_5 g190 g157 g219 g163 F)], LTOK_by (l := [loopOf Tryz.f189 5]) (by kernel_rfl) ⟨ls_at (by kernel_rfl) (ok189_5 g190 g157 g219 g163 F hK), trivial⟩, (ev189 g190 g157 g219 g163 F x).trans hF⟩
abbrev R121 : Type := Ress [poly, .bool]
abbrev G121 : Type := Args [.v poly, .v poly] → Option R121
abbrev kp121 : List (Nat × List Nat) := [(0, [2, 3, 4]), (1, [2, 3, 6, 4]), (2, [25, 2, 3, 6, 4]), (3, [5, 4]), (4, [32, 3, 2, 6, 4]), (5, [5, 4]), (6, [2, 7, 3, 6, 4]), (7, [38, 6, 3, 7, 2, 4]), (9, [8, 6, 3, 7, 2, 4]), (10, [45, 8, 6, 3, 7, 2, 4]), (12, [9, 10, 8, 6, 3, 7, 2, 4]), (13, [8, 6, 3, 7, 2, 4]), (11, [8, 6, 3, 7, 2, 4]), (8, [2, 7, 3, 6, 4]), (14, [5, 4])]
abbrev ct121 (g190 : G190) (g84 : G84) (g189 : G189) : CTab := [(190, ⟨[.v i64, .v i64], [poly], true, false, 0, g190⟩), (84, ⟨[.v poly], [i64], false, false, 0, g84⟩), (189, ⟨[.v poly, .v ex, .v i64], [poly], true, false, 0, g189⟩)]
abbrev kr121 : Env → Option R121 := endK TT [.cell 4 34, .tmp 5] [poly, .bool] true false
abbrev sh121_10 : Shape := [(2, .box false [.fz i64 0 false, .fz i64 0 false, .fz (.slice 135 term) 0 true]), (3, .box false [.fz i64 0 false, .fz i64 0 false, .fz (.slice 135 term) 0 true]), (4, .box false [.fz i64 0 false, .fz i64 0 false, .rt 135 term 67 false true true]), (6, .box false [.fz i64 0 false, .fz i64 0 false, .rt 135 term 99 false true false]), (7, vv i64), (8, vv i64)]
def st121_10 (g190 : G190) (g84 : G84) (g189 : G189) (F : Nat) (s : ShVal sh121_10) (k kx : ShVal sh121_10 → Option R121) : Option R121 :=
  match s with
  | ((t2_0, t2_1, t2_2, _), (t3_0, t3_1, t3_2, _), (t4_0, t4_1, t4_2, _), (t6_0, t6_1, t6_2, _), (t7, _), (t8, _), _) => (bif decide ((List.length t3_2) ≤ 9223372036854775807) then (bif decide (t8 < (Int.ofNat (List.length t3_2))) then (bif ib t7 (Int.ofNat (List.length t2_2)) then (bif ib t8 (Int.ofNat (List.length t3_2)) then (match (g189 ((t6_0, (t6_1, (t6_2, ()))), ((tset (w8 ((tget (0 : Int) 3 (List.getD t2_2 (tn t7) (Ty.dflt (.pair (.arr 3 (.int .u8)) (.pair (.int .i64) .unit)))).1 (tn (2 : Int))) + (tget (0 : Int) 3 (List.getD t3_2 (tn t8) (Ty.dflt (.pair (.arr 3 (.int .u8)) (.pair (.int .i64) .unit)))).1 (tn (2 : Int))))) 3 (tset (w8 ((tget (0 : Int) 3 (List.getD t2_2 (tn t7) (Ty.dflt (.pair (.arr 3 (.int .u8)) (.pair (.int .i64) .unit)))).1 (tn (1 : Int))) + (tget (0 : Int) 3 (List.getD t3_2 (tn t8) (Ty.dflt (.pair (.arr 3 (.int .u8)) (.pair (.int .i64) .unit)))).1 (tn (1 : Int))))) 3 (tset (w8 ((tget (0 : Int) 3 (List.getD t2_2 (tn t7) (Ty.dflt (.pair (.arr 3 (.int .u8)) (.pair (.int .i64) .unit)))).1 (tn (0 : Int))) + (tget (0 : Int) 3 (List.getD t3_2 (tn t8) (Ty.dflt (.pair (.arr 3 (.int .u8)) (.pair (.int .i64) .unit)))).1 (tn (0 : Int))))) 3 (tup Int (0 : Int) 3) 0) 1) 2), ((w6 ((List.getD t2_2 (tn t7) (Ty.dflt (.pair (.arr 3 (.int .u8)) (.pair (.int .i64) .unit)))).2.1 * (List.getD t3_2 (tn t8) (Ty.dflt (.pair (.arr 3 (.int .u8)) (.pair (.int .i64) .unit)))).2.1)), ())))) with | some r45 => k ((t2_0, (t2_1, (t2_2, ()))), ((t3_0, (t3_1, (t3_2, ()))), ((t4_0, (t4_1, (t4_2, ()))), ((r45.1.1, (r45.1.2.1, (r45.1.2.2.1, ()))), ((t7, ()), (((w6 (t8 + (1 : Int))), ()), ())))))) | none => none) else none) else none) else kx ((t2_0, (t2_1, (t2_2, ()))), ((t3_0, (t3_1, (t3_2, ()))), ((t4_0, (t4_1, (t4_2, ()))), ((t6_0, (t6_1, (t6_2, ()))), ((t7, ()), ((t8, ()), ()))))))) else none)
def ru121_10 (g190 : G190) (g84 : G84) (g189 : G189) (F : Nat) (s : ShVal sh121_10) (kx : ShVal sh121_10 → Option R121) : Option R121 := iter (fun s k => st121_10 g190 g84 g189 F s k kx) F s
abbrev ls121_10 (g190 : G190) (g84 : G84) (g189 : G189) (F : Nat) : LS R121 := ⟨sh121_10, 2, ru121_10 g190 g84 g189 F⟩
abbrev sh121_7 : Shape := [(2, .box false [.fz i64 0 false, .fz i64 0 false, .fz (.slice 135 term) 0 true]), (3, .box false [.fz i64 0 false, .fz i64 0 false, .fz (.slice 135 term) 0 true]), (4, .box false [.fz i64 0 false, .fz i64 0 false, .rt 135 term 67 false true true]), (6, .box false [.fz i64 0 false, .fz i64 0 false, .rt 135 term 99 false true false]), (7, vv i64)]
def st121_7 (g190 : G190) (g84 : G84) (g189 : G189) (F : Nat) (s : ShVal sh121_7) (k kx : ShVal sh121_7 → Option R121) : Option R121 :=
  match s with
  | ((t2_0, t2_1, t2_2, _), (t3_0, t3_1, t3_2, _), (t4_0, t4_1, t4_2, _), (t6_0, t6_1, t6_2, _), (t7, _), _) => (bif decide ((List.length t2_2) ≤ 9223372036854775807) then (bif decide (t7 < (Int.ofNat (List.length t2_2))) then (ru121_10 g190 g84 g189 F ((t2_0, (t2_1, (t2_2, ()))), ((t3_0, (t3_1, (t3_2, ()))), ((t4_0, (t4_1, (t4_2, ()))), ((t6_0, (t6_1, (t6_2, ()))), ((t7, ()), (((0 : Int), ()), ())))))) (fun s' => match s' with | ((t2_0, t2_1, t2_2, _), (t3_0, t3_1, t3_2, _), (t4_0, t4_1, t4_2, _), (t6_0, t6_1, t6_2, _), (t7, _), (t8, _), _) => k ((t2_0, (t2_1, (t2_2, ()))), ((t3_0, (t3_1, (t3_2, ()))), ((t4_0, (t4_1, (t4_2, ()))), ((t6_0, (t6_1, (t6_2, ()))), (((w6 (t7 + (1 : Int))), ()), ()))))))) else kx ((t2_0, (t2_1, (t2_2, ()))), ((t3_0, (t3_1, (t3_2, ()))), ((t4_0, (t4_1, (t4_2, ()))), ((t6_0, (t6_1, (t6_2, ()))), ((t7, ()), ())))))) else none)
def ru121_7 (g190 : G190) (g84 : G84) (g189 : G189) (F : Nat) (s : ShVal sh121_7) (kx : ShVal sh121_7 → Option R121) : Option R121 := iter (fun s k => st121_7 g190 g84 g189 F s k kx) F s
abbrev ls121_7 (g190 : G190) (g84 : G84) (g189 : G189) (F : Nat) : LS R121 := ⟨sh121_7, 0, ru121_7 g190 g84 g189 F⟩
def fn121 (g190 : G190) (g84 : G84) (g189 : G189) (F : Nat) (x : Args [.v poly, .v poly]) : Option R121 :=
  match x with
  | (x0, x1, _) => (match (g190 (x0.1, (x0.2.1, ()))) with | some r7 => (bif decide ((List.length x0.2.2.1) ≤ 9223372036854775807) then (bif decide ((Int.ofNat (List.length x0.2.2.1)) = (0 : Int)) then (some ((r7.1.1, (r7.1.2.1, (r7.1.2.2.1, ()))), (true, ()))) else (bif decide ((List.length x1.2.2.1) ≤ 9223372036854775807) then (bif (bif false then true else decide ((Int.ofNat (List.length x1.2.2.1)) = (0 : Int))) then (some ((r7.1.1, (r7.1.2.1, (r7.1.2.2.1, ()))), (true, ()))) else (match (g84 ((x0.1, (x0.2.1, (x0.2.2.1, ()))), ())) with | some r10 => (match (g84 ((x1.1, (x1.2.1, (x1.2.2.1, ()))), ())) with | some r11 => (bif decide ((12 : Int) < (w6 (r10.1 + r11.1))) then (some ((r7.1.1, (r7.1.2.1, (r7.1.2.2.1, ()))), (false, ()))) else (ru121_7 g190 g84 g189 F ((x0.1, (x0.2.1, (x0.2.2.1, ()))), ((x1.1, (x1.2.1, (x1.2.2.1, ()))), (((Ty.dflt (.pair (.int .i64) (.pair (.int .i64) (.pair (.slice 135 (.pair (.arr 3 (.int .u8)) (.pair (.int .i64) .unit))) .unit)))).1, ((Ty.dflt (.pair (.int .i64) (.pair (.int .i64) (.pair (.slice 135 (.pair (.arr 3 (.int .u8)) (.pair (.int .i64) .unit))) .unit)))).2.1, ((Ty.dflt (.pair (.int .i64) (.pair (.int .i64) (.pair (.slice 135 (.pair (.arr 3 (.int .u8)) (.pair (.int .i64) .unit))) .unit)))).2.2.1, ()))), ((r7.1.1, (r7.1.2.1, (r7.1.2.2.1, ()))), (((0 : Int), ()), ()))))) (fun s' => match s' with | ((t2_0, t2_1, t2_2, _), (t3_0, t3_1, t3_2, _), (t4_0, t4_1, t4_2, _), (t6_0, t6_1, t6_2, _), (t7, _), _) => (some ((t6_0, (t6_1, (t6_2, ()))), (true, ())))))) | none => none) | none => none)) else none)) else none) | none => none)
theorem ev121_10 (g190 : G190) (g84 : G84) (g189 : G189) (F : Nat) (s : ShVal sh121_10) (k kx : ShVal sh121_10 → Option R121) : evL TT (ct121 g190 g84 g189 ) kp121 [] (loopOf Tryz.f121 10) (envOf sh121_10 s) (fitK sh121_10 k) (fun j e => bif Nat.beq j 2 then fitK sh121_10 kx e else none) kr121 = st121_10 g190 g84 g189 F s k kx := by
  obtain ⟨⟨t2_0, t2_1, t2_2, _⟩, ⟨t3_0, t3_1, t3_2, _⟩, ⟨t4_0, t4_1, t4_2, _⟩, ⟨t6_0, t6_1, t6_2, _⟩, ⟨t7, _⟩, ⟨t8, _⟩, _⟩ := s
  kernel_rfl
theorem ok121_10 (g190 : G190) (g84 : G84) (g189 : G189) (F : Nat) (hK : KOK Tryz.prog (ct121 g190 g84 g189 )) : LSOK Tryz.prog ⟨88, false, undef⟩ (ls121_10 g190 g84 g189 F) (loopOf Tryz.f121 10) kr121 :=
  loop_ok (st121_10 g190 g84 g189 F) mixed tt_ok hK (by kernel_rfl) (LTOK_by (l := []) (by kernel_rfl) trivial) (ev121_10 g190 g84 g189 F)
theorem ev121_7 (g190 : G190) (g84 : G84) (g189 : G189) (F : Nat) (s : ShVal sh121_7) (k kx : ShVal sh121_7 → Option R121) : evL TT (ct121 g190 g84 g189 ) kp121 [(10, ls121_10 g190 g84 g189 F)] (loopOf Tryz.f121 7) (envOf sh121_7 s) (fitK sh121_7 k) (fun j e => bif Nat.beq j 0 then fitK sh121_7 kx e else none) kr121 = st121_7 g190 g84 g189 F s k kx := by
  obtain ⟨⟨t2_0, t2_1, t2_2, _⟩, ⟨t3_0, t3_1, t3_2, _⟩, ⟨t4_0, t4_1, t4_2, _⟩, ⟨t6_0, t6_1, t6_2, _⟩, ⟨t7, _⟩, _⟩ := s
  kernel_rfl
theorem ok121_7 (g190 : G190) (g84 : G84) (g189 : G189) (F : Nat) (hK : KOK Tryz.prog (ct121 g190 g84 g189 )) : LSOK Tryz.prog ⟨88, false, undef⟩ (ls121_7 g190 g84 g189 F) (loopOf Tryz.f121 7) kr121 :=
  loop_ok (st121_7 g190 g84 g189 F) mixed tt_ok hK (by kernel_rfl) (LTOK_by (l := [loopOf Tryz.f121 10]) (by kernel_rfl) ⟨ls_at (by kernel_rfl) (ok121_10 g190 g84 g189 F hK), trivial⟩) (ev121_7 g190 g84 g189 F)
theorem ev121 (g190 : G190) (g84 : G84) (g189 : G189) (F : Nat) (x : Args [.v poly, .v poly]) : fnK TT (ct121 g190 g84 g189 ) kp121 [poly, .bool] [(7, ls121_7 g190 g84 g189 F)] (bodyOf Tryz.f121) [.cell 4 34, .tmp 5] [.v poly, .v poly] true false x = fn121 g190 g84 g189 F x := by
  obtain ⟨x0, x1, _⟩ := x
  kernel_rfl
theorem ok121 (g190 : G190) (g84 : G84) (g189 : G189) (hK : KOK Tryz.prog (ct121 g190 g84 g189 )) (cf : G121) (h : ∀ x y, cf x = some y → ∃ F, fn121 g190 g84 g189 F x = some y) : KOne Tryz.prog 121 ⟨[.v poly, .v poly], [poly, .bool], true, false, 0, cf⟩ :=
  fn_one rfl (c := bodyOf Tryz.f121) mixed tt_ok hK Tryz.func121 (by kernel_rfl) (by kernel_rfl) (Nat.le_of_ble_eq_true (by kernel_rfl)) (by decide) fun x y hxy => by
    obtain ⟨F, hF⟩ := h x y hxy
    exact ⟨[(7, ls121_7 g190 g84 g189 F)], LTOK_by (l := [loopOf Tryz.f121 7]) (by kernel_rfl) ⟨ls_at (by kernel_rfl) (ok121_7 g190 g84 g189 F hK), trivial⟩, (ev121 g190 g84 g189 F x).trans hF⟩
abbrev R120 : Type := Ress [poly]
abbrev G120 : Type := Args [.v i64, .v i64, .v ex, .v i64] → Option R120
abbrev kp120 : List (Nat × List Nat) := [(0, [0, 1, 6, 3, 8]), (1, [8])]
abbrev ct120 (g190 : G190) (g189 : G189) : CTab := [(190, ⟨[.v i64, .v i64], [poly], true, false, 0, g190⟩), (189, ⟨[.v poly, .v ex, .v i64], [poly], true, false, 0, g189⟩)]
def fn120 (g190 : G190) (g189 : G189) (F : Nat) (x : Args [.v i64, .v i64, .v ex, .v i64]) : Option R120 :=
  match x with
  | (x0, x1, x2, x3, _) => (match (g190 (x0, (x1, ()))) with | some r8 => (match (g189 ((r8.1.1, (r8.1.2.1, (r8.1.2.2.1, ()))), (x2, (x3, ())))) with | some r9 => (some ((r9.1.1, (r9.1.2.1, (r9.1.2.2.1, ()))), ())) | none => none) | none => none)
theorem ev120 (g190 : G190) (g189 : G189) (F : Nat) (x : Args [.v i64, .v i64, .v ex, .v i64]) : fnK TT (ct120 g190 g189 ) kp120 [poly] [] (bodyOf Tryz.f120) [.cell 8 34] [.v i64, .v i64, .v ex, .v i64] true false x = fn120 g190 g189 F x := by
  obtain ⟨x0, x1, x2, x3, _⟩ := x
  kernel_rfl
theorem ok120 (g190 : G190) (g189 : G189) (hK : KOK Tryz.prog (ct120 g190 g189 )) (cf : G120) (h : ∀ x y, cf x = some y → ∃ F, fn120 g190 g189 F x = some y) : KOne Tryz.prog 120 ⟨[.v i64, .v i64, .v ex, .v i64], [poly], true, false, 0, cf⟩ :=
  fn_one rfl (c := bodyOf Tryz.f120) mixed tt_ok hK Tryz.func120 (by kernel_rfl) (by kernel_rfl) (Nat.le_of_ble_eq_true (by kernel_rfl)) (by decide) fun x y hxy => by
    obtain ⟨F, hF⟩ := h x y hxy
    exact ⟨[], LTOK_by (l := []) (by kernel_rfl) trivial, (ev120 g190 g189 F x).trans hF⟩
abbrev R81 : Type := Ress [.bool]
abbrev G81 : Type := Args [.v poly] → Option R81
abbrev kp81 : List (Nat × List Nat) := [(0, [1]), (1, [14, 1]), (2, [2]), (3, [3, 1]), (4, [19, 1, 3]), (6, [4, 1, 3]), (7, [58, 1, 3]), (8, [2]), (5, [3, 1]), (9, [2])]
abbrev ct81 (g155 : G155) (g131 : G131) (g156 : G156) (g157 : G157) : CTab := [(155, ⟨[.v i64], [.bool], false, false, 0, g155⟩), (131, ⟨[.v i64, .v i64, .v i64], [.bool], false, false, 0, g131⟩), (156, ⟨[.v i64, .v ex], [.bool], false, false, 0, g156⟩), (157, ⟨[.v ex, .v ex], [.bool], false, false, 0, g157⟩)]
abbrev kr81 : Env → Option R81 := endK TT [.tmp 2] [.bool] false false
abbrev sh81_4 : Shape := [(1, .box false [.fz i64 0 false, .fz i64 0 false, .fz (.slice 135 term) 0 true]), (3, vv i64)]
def st81_4 (g155 : G155) (g131 : G131) (g156 : G156) (g157 : G157) (F : Nat) (s : ShVal sh81_4) (k kx : ShVal sh81_4 → Option R81) : Option R81 :=
  match s with
  | ((t1_0, t1_1, t1_2, _), (t3, _), _) => (bif decide ((List.length t1_2) ≤ 9223372036854775807) then (bif decide (t3 < (Int.ofNat (List.length t1_2))) then (bif ib t3 (Int.ofNat (List.length t1_2)) then (match (g156 (t1_1, ((List.getD t1_2 (tn t3) (Ty.dflt (.pair (.arr 3 (.int .u8)) (.pair (.int .i64) .unit)))).1, ()))) with | some r17 => (bif (!r17.1) then (some (false, ())) else (match (g131 ((List.getD t1_2 (tn t3) (Ty.dflt (.pair (.arr 3 (.int .u8)) (.pair (.int .i64) .unit)))).2.1, ((1 : Int), ((w6 (t1_0 - (1 : Int))), ())))) with | some r18 => (bif (bif false then true else (!r18.1)) then (some (false, ())) else (bif decide ((0 : Int) < t3) then (bif ib (w6 (t3 - (1 : Int))) (Int.ofNat (List.length t1_2)) then (match (g157 ((List.getD t1_2 (tn (w6 (t3 - (1 : Int)))) (Ty.dflt (.pair (.arr 3 (.int .u8)) (.pair (.int .i64) .unit)))).1, ((List.getD t1_2 (tn t3) (Ty.dflt (.pair (.arr 3 (.int .u8)) (.pair (.int .i64) .unit)))).1, ()))) with | some r19 => (bif (bif false then true else (bif true then (!r19.1) else false)) then (some (false, ())) else k ((t1_0, (t1_1, (t1_2, ()))), (((w6 (t3 + (1 : Int))), ()), ()))) | none => none) else none) else (bif (bif false then true else false) then (some (false, ())) else k ((t1_0, (t1_1, (t1_2, ()))), (((w6 (t3 + (1 : Int))), ()), ()))))) | none => none)) | none => none) else none) else kx ((t1_0, (t1_1, (t1_2, ()))), ((t3, ()), ()))) else none)
def ru81_4 (g155 : G155) (g131 : G131) (g156 : G156) (g157 : G157) (F : Nat) (s : ShVal sh81_4) (kx : ShVal sh81_4 → Option R81) : Option R81 := iter (fun s k => st81_4 g155 g131 g156 g157 F s k kx) F s
abbrev ls81_4 (g155 : G155) (g131 : G131) (g156 : G156) (g157 : G157) (F : Nat) : LS R81 := ⟨sh81_4, 0, ru81_4 g155 g131 g156 g157 F⟩
def fn81 (g155 : G155) (g131 : G131) (g156 : G156) (g157 : G157) (F : Nat) (x : Args [.v poly]) : Option R81 :=
  match x with
  | (x0, _) => (match (g155 (x0.1, ())) with | some r7 => (bif (!r7.1) then (some (false, ())) else (match (g131 (x0.2.1, ((1 : Int), ((3 : Int), ())))) with | some r8 => (bif (bif false then true else (!r8.1)) then (some (false, ())) else (ru81_4 g155 g131 g156 g157 F ((x0.1, (x0.2.1, (x0.2.2.1, ()))), (((0 : Int), ()), ())) (fun s' => match s' with | ((t1_0, t1_1, t1_2, _), (t3, _), _) => (some (true, ()))))) | none => none)) | none => none)
theorem ev81_4 (g155 : G155) (g131 : G131) (g156 : G156) (g157 : G157) (F : Nat) (s : ShVal sh81_4) (k kx : ShVal sh81_4 → Option R81) : evL TT (ct81 g155 g131 g156 g157 ) kp81 [] (loopOf Tryz.f81 4) (envOf sh81_4 s) (fitK sh81_4 k) (fun j e => bif Nat.beq j 0 then fitK sh81_4 kx e else none) kr81 = st81_4 g155 g131 g156 g157 F s k kx := by
  obtain ⟨⟨t1_0, t1_1, t1_2, _⟩, ⟨t3, _⟩, _⟩ := s
  kernel_rfl
theorem ok81_4 (g155 : G155) (g131 : G131) (g156 : G156) (g157 : G157) (F : Nat) (hK : KOK Tryz.prog (ct81 g155 g131 g156 g157 )) : LSOK Tryz.prog ⟨59, false, undef⟩ (ls81_4 g155 g131 g156 g157 F) (loopOf Tryz.f81 4) kr81 :=
  loop_ok (st81_4 g155 g131 g156 g157 F) mixed tt_ok hK (by kernel_rfl) (LTOK_by (l := []) (by kernel_rfl) trivial) (ev81_4 g155 g131 g156 g157 F)
theorem ev81 (g155 : G155) (g131 : G131) (g156 : G156) (g157 : G157) (F : Nat) (x : Args [.v poly]) : fnK TT (ct81 g155 g131 g156 g157 ) kp81 [.bool] [(4, ls81_4 g155 g131 g156 g157 F)] (bodyOf Tryz.f81) [.tmp 2] [.v poly] false false x = fn81 g155 g131 g156 g157 F x := by
  obtain ⟨x0, _⟩ := x
  kernel_rfl
theorem ok81 (g155 : G155) (g131 : G131) (g156 : G156) (g157 : G157) (hK : KOK Tryz.prog (ct81 g155 g131 g156 g157 )) (cf : G81) (h : ∀ x y, cf x = some y → ∃ F, fn81 g155 g131 g156 g157 F x = some y) : KOne Tryz.prog 81 ⟨[.v poly], [.bool], false, false, 0, cf⟩ :=
  fn_one rfl (c := bodyOf Tryz.f81) mixed tt_ok hK Tryz.func81 (by kernel_rfl) (by kernel_rfl) (Nat.le_of_ble_eq_true (by kernel_rfl)) (by decide) fun x y hxy => by
    obtain ⟨F, hF⟩ := h x y hxy
    exact ⟨[(4, ls81_4 g155 g131 g156 g157 F)], LTOK_by (l := [loopOf Tryz.f81 4]) (by kernel_rfl) ⟨ls_at (by kernel_rfl) (ok81_4 g155 g131 g156 g157 F hK), trivial⟩, (ev81 g155 g131 g156 g157 F x).trans hF⟩
open Go Go.RowKit Go.Proofs
def cf97 : G190 := fun x => some ((x.1, x.2.1, [], ()), ())
theorem k97 : KOne Tryz.prog 190 ⟨[.v i64, .v i64], [poly], true, false, 0, cf97⟩ := ok190 .nil cf97 fun x y h => by
  obtain ⟨p, v, _⟩ := x
  simp only [cf97] at h
  injection h with h; subst h
  exact ⟨0, rfl⟩
theorem run158 (a b c : Int) (h : okN a b c) : fn158 0 ((a, b, c, ()), ()) = some ((a + b + c : Int), ()) := by
  unfold okN at h
  show some (w6 (w6 (w6 a + w6 b) + w6 c), ()) = _
  rw [w6_i (x := a) (by omega) (by omega), w6_i (x := b) (by omega) (by omega), w6_i (x := c) (by omega) (by omega), w6_i (x := a + b) (by omega) (by omega), w6_i (by omega) (by omega)]
def cf158 : G158 := fun x => if okX x.1 then some (degX x.1, ()) else none
theorem k158 : KOne Tryz.prog 158 ⟨[.v ex], [i64], false, false, 0, cf158⟩ := ok158 .nil cf158 fun x y h => by
  obtain ⟨e, _⟩ := x
  simp only [cf158] at h
  split at h
  · rename_i hc
    injection h with h; subst h
    exact ⟨0, run158 e.1 e.2.1 e.2.2.1 hc⟩
  · cases h
theorem run147 (a b c a' b' c' : Int) (h : okN a b c) (h' : okN a' b' c') (e1 : cf158 ((a, b, c, ()), ()) = some ((a + b + c : Int), ())) (e2 : cf158 ((a', b', c', ()), ()) = some ((a' + b' + c' : Int), ())) :
    fn157 cf158 0 ((a, b, c, ()), (a', b', c', ()), ()) = some (decide (key3 a b c < key3 a' b' c'), ()) := by
  have hk := cmp3_key h h'
  unfold okN at h h'
  simp only [fn157, e1, e2]
  show (bif !decide (a + b + c = a' + b' + c') then some (decide (a + b + c < a' + b' + c'), ()) else bif !decide (a = a') then some (decide (a' < a), ()) else some (decide (b' < b), ())) = _
  unfold cmp3 at hk
  by_cases h1 : a + b + c = a' + b' + c'
  · have h1' : (a + b + c) - (a' + b' + c') = 0 := by omega
    rw [if_pos h1'] at hk
    by_cases h2 : a = a'
    · rw [if_pos h2] at hk
      have : decide (b' < b) = decide (key3 a b c < key3 a' b' c') := decide_eq_decide.2 ⟨fun q => hk.1 (by omega), fun q => by have := hk.2 q; omega⟩
      rw [decide_eq_true h1, decide_eq_true h2, this]; rfl
    · rw [if_neg h2] at hk
      have : decide (a' < a) = decide (key3 a b c < key3 a' b' c') := decide_eq_decide.2 ⟨fun q => hk.1 (by omega), fun q => by have := hk.2 q; omega⟩
      rw [decide_eq_true h1, decide_eq_false h2, this]; rfl
  · rw [if_neg (by omega)] at hk
    have : decide (a + b + c < a' + b' + c') = decide (key3 a b c < key3 a' b' c') := decide_eq_decide.2 ⟨fun q => hk.1 (by omega), fun q => by have := hk.2 q; omega⟩
    rw [decide_eq_false h1, this]; rfl
def cf147 : G157 := fun x => if okX x.1 ∧ okX x.2.1 then some (decide (keyX x.1 < keyX x.2.1), ()) else none
theorem k147 : KOne Tryz.prog 157 ⟨[.v ex, .v ex], [.bool], false, false, 0, cf147⟩ := ok157 _ (.cons k158 .nil) cf147 fun x y h => by
  obtain ⟨a, b, _⟩ := x
  simp only [cf147] at h
  split at h
  · rename_i hc
    injection h with h; subst h
    have e1 : cf158 (a, ()) = some (degX a, ()) := if_pos hc.1
    have e2 : cf158 (b, ()) = some (degX b, ()) := if_pos hc.2
    exact ⟨0, run147 a.1 a.2.1 a.2.2.1 b.1 b.2.1 b.2.2.1 hc.1 hc.2 e1 e2⟩
  · cases h
theorem getD_pre {α : Type} {pre r : List α} {t d : α} : (pre ++ t :: r).getD pre.length d = t := by
  rw [List.getD_eq_getElem?_getD, List.getElem?_append_right (Nat.le_refl _)]; simp
theorem run146 {p v : Int} {e : ex.den} : ∀ (r pre : List term.den) (F : Nat), r.length < F → (pre ++ r).length ≤ 1000000 →
    iter (fun s k => st163_2 0 s k (fun s' => match s' with | ((t2_0, t2_1, t2_2, _), (t3, _), (t5, _), _) => (some ((0 : Int), ())))) F ((p, v, pre ++ r, ()), ((e, ()), (((pre.length : Int), ()), ()))) = some (coT r e, ())
  | [], pre, F, hF, hl => by
    obtain ⟨F, rfl⟩ : ∃ f, F = f + 1 := ⟨F - 1, by simp at hF; omega⟩
    rw [List.append_nil] at hl ⊢
    simp only [iter, st163_2]
    simp (disch := omega) only [dln_t, cond_true, ofn, dlt_f, cond_false]
    rfl
  | t :: r, pre, F, hF, hl => by
    obtain ⟨F, rfl⟩ : ∃ f, F = f + 1 := ⟨F - 1, by simp at hF; omega⟩
    have hpl : pre.length < (pre ++ t :: r).length := by simp
    simp only [iter, st163_2]
    simp (disch := omega) only [dln_t, cond_true, ofn, dlt_t, ib_t, tn_cast, getD_pre]
    simp only [coT]
    by_cases q : t.1 = e
    · have : Ty.eqd (.arr 3 (.int .u8)) t.1 e = true := (eqd_key keyT_ex).2 q
      rw [this, if_pos q]; rfl
    · have : Ty.eqd (.arr 3 (.int .u8)) t.1 e = false := Bool.eq_false_iff.2 fun z => q ((eqd_key keyT_ex).1 z)
      rw [this, if_neg q, cond_false]
      have wi : w6 ((pre.length : Int) + 1) = ((pre ++ [t]).length : Int) := by rw [w6_i (by omega) (by omega)]; simp
      rw [wi, show pre ++ t :: r = (pre ++ [t]) ++ r by simp]
      exact run146 r (pre ++ [t]) F (by simp at hF; omega) (by simpa using hl)
def cf146 : G163 := fun x => if (show List term.den from x.1.2.2.1).length ≤ 1000000 then some (coT x.1.2.2.1 x.2.1, ()) else none
theorem k146 : KOne Tryz.prog 163 ⟨[.v poly, .v ex], [i64], false, false, 0, cf146⟩ := ok163 .nil cf146 fun x y h => by
  obtain ⟨⟨p, v, ts, _⟩, e, _⟩ := x
  simp only [cf146] at h
  split at h
  · rename_i hc
    injection h with h; subst h
    exact ⟨ts.length + 1, run146 (p := p) (v := v) (e := e) ts [] (ts.length + 1) (by omega) (by simpa using hc)⟩
  · cases h
noncomputable def S98 (F0 : Nat) : ShVal sh189_5 → (ShVal sh189_5 → Option R189) → Option R189 := fun s k => st189_5 cf97 cf147 cf74 cf146 F0 s k (fun s' => match s' with | ((t2, _), (t3_0, t3_1, t3_2, _), (t4, _), (t6_0, t6_1, t6_2, _), (t7_0, t7_1, t7_2, _), (t8, _), (t9, _), _) => (bif (!t8) then (bif (growOk (List.length t7_2) (List.length ((t4, (t2, ())) :: []))) then (some ((t7_0, (t7_1, ((t7_2 ++ ((t4, (t2, ())) :: [])), ()))), ())) else none) else (some ((t7_0, (t7_1, (t7_2, ()))), ()))))
theorem run98 {p v c : Int} {e : ex.den} {z : poly.den} {F0 : Nat} (he : okX e) : ∀ (r pre out : List term.den) (done : Bool) (F : Nat), r.length < F → (pre ++ r).length ≤ 1000000 → out.length + 2 * r.length ≤ 10000000 → (∀ t ∈ r, okX t.1) →
    iter (S98 F0) F
      ((c, ()), ((p, v, pre ++ r, ()), ((e, ()), ((z.1, z.2.1, z.2.2.1, ()), ((p, v, out, ()), ((done, ()), (((pre.length : Int), ()), ()))))))) = some ((p, v, out ++ goP e c done r, ()), ())
  | [], pre, out, done, F, hF, hl, ho, hk => by
    obtain ⟨F, rfl⟩ : ∃ f, F = f + 1 := ⟨F - 1, by simp at hF; omega⟩
    rw [List.append_nil] at hl ⊢
    have hg : growOk out.length 1 = true := grow_t (by simp at ho; omega)
    simp only [iter, S98, st189_5]
    simp (disch := omega) only [dln_t, cond_true, ofn, dlt_f, cond_false]
    cases done with
    | false => simp only [Bool.not_false, cond_true, goP, cond_false, List.length_cons, List.length_nil, Nat.zero_add, hg]
    | true => simp only [Bool.not_true, cond_false, goP, cond_true, List.append_nil]
  | t :: r, pre, out, done, F, hF, hl, ho, hk => by
    obtain ⟨F, rfl⟩ : ∃ f, F = f + 1 := ⟨F - 1, by simp at hF; omega⟩
    have hpl : pre.length < (pre ++ t :: r).length := by simp
    have ho' : out.length + 2 * r.length + 2 ≤ 10000000 := by simp at ho; omega
    have hg1 : growOk out.length 1 = true := grow_t (by omega)
    have hg2 : growOk (out.length + 1) 1 = true := grow_t (by omega)
    have g : cf147 (e, t.1, ()) = some (decide (keyX e < keyX t.1), ()) := if_pos ⟨he, hk t (.head _)⟩
    have wi : w6 ((pre.length : Int) + 1) = ((pre ++ [t]).length : Int) := by rw [w6_i (by omega) (by omega)]; simp
    have ih := fun out done h => run98 (p := p) (v := v) (c := c) (z := z) (F0 := F0) he r (pre ++ [t]) out done F (by simp at hF; omega) (by simpa using hl) h (fun s hs => hk s (.tail _ hs))
    rw [show (pre ++ [t]) ++ r = pre ++ t :: r by simp, ← wi] at ih
    have q1 : (t.1 = e → Ty.eqd (.arr 3 (.int .u8)) t.1 e = true) ∧ (t.1 ≠ e → Ty.eqd (.arr 3 (.int .u8)) t.1 e = false) := ⟨fun q => (eqd_key keyT_ex).2 q, fun q => Bool.eq_false_iff.2 fun z => q ((eqd_key keyT_ex).1 z)⟩
    show S98 F0 _ (iter (S98 F0) F) = _
    generalize iter (S98 F0) F = K at ih ⊢
    simp only [S98, st189_5]
    simp (disch := omega) only [dln_t, cond_true, ofn, dlt_t, ib_t, tn_cast, getD_pre, g, List.length_cons, List.length_nil, List.length_append, Nat.zero_add, hg1, hg2]
    cases done with
    | true =>
      by_cases q : t.1 = e
      · simp only [Bool.not_true, cond_false, q1.1 q]
        rw [ih out true (by omega)]
        simp [goP, q]
      · simp only [Bool.not_true, cond_false, q1.2 q, Bool.not_false, cond_true]
        rw [show ((t.1, t.2.1, ()) : term.den) = t from rfl, ih (out ++ [t]) true (by simp; omega)]
        simp [goP, q]
    | false =>
      by_cases kq : keyX e < keyX t.1
      · have hne : t.1 ≠ e := key_neq kq
        simp only [Bool.not_false, cond_true, decide_eq_true kq, q1.2 hne]
        rw [show ((t.1, t.2.1, ()) : term.den) = t from rfl, ih (out ++ [(e, c, ())] ++ [t]) true (by simp; omega)]
        have : decide (keyX e < keyT3 t) = true := decide_eq_true kq
        simp [goP, hne, this]
      · by_cases q : t.1 = e
        · simp only [Bool.not_false, cond_true, decide_eq_false kq, cond_false, q1.1 q, Bool.not_true]
          rw [ih out false (by omega)]
          have : decide (keyX e < keyT3 t) = false := decide_eq_false kq
          simp [goP, q, this]
        · simp only [Bool.not_false, cond_true, decide_eq_false kq, cond_false, q1.2 q]
          rw [show ((t.1, t.2.1, ()) : term.den) = t from rfl, ih (out ++ [t]) false (by simp; omega)]
          have : decide (keyX e < keyT3 t) = false := decide_eq_false kq
          simp [goP, q, this]
noncomputable def c98 (p v : Int) (ts : List term.den) (e : ex.den) (x : Int) : Option (poly.den × Unit) := by
  classical exact if 0 < p ∧ p ≤ 1000000 ∧ CanT p ts ∧ okX e ∧ -1000000000000 ≤ x ∧ x ≤ 1000000000000 ∧ ts.length ≤ 1000000 then some ((p, v, putP p ts e x, ()), ()) else none
noncomputable def cf98 : G189 := fun x => c98 x.1.1 x.1.2.1 x.1.2.2.1 x.2.1 x.2.2.1
theorem coT_rng {p : Int} {ts : List term.den} {e : ex.den} (hp : 0 < p) (h : CanT p ts) : 0 ≤ coT ts e ∧ coT ts e < p := by
  by_cases q : ∃ t ∈ ts, t.1 = e
  · obtain ⟨t, ht, rfl⟩ := q
    rw [coT_mem h ht]
    have := (h.ok t ht).2
    exact ⟨Int.le_of_lt this.1, this.2⟩
  · rw [coT_none fun t ht z => q ⟨t, ht, z⟩]; exact ⟨Int.le_refl _, hp⟩
theorem k98 : KOne Tryz.prog 189 ⟨[.v poly, .v ex, .v i64], [poly], true, false, 0, cf98⟩ := ok189 _ _ _ _ (.cons k97 (.cons k147 (.cons k74 (.cons k146 .nil)))) cf98 fun x y h => by
  obtain ⟨⟨p, v, ts, _⟩, e, x, _⟩ := x
  simp only [cf98, c98] at h
  split at h
  · rename_i hc
    injection h with h; subst h
    obtain ⟨h1, h2, h3, h4, h5, h6, h7⟩ := hc
    have hr := coT_rng (e := e) h1 h3
    refine ⟨ts.length + 1, ?_⟩
    have g1 : cf146 ((p, v, ts, ()), e, ()) = some (coT ts e, ()) := if_pos h7
    have g2 : cf74 (p, w6 (x + coT ts e), ()) = some ((x + coT ts e) % p, ()) := by rw [w6_i (by omega) (by omega)]; exact g74_ok (by omega)
    simp only [fn189, g1, g2]
    exact run98 (F0 := ts.length + 1) h4 ts [] [] _ (ts.length + 1) (by omega) (by simpa using h7) (by simp; omega) (fun t ht => (h3.ok t ht).1)
  · cases h
theorem goP_len {e : ex.den} {c : Int} : ∀ (ts : List term.den) (d : Bool), (goP e c d ts).length ≤ ts.length + (bif d then 0 else 1)
  | [], d => by cases d <;> simp [goP]
  | t :: r, d => by
    have ih := goP_len (e := e) (c := c) r (d || decide (keyX e < keyT3 t))
    have h1 : (if t.1 = e then ([] : List term.den) else [t]).length ≤ 1 := by split <;> simp
    simp only [goP, List.length_append, List.length_cons]
    cases d with
    | true => simp only [Bool.true_or, cond_true, Bool.not_true, Bool.false_and, cond_false, List.length_nil] at ih ⊢; omega
    | false =>
      cases hq : decide (keyX e < keyT3 t) with
      | true => simp only [hq, Bool.false_or, cond_true, Bool.not_false, Bool.true_and, cond_false, List.length_cons, List.length_nil] at ih ⊢; omega
      | false => simp only [hq, Bool.false_or, Bool.not_false, Bool.true_and, cond_false, List.length_nil] at ih ⊢; omega
theorem putP_len {p : Int} {ts : List term.den} {e : ex.den} {x : Int} : (putP p ts e x).length ≤ ts.length + 1 := by
  have := goP_len (e := e) (c := (x + coT ts e) % p) ts (decide ((x + coT ts e) % p = 0))
  unfold putP
  cases h : decide ((x + coT ts e) % p = 0) <;> rw [h] at this <;> simp at this <;> omega
theorem g98_ok {p v : Int} {ts : List term.den} {e : ex.den} {x : Int} (h : 0 < p ∧ p ≤ 1000000 ∧ CanT p ts ∧ okX e ∧ -1000000000000 ≤ x ∧ x ≤ 1000000000000 ∧ ts.length ≤ 1000000) : cf98 ((p, v, ts, ()), e, x, ()) = some ((p, v, putP p ts e x, ()), ()) := if_pos h
abbrev R175 : Type := Ress [poly]
abbrev G175 : Type := Args [.v i64, .v i64, .v ex, .v i64] → Option R175
abbrev kp175 : List (Nat × List Nat) := [(0, [6, 3, 0, 1, 8]), (1, [8])]
abbrev ct175 (g199 : G199) : CTab := [(199, ⟨[.m ex i64, .v i64, .v i64], [poly], true, false, 0, g199⟩)]
def fn175 (g199 : G199) (F : Nat) (x : Args [.v i64, .v i64, .v ex, .v i64]) : Option R175 :=
  match x with
  | (x0, x1, x2, x3, _) => (match (g199 (((x2, x3) :: []), (x0, (x1, ())))) with | some r7 => (some ((r7.1.1, (r7.1.2.1, (r7.1.2.2.1, ()))), ())) | none => none)
theorem ev175 (g199 : G199) (F : Nat) (x : Args [.v i64, .v i64, .v ex, .v i64]) : fnK TT (ct175 g199 ) kp175 [poly] [] (bodyOf Tryz.f175) [.cell 8 34] [.v i64, .v i64, .v ex, .v i64] true false x = fn175 g199 F x := by
  obtain ⟨x0, x1, x2, x3, _⟩ := x
  kernel_rfl
theorem ok175 (g199 : G199) (hK : KOK Tryz.prog (ct175 g199 )) (cf : G175) (h : ∀ x y, cf x = some y → ∃ F, fn175 g199 F x = some y) : KOne Tryz.prog 175 ⟨[.v i64, .v i64, .v ex, .v i64], [poly], true, false, 0, cf⟩ :=
  fn_one rfl (c := bodyOf Tryz.f175) mixed tt_ok hK Tryz.func175 (by kernel_rfl) (by kernel_rfl) (Nat.le_of_ble_eq_true (by kernel_rfl)) (by decide) fun x y hxy => by
    obtain ⟨F, hF⟩ := h x y hxy
    exact ⟨[], LTOK_by (l := []) (by kernel_rfl) trivial, (ev175 g199 F x).trans hF⟩
abbrev R127 : Type := Ress [poly]
abbrev G127 : Type := Args [.v poly, .v poly] → Option R127
abbrev kp127 : List (Nat × List Nat) := [(0, [2, 3, 4]), (1, [5, 2, 3, 4]), (2, [15, 5, 2, 3, 13, 4, 14]), (3, [16, 2, 5, 15, 3, 13, 4, 14]), (4, [2, 7, 5, 15, 3, 13, 4, 14]), (5, [22, 2, 7, 5, 20, 15, 3, 13, 4, 14, 21]), (6, [23, 22, 2, 7, 5, 20, 15, 3, 13, 4, 14, 21]), (7, [9, 22, 2, 7, 5, 20, 15, 3, 13, 4, 14, 21]), (8, [10, 9, 22, 2, 7, 5, 20, 15, 3, 13, 4, 14, 21]), (9, [22, 2, 7, 5, 20, 15, 3, 13, 4, 14, 21]), (10, [22, 2, 7, 5, 20, 15, 3, 13, 4, 14, 21]), (11, [15, 5, 2, 3, 13, 4, 14]), (12, [4])]
abbrev ct127 (g199 : G199) : CTab := [(199, ⟨[.m ex i64, .v i64, .v i64], [poly], true, false, 0, g199⟩)]
abbrev kr127 : Env → Option R127 := endK TT [.cell 4 34] [poly] true false
abbrev sh127_6 : Shape := [(2, .box false [.fz i64 0 false, .fz i64 0 false, .fz (.slice 135 term) 0 true]), (3, .box false [.fz i64 0 false, .fz i64 0 false, .fz (.slice 135 term) 0 true]), (4, .box false [.fz i64 0 false, .fz i64 0 false, .rt 135 term 67 false true true]), (5, .mp 11 ex i64), (7, .box false [.fz ex 0 false, .fz i64 0 false]), (13, .val false [.fz (.slice 135 term) 0 true]), (14, vv i64), (15, vv i64), (20, .val false [.fz (.slice 135 term) 0 true]), (21, vv i64), (22, vv i64)]
def st127_6 (g199 : G199) (F : Nat) (s : ShVal sh127_6) (k kx : ShVal sh127_6 → Option R127) : Option R127 :=
  match s with
  | ((t2_0, t2_1, t2_2, _), (t3_0, t3_1, t3_2, _), (t4_0, t4_1, t4_2, _), t5, (t7_0, t7_1, _), (t13, _), (t14, _), (t15, _), (t20, _), (t21, _), (t22, _), _) => (bif decide (t22 < t21) then (bif ib t22 (Int.ofNat (List.length t20)) then (bif (!decide (t2_0 = (0 : Int))) then k ((t2_0, (t2_1, (t2_2, ()))), ((t3_0, (t3_1, (t3_2, ()))), ((t4_0, (t4_1, (t4_2, ()))), ((((tset (w8 ((tget (0 : Int) 3 t7_0 (tn (2 : Int))) + (tget (0 : Int) 3 (List.getD t20 (tn t22) (Ty.dflt (.pair (.arr 3 (.int .u8)) (.pair (.int .i64) .unit)))).1 (tn (2 : Int))))) 3 (tset (w8 ((tget (0 : Int) 3 t7_0 (tn (1 : Int))) + (tget (0 : Int) 3 (List.getD t20 (tn t22) (Ty.dflt (.pair (.arr 3 (.int .u8)) (.pair (.int .i64) .unit)))).1 (tn (1 : Int))))) 3 (tset (w8 ((tget (0 : Int) 3 t7_0 (tn (0 : Int))) + (tget (0 : Int) 3 (List.getD t20 (tn t22) (Ty.dflt (.pair (.arr 3 (.int .u8)) (.pair (.int .i64) .unit)))).1 (tn (0 : Int))))) 3 (tup Int (0 : Int) 3) 0) 1) 2), (Int.tmod (w6 ((mget (.arr 3 (.int .u8)) (.int .i64) t5 (tset (w8 ((tget (0 : Int) 3 t7_0 (tn (2 : Int))) + (tget (0 : Int) 3 (List.getD t20 (tn t22) (Ty.dflt (.pair (.arr 3 (.int .u8)) (.pair (.int .i64) .unit)))).1 (tn (2 : Int))))) 3 (tset (w8 ((tget (0 : Int) 3 t7_0 (tn (1 : Int))) + (tget (0 : Int) 3 (List.getD t20 (tn t22) (Ty.dflt (.pair (.arr 3 (.int .u8)) (.pair (.int .i64) .unit)))).1 (tn (1 : Int))))) 3 (tset (w8 ((tget (0 : Int) 3 t7_0 (tn (0 : Int))) + (tget (0 : Int) 3 (List.getD t20 (tn t22) (Ty.dflt (.pair (.arr 3 (.int .u8)) (.pair (.int .i64) .unit)))).1 (tn (0 : Int))))) 3 (tup Int (0 : Int) 3) 0) 1) 2)) + (w6 (t7_1 * (List.getD t20 (tn t22) (Ty.dflt (.pair (.arr 3 (.int .u8)) (.pair (.int .i64) .unit)))).2.1)))) t2_0)) :: t5), ((t7_0, (t7_1, ())), ((t13, ()), ((t14, ()), ((t15, ()), ((t20, ()), ((t21, ()), (((w6 (t22 + (1 : Int))), ()), ()))))))))))) else none) else none) else kx ((t2_0, (t2_1, (t2_2, ()))), ((t3_0, (t3_1, (t3_2, ()))), ((t4_0, (t4_1, (t4_2, ()))), (t5, ((t7_0, (t7_1, ())), ((t13, ()), ((t14, ()), ((t15, ()), ((t20, ()), ((t21, ()), ((t22, ()), ()))))))))))))
def ru127_6 (g199 : G199) (F : Nat) (s : ShVal sh127_6) (kx : ShVal sh127_6 → Option R127) : Option R127 := iter (fun s k => st127_6 g199 F s k kx) F s
abbrev ls127_6 (g199 : G199) (F : Nat) : LS R127 := ⟨sh127_6, 2, ru127_6 g199 F⟩
abbrev sh127_3 : Shape := [(2, .box false [.fz i64 0 false, .fz i64 0 false, .fz (.slice 135 term) 0 true]), (3, .box false [.fz i64 0 false, .fz i64 0 false, .fz (.slice 135 term) 0 true]), (4, .box false [.fz i64 0 false, .fz i64 0 false, .rt 135 term 67 false true true]), (5, .mp 11 ex i64), (13, .val false [.fz (.slice 135 term) 0 true]), (14, vv i64), (15, vv i64)]
def st127_3 (g199 : G199) (F : Nat) (s : ShVal sh127_3) (k kx : ShVal sh127_3 → Option R127) : Option R127 :=
  match s with
  | ((t2_0, t2_1, t2_2, _), (t3_0, t3_1, t3_2, _), (t4_0, t4_1, t4_2, _), t5, (t13, _), (t14, _), (t15, _), _) => (bif decide (t15 < t14) then (bif ib t15 (Int.ofNat (List.length t13)) then (bif decide ((List.length t3_2) ≤ 9223372036854775807) then (ru127_6 g199 F ((t2_0, (t2_1, (t2_2, ()))), ((t3_0, (t3_1, (t3_2, ()))), ((t4_0, (t4_1, (t4_2, ()))), (t5, (((List.getD t13 (tn t15) (Ty.dflt (.pair (.arr 3 (.int .u8)) (.pair (.int .i64) .unit)))).1, ((List.getD t13 (tn t15) (Ty.dflt (.pair (.arr 3 (.int .u8)) (.pair (.int .i64) .unit)))).2.1, ())), ((t13, ()), ((t14, ()), ((t15, ()), ((t3_2, ()), (((Int.ofNat (List.length t3_2)), ()), (((0 : Int), ()), ()))))))))))) (fun s' => match s' with | ((t2_0, t2_1, t2_2, _), (t3_0, t3_1, t3_2, _), (t4_0, t4_1, t4_2, _), t5, (t7_0, t7_1, _), (t13, _), (t14, _), (t15, _), (t20, _), (t21, _), (t22, _), _) => k ((t2_0, (t2_1, (t2_2, ()))), ((t3_0, (t3_1, (t3_2, ()))), ((t4_0, (t4_1, (t4_2, ()))), (t5, ((t13, ()), ((t14, ()), (((w6 (t15 + (1 : Int))), ()), ()))))))))) else none) else none) else kx ((t2_0, (t2_1, (t2_2, ()))), ((t3_0, (t3_1, (t3_2, ()))), ((t4_0, (t4_1, (t4_2, ()))), (t5, ((t13, ()), ((t14, ()), ((t15, ()), ()))))))))
def ru127_3 (g199 : G199) (F : Nat) (s : ShVal sh127_3) (kx : ShVal sh127_3 → Option R127) : Option R127 := iter (fun s k => st127_3 g199 F s k kx) F s
abbrev ls127_3 (g199 : G199) (F : Nat) : LS R127 := ⟨sh127_3, 0, ru127_3 g199 F⟩
def fn127 (g199 : G199) (F : Nat) (x : Args [.v poly, .v poly]) : Option R127 :=
  match x with
  | (x0, x1, _) => (bif decide ((List.length x0.2.2.1) ≤ 9223372036854775807) then (ru127_3 g199 F ((x0.1, (x0.2.1, (x0.2.2.1, ()))), ((x1.1, (x1.2.1, (x1.2.2.1, ()))), (((Ty.dflt (.pair (.int .i64) (.pair (.int .i64) (.pair (.slice 135 (.pair (.arr 3 (.int .u8)) (.pair (.int .i64) .unit))) .unit)))).1, ((Ty.dflt (.pair (.int .i64) (.pair (.int .i64) (.pair (.slice 135 (.pair (.arr 3 (.int .u8)) (.pair (.int .i64) .unit))) .unit)))).2.1, ((Ty.dflt (.pair (.int .i64) (.pair (.int .i64) (.pair (.slice 135 (.pair (.arr 3 (.int .u8)) (.pair (.int .i64) .unit))) .unit)))).2.2.1, ()))), ([], ((x0.2.2.1, ()), (((Int.ofNat (List.length x0.2.2.1)), ()), (((0 : Int), ()), ()))))))) (fun s' => match s' with | ((t2_0, t2_1, t2_2, _), (t3_0, t3_1, t3_2, _), (t4_0, t4_1, t4_2, _), t5, (t13, _), (t14, _), (t15, _), _) => (match (g199 (t5, (t2_0, (t2_1, ())))) with | some r20 => (some ((r20.1.1, (r20.1.2.1, (r20.1.2.2.1, ()))), ())) | none => none))) else none)
theorem ev127_6 (g199 : G199) (F : Nat) (s : ShVal sh127_6) (k kx : ShVal sh127_6 → Option R127) : evL TT (ct127 g199 ) kp127 [] (loopOf Tryz.f127 6) (envOf sh127_6 s) (fitK sh127_6 k) (fun j e => bif Nat.beq j 2 then fitK sh127_6 kx e else none) kr127 = st127_6 g199 F s k kx := by
  obtain ⟨⟨t2_0, t2_1, t2_2, _⟩, ⟨t3_0, t3_1, t3_2, _⟩, ⟨t4_0, t4_1, t4_2, _⟩, t5, ⟨t7_0, t7_1, _⟩, ⟨t13, _⟩, ⟨t14, _⟩, ⟨t15, _⟩, ⟨t20, _⟩, ⟨t21, _⟩, ⟨t22, _⟩, _⟩ := s
  kernel_rfl
theorem ok127_6 (g199 : G199) (F : Nat) (hK : KOK Tryz.prog (ct127 g199 )) : LSOK Tryz.prog ⟨70, false, undef⟩ (ls127_6 g199 F) (loopOf Tryz.f127 6) kr127 :=
  loop_ok (st127_6 g199 F) mixed tt_ok hK (by kernel_rfl) (LTOK_by (l := []) (by kernel_rfl) trivial) (ev127_6 g199 F)
theorem ev127_3 (g199 : G199) (F : Nat) (s : ShVal sh127_3) (k kx : ShVal sh127_3 → Option R127) : evL TT (ct127 g199 ) kp127 [(6, ls127_6 g199 F)] (loopOf Tryz.f127 3) (envOf sh127_3 s) (fitK sh127_3 k) (fun j e => bif Nat.beq j 0 then fitK sh127_3 kx e else none) kr127 = st127_3 g199 F s k kx := by
  obtain ⟨⟨t2_0, t2_1, t2_2, _⟩, ⟨t3_0, t3_1, t3_2, _⟩, ⟨t4_0, t4_1, t4_2, _⟩, t5, ⟨t13, _⟩, ⟨t14, _⟩, ⟨t15, _⟩, _⟩ := s
  kernel_rfl
theorem ok127_3 (g199 : G199) (F : Nat) (hK : KOK Tryz.prog (ct127 g199 )) : LSOK Tryz.prog ⟨70, false, undef⟩ (ls127_3 g199 F) (loopOf Tryz.f127 3) kr127 :=
  loop_ok (st127_3 g199 F) mixed tt_ok hK (by kernel_rfl) (LTOK_by (l := [loopOf Tryz.f127 6]) (by kernel_rfl) ⟨ls_at (by kernel_rfl) (ok127_6 g199 F hK), trivial⟩) (ev127_3 g199 F)
theorem ev127 (g199 : G199) (F : Nat) (x : Args [.v poly, .v poly]) : fnK TT (ct127 g199 ) kp127 [poly] [(3, ls127_3 g199 F)] (bodyOf Tryz.f127) [.cell 4 34] [.v poly, .v poly] true false x = fn127 g199 F x := by
  obtain ⟨x0, x1, _⟩ := x
  kernel_rfl
theorem ok127 (g199 : G199) (hK : KOK Tryz.prog (ct127 g199 )) (cf : G127) (h : ∀ x y, cf x = some y → ∃ F, fn127 g199 F x = some y) : KOne Tryz.prog 127 ⟨[.v poly, .v poly], [poly], true, false, 0, cf⟩ :=
  fn_one rfl (c := bodyOf Tryz.f127) mixed tt_ok hK Tryz.func127 (by kernel_rfl) (by kernel_rfl) (Nat.le_of_ble_eq_true (by kernel_rfl)) (by decide) fun x y hxy => by
    obtain ⟨F, hF⟩ := h x y hxy
    exact ⟨[(3, ls127_3 g199 F)], LTOK_by (l := [loopOf Tryz.f127 3]) (by kernel_rfl) ⟨ls_at (by kernel_rfl) (ok127_3 g199 F hK), trivial⟩, (ev127 g199 F x).trans hF⟩
abbrev R95 : Type := Ress [i64]
abbrev G95 : Type := Args [.v poly] → Option R95
abbrev kp95 : List (Nat × List Nat) := [(0, [1]), (1, [6, 1]), (2, [2]), (3, [2])]
abbrev ct95 (g167 : G167) : CTab := [(167, ⟨[.v ex], [i64], false, false, 0, g167⟩)]
def fn95 (g167 : G167) (F : Nat) (x : Args [.v poly]) : Option R95 :=
  match x with
  | (x0, _) => (bif decide ((List.length x0.2.2.1) ≤ 9223372036854775807) then (bif decide ((Int.ofNat (List.length x0.2.2.1)) = (0 : Int)) then (some ((-(1 : Int)), ())) else (bif decide ((List.length x0.2.2.1) ≤ 9223372036854775807) then (bif ib (w6 ((Int.ofNat (List.length x0.2.2.1)) - (1 : Int))) (Int.ofNat (List.length x0.2.2.1)) then (match (g167 ((List.getD x0.2.2.1 (tn (w6 ((Int.ofNat (List.length x0.2.2.1)) - (1 : Int)))) (Ty.dflt (.pair (.arr 3 (.int .u8)) (.pair (.int .i64) .unit)))).1, ())) with | some r5 => (some (r5.1, ())) | none => none) else none) else none)) else none)
theorem ev95 (g167 : G167) (F : Nat) (x : Args [.v poly]) : fnK TT (ct95 g167 ) kp95 [i64] [] (bodyOf Tryz.f95) [.tmp 2] [.v poly] false false x = fn95 g167 F x := by
  obtain ⟨x0, _⟩ := x
  kernel_rfl
theorem ok95 (g167 : G167) (hK : KOK Tryz.prog (ct95 g167 )) (cf : G95) (h : ∀ x y, cf x = some y → ∃ F, fn95 g167 F x = some y) : KOne Tryz.prog 95 ⟨[.v poly], [i64], false, false, 0, cf⟩ :=
  fn_one rfl (c := bodyOf Tryz.f95) mixed tt_ok hK Tryz.func95 (by kernel_rfl) (by kernel_rfl) (Nat.le_of_ble_eq_true (by kernel_rfl)) (by decide) fun x y hxy => by
    obtain ⟨F, hF⟩ := h x y hxy
    exact ⟨[], LTOK_by (l := []) (by kernel_rfl) trivial, (ev95 g167 F x).trans hF⟩
def nT (t : term.den) : Int := t.2.1
abbrev Lg : Type := List (ex.den × i64.den)
def mgI (m : Lg) (e : ex.den) : Int := mget ex i64 m e
theorem mgI_cons {x : ex.den} {y : Int} {m : Lg} {e : ex.den} : mgI ((x, y) :: m) e = if x = e then y else mgI m e := by
  unfold mgI
  by_cases h : x = e
  · subst h; rw [if_pos rfl]; exact mget_hit keyT_ex
  · rw [if_neg h]; exact mget_miss keyT_ex h
theorem lkeys_cons {x : ex.den} {y : Int} {m : Lg} : (∀ q ∈ lkeys ((x, y) :: m), q = x ∨ q ∈ lkeys m) ∧ (lkeys ((x, y) :: m)).length ≤ (lkeys m).length + 1 := by
  refine ⟨fun q hq => ?_, ?_⟩
  · obtain ⟨z, hz, rfl⟩ := lkeys_mem.1 hq
    rcases List.mem_cons.1 hz with rfl | hz
    · exact .inl rfl
    · exact .inr (lkeys_mem.2 ⟨z, hz, rfl⟩)
  · simp only [lkeys]
    cases (lkeys m).any (fun k => ex.eqd x k) <;> simp
def lsum {α : Type} (f : α → Int) : List α → Int
  | [] => 0
  | x :: r => f x + lsum f r
theorem lsum_perm {α : Type} {f : α → Int} {a b : List α} (h : a.Perm b) : lsum f a = lsum f b := by
  induction h with
  | nil => rfl
  | cons x _ ih => simp only [lsum, ih]
  | swap x y l => simp only [lsum]; omega
  | trans _ _ ih1 ih2 => exact ih1.trans ih2
theorem lsum_congr {α : Type} {f g : α → Int} : ∀ {l : List α}, (∀ x ∈ l, f x = g x) → lsum f l = lsum g l
  | [], _ => rfl
  | x :: r, h => by simp only [lsum]; rw [h x (.head _), lsum_congr fun y hy => h y (.tail _ hy)]
section
variable {p : Int} {m : Nat}
theorem rest_el (hp : 0 < p) : ∀ {out : List (List Int)} {r : List Int}, (∀ o ∈ out, Can p m o) → (out.Pairwise fun a b => el a (ld b) = 0 ∧ el b (ld a) = 0) → Can p m r → ∀ i, el (rest p out r) i = (el r i - lsum (fun o => el r (ld o) * el o i) out) % p
  | [], r, _, _, hr, i => by simp only [rest, lsum, Int.sub_zero]; exact (hr.mod i).symm
  | o :: os, r, hc, hz, hr, i => by
    have ho := hc o (.head _)
    have hz' := List.pairwise_cons.1 hz
    simp only [rest, lsum]
    rw [rest_el hp (fun x hx => hc x (.tail _ hx)) hz'.2 (Can.subm hp hr.len ho.len) i]
    have e : lsum (fun x => el (subm p (el r (ld o)) r o) (ld x) * el x i) os = lsum (fun x => el r (ld x) * el x i) os := by
      refine lsum_congr fun x hx => ?_
      rw [el_subm (by rw [hr.len, ho.len]), (hz'.1 x hx).1, Int.mul_zero, Int.sub_zero, hr.mod]
    rw [e, el_subm (by rw [hr.len, ho.len]), Int.emod_sub_emod]
    congr 1; omega
theorem RR.apart {out : List (List Int)} (rr : RR p m out) : out.Pairwise fun a b => el a (ld b) = 0 ∧ el b (ld a) = 0 :=
  rr.ord.imp fun h => ⟨h.2, ld_zero _ _ h.1⟩
theorem apart_perm {a b : List (List Int)} (h : a.Perm b) (rr : RR p m b) : a.Pairwise fun a b => el a (ld b) = 0 ∧ el b (ld a) = 0 :=
  (h.pairwise_iff (R := fun a b : List Int => el a (ld b) = 0 ∧ el b (ld a) = 0) (fun h => ⟨h.2, h.1⟩)).2 rr.apart
theorem rest_perm (hp : 0 < p) {a b : List (List Int)} {r : List Int} (h : a.Perm b) (rr : RR p m b) (hr : Can p m r) : rest p a r = rest p b r := by
  have ca : ∀ o ∈ a, Can p m o := fun o ho => rr.can o (h.mem_iff.1 ho)
  refine row_ext (by rw [(rest_can hp ca hr).len, (rest_can hp rr.can hr).len]) fun i => ?_
  rw [rest_el hp ca (apart_perm h rr) hr, rest_el hp rr.can rr.apart hr, lsum_perm h]
theorem ins_perm {own : List Int} {at_ : Nat} : ∀ {b : List (List Int)}, (ins p own at_ b).Perm (b.map (red p own at_) ++ [own])
  | [] => .refl _
  | o :: os => by
    simp only [ins]
    split
    · exact (List.perm_append_comm (l₁ := [own]) (l₂ := (o :: os).map (red p own at_)))
    · simp only [List.map_cons, List.cons_append]
      exact (ins_perm (b := os)).cons _
def takeL (p : Int) (out : List (List Int)) (r : List Int) : List (List Int) :=
  if ld (rest p out r) = (rest p out r).length then out else out.map (red p (scl p (inv p (el (rest p out r) (ld (rest p out r)))) (rest p out r)) (ld (rest p out r))) ++ [scl p (inv p (el (rest p out r) (ld (rest p out r)))) (rest p out r)]
theorem take_perm (hp : 0 < p) {a b : List (List Int)} {r : List Int} (h : a.Perm b) (rr : RR p m b) (hr : Can p m r) : (takeL p a r).Perm (stepR p b r) := by
  unfold takeL stepR
  rw [rest_perm hp h rr hr]
  split
  · exact h
  · exact ((h.map _).append_right _).trans ins_perm.symm
theorem takeL_len {out : List (List Int)} {r : List Int} : (takeL p out r).length ≤ out.length + 1 := by
  unfold takeL; split
  · omega
  · simp
end
theorem lsum_zero {α : Type} {f : α → Int} : ∀ {l : List α}, (∀ x ∈ l, f x = 0) → lsum f l = 0
  | [], _ => rfl
  | x :: r, h => by simp only [lsum]; rw [h x (.head _), lsum_zero fun y hy => h y (.tail _ hy)]; rfl
section
variable {p : Int} {m : Nat}
theorem RR.inj {out : List (List Int)} (rr : RR p m out) : out.Pairwise fun a b => ld a < ld b := rr.ord.imp fun h => h.1
theorem RR.off {out : List (List Int)} (rr : RR p m out) {a b : List Int} (ha : a ∈ out) (hb : b ∈ out) (h : a ≠ b) : ld a ≠ ld b ∧ el a (ld b) = 0 := by
  have hh : ∀ {l : List (List Int)}, (l.Pairwise fun a b => ld a < ld b ∧ el a (ld b) = 0) → a ∈ l → b ∈ l → ld a ≠ ld b ∧ el a (ld b) = 0 := by
    intro l
    induction l with
    | nil => intro _ h; cases h
    | cons x l ih =>
      intro hp ha hb
      have hp' := List.pairwise_cons.1 hp
      rcases List.mem_cons.1 ha with e | ha' <;> rcases List.mem_cons.1 hb with e' | hb'
      · exact absurd (e.trans e'.symm) h
      · subst e; exact ⟨Nat.ne_of_lt (hp'.1 b hb').1, (hp'.1 b hb').2⟩
      · subst e'; exact ⟨Nat.ne_of_gt (hp'.1 a ha').1, ld_zero a _ (hp'.1 a ha').1⟩
      · exact ih hp'.2 ha' hb'
  exact hh rr.ord ha hb
end
abbrev x0 (e : ex.den) : Int := e.1
abbrev x1 (e : ex.den) : Int := e.2.1
abbrev x2 (e : ex.den) : Int := e.2.2.1
def addX (a b : ex.den) : ex.den := (x0 a + x0 b, x1 a + x1 b, x2 a + x2 b, ())
theorem degX_add {a b : ex.den} : degX (addX a b) = degX a + degX b := by
  show (x0 a + x0 b) + (x1 a + x1 b) + (x2 a + x2 b) = (x0 a + x1 a + x2 a) + (x0 b + x1 b + x2 b)
  omega
theorem okX_rng {a : ex.den} (h : okX a) : (0 ≤ x0 a ∧ x0 a ≤ 255) ∧ (0 ≤ x1 a ∧ x1 a ≤ 255) ∧ (0 ≤ x2 a ∧ x2 a ≤ 255) := h
theorem degX_eq (a : ex.den) : degX a = x0 a + x1 a + x2 a := rfl
theorem okX_add {a b : ex.den} (ha : okX a) (hb : okX b) (h1 : degX a ≤ 100) (h2 : degX b ≤ 100) : okX (addX a b) := by
  have ha := okX_rng ha
  have hb := okX_rng hb
  rw [degX_eq] at h1 h2
  show (0 ≤ x0 a + x0 b ∧ x0 a + x0 b ≤ 255) ∧ (0 ≤ x1 a + x1 b ∧ x1 a + x1 b ≤ 255) ∧ (0 ≤ x2 a + x2 b ∧ x2 a + x2 b ≤ 255)
  omega
theorem w8_i {x : Int} (h0 : 0 ≤ x) (h1 : x ≤ 255) : w8 x = x := by
  simp only [w8, IntKind.wrap, IntKind.bits, IntKind.signed]
  simp only [Bool.false_and, Bool.false_eq_true, if_false]
  omega
def DegLe (d : Int) (ts : List term.den) : Prop := ∀ t ∈ ts, degX t.1 ≤ d
theorem DegLe.mono {d e : Int} {ts : List term.den} (h : DegLe d ts) (hd : d ≤ e) : DegLe e ts := fun t ht => Int.le_trans (h t ht) hd
def degI (ts : List term.den) : Int := match ts.getLast? with | none => -1 | some t => degX t.1
theorem key_deg {a b : ex.den} (ha : okX a) (hb : okX b) (h : keyX a < keyX b) : degX a ≤ degX b := by
  have ha := okX_rng ha
  have hb := okX_rng hb
  unfold keyX key3 at h
  rw [degX_eq, degX_eq]
  have h : (x0 a + x1 a + x2 a) * 65536 + (255 - x0 a) * 256 + (255 - x1 a) < (x0 b + x1 b + x2 b) * 65536 + (255 - x0 b) * 256 + (255 - x1 b) := h
  omega
theorem can_deg {p : Int} {ts : List term.den} (h : CanT p ts) : DegLe (degI ts) ts := by
  intro t ht
  unfold degI
  cases hl : ts.getLast? with
  | none => rw [List.getLast?_eq_none_iff] at hl; subst hl; cases ht
  | some s =>
    obtain ⟨pre, rfl⟩ := List.getLast?_eq_some_iff.1 hl
    rcases List.mem_append.1 ht with h1 | h1
    · have := (List.pairwise_append.1 h.srt).2.2 t h1 s (by simp)
      exact key_deg (h.ok t ht).1 (h.ok s (by simp)).1 this
    · have : t = s := by simpa using h1
      subst this; exact Int.le_refl _
theorem degI_le {d : Int} {ts : List term.den} (h : DegLe d ts) (hd : -1 ≤ d) : degI ts ≤ d := by
  unfold degI
  cases hl : ts.getLast? with
  | none => exact hd
  | some s => exact h s (List.mem_of_getLast? hl)
theorem degX_nn {a : ex.den} (h : okX a) : 0 ≤ degX a := by
  have h := okX_rng h
  rw [degX_eq]; omega
theorem degI_rng {p d : Int} {ts : List term.den} (h : CanT p ts) (hd : DegLe d ts) (h0 : -1 ≤ d) : -1 ≤ degI ts ∧ degI ts ≤ d := by
  refine ⟨?_, degI_le hd h0⟩
  unfold degI
  cases hl : ts.getLast? with
  | none => exact Int.le_refl _
  | some s => have := degX_nn (h.ok s (List.mem_of_getLast? hl)).1; simp only; omega
theorem can_len {p d : Int} {ts : List term.den} (h : CanT p ts) (hd : DegLe d ts) (h1 : d ≤ 40) : ts.length ≤ 68921 := by
  have nd : (ts.map fun t => ((x0 t.1).toNat * 1681 + (x1 t.1).toNat * 41 + (x2 t.1).toNat)).Nodup := by
    refine List.pairwise_map.2 (List.Pairwise.imp_of_mem ?_ h.srt)
    intro a b ha hb hab e
    have oa := okX_rng (h.ok a ha).1
    have ob := okX_rng (h.ok b hb).1
    have da := hd a ha
    have db := hd b hb
    rw [degX_eq] at da db
    have e0 : x0 a.1 = x0 b.1 := by omega
    have e1 : x1 a.1 = x1 b.1 := by omega
    have e2 : x2 a.1 = x2 b.1 := by omega
    have hab : (x0 a.1 + x1 a.1 + x2 a.1) * 65536 + (255 - x0 a.1) * 256 + (255 - x1 a.1) < (x0 b.1 + x1 b.1 + x2 b.1) * 65536 + (255 - x0 b.1) * 256 + (255 - x1 b.1) := hab
    omega
  have := len_sub (R := List.range 68921) nd fun z hz => by
    obtain ⟨t, ht, rfl⟩ := List.mem_map.1 hz
    have ot := okX_rng (h.ok t ht).1
    have dt := hd t ht
    rw [degX_eq] at dt
    exact List.mem_range.2 (by omega)
  simpa using this
theorem coT_mem_ne {p : Int} : ∀ {ts : List term.den} {e : ex.den}, CanT p ts → coT ts e ≠ 0 → ∃ t ∈ ts, t.1 = e
  | [], e, _, h => absurd rfl h
  | t :: r, e, hc, h => by
    by_cases q : t.1 = e
    · exact ⟨t, .head _, q⟩
    · simp only [coT, if_neg q] at h
      obtain ⟨s, hs, e⟩ := coT_mem_ne hc.tail h
      exact ⟨s, .tail _ hs, e⟩
theorem mem_coT {p : Int} {ts : List term.den} {t : term.den} (h : CanT p ts) (ht : t ∈ ts) : coT ts t.1 ≠ 0 := by
  rw [coT_mem h ht]
  have := (h.ok t ht).2.1
  intro q
  have q : (show Int from t.2.1) = 0 := q
  have this : (0 : Int) < (show Int from t.2.1) := this
  omega
theorem degLe_of {p d : Int} {ts : List term.den} (h : CanT p ts) (hz : ∀ e, d < degX e → coT ts e = 0) : DegLe d ts := fun t ht => by
  rcases Int.lt_or_le d (degX t.1) with q | q
  · exact absurd (hz _ q) (mem_coT h ht)
  · exact q
theorem coT_deg {p d : Int} {ts : List term.den} (h : CanT p ts) (hd : DegLe d ts) {e : ex.den} (he : d < degX e) : coT ts e = 0 := by
  by_cases q : coT ts e = 0
  · exact q
  · obtain ⟨t, ht, rfl⟩ := coT_mem_ne h q
    have := hd t ht; omega
def mulN (a b : List term.den) (e : ex.den) : Int := lsum (fun t => lsum (fun s => if addX t.1 s.1 = e then nT t * nT s else 0) b) a
def rowP (p : Int) (t : term.den) (out b : List term.den) : List term.den := b.foldl (fun out s => putP p out (addX t.1 s.1) (nT t * nT s)) out
def timesP (p : Int) (a b : List term.den) : List term.den := a.foldl (fun out t => rowP p t out b) []
theorem rowP_can {p : Int} {t : term.den} (hp : 0 < p) (ht : okX t.1 ∧ degX t.1 ≤ 100) : ∀ {b out : List term.den}, CanT p out → (∀ s ∈ b, okX s.1 ∧ degX s.1 ≤ 100) →
    CanT p (rowP p t out b) ∧ ∀ e, coT (rowP p t out b) e = (coT out e + lsum (fun s => if addX t.1 s.1 = e then nT t * nT s else 0) b) % p
  | [], out, ho, _ => ⟨ho, fun e => by
      have := coT_rng (e := e) hp ho
      show coT out e = (coT out e + 0) % p
      rw [Int.add_zero, Int.emod_eq_of_lt this.1 this.2]⟩
  | s :: b, out, ho, hb => by
    have hs := hb s (.head _)
    obtain ⟨h1, h2⟩ := putP_can (x := nT t * nT s) hp ho (okX_add ht.1 hs.1 ht.2 hs.2)
    obtain ⟨i1, i2⟩ := rowP_can hp ht (b := b) h1 fun x hx => hb x (.tail _ hx)
    refine ⟨i1, fun e => ?_⟩
    show coT (rowP p t (putP p out (addX t.1 s.1) (nT t * nT s)) b) e = _
    rw [i2 e, h2 e]
    simp only [lsum]
    by_cases q : e = addX t.1 s.1
    · subst q; rw [if_pos rfl, if_pos rfl, Int.emod_add_emod]; congr 1; omega
    · rw [if_neg q, if_neg fun w => q w.symm]; congr 1; omega
theorem timesP_go {p : Int} (hp : 0 < p) {b : List term.den} (hb : ∀ s ∈ b, okX s.1 ∧ degX s.1 ≤ 100) : ∀ {a out : List term.den}, CanT p out → (∀ t ∈ a, okX t.1 ∧ degX t.1 ≤ 100) →
    CanT p (a.foldl (fun out t => rowP p t out b) out) ∧ ∀ e, coT (a.foldl (fun out t => rowP p t out b) out) e = (coT out e + mulN a b e) % p
  | [], out, ho, _ => ⟨ho, fun e => by
      have := coT_rng (e := e) hp ho
      show coT out e = (coT out e + 0) % p
      rw [Int.add_zero, Int.emod_eq_of_lt this.1 this.2]⟩
  | t :: a, out, ho, ha => by
    obtain ⟨h1, h2⟩ := rowP_can hp (ha t (.head _)) ho hb
    obtain ⟨i1, i2⟩ := timesP_go hp hb (a := a) h1 fun x hx => ha x (.tail _ hx)
    refine ⟨i1, fun e => ?_⟩
    show coT (a.foldl (fun out t => rowP p t out b) (rowP p t out b)) e = _
    rw [i2 e, h2 e, Int.emod_add_emod]
    simp only [mulN, lsum]
    congr 1; omega
theorem can_nil {p : Int} : CanT p [] := ⟨.nil, by simp⟩
theorem timesP_can {p : Int} (hp : 0 < p) {a b : List term.den} (ha : ∀ t ∈ a, okX t.1 ∧ degX t.1 ≤ 100) (hb : ∀ s ∈ b, okX s.1 ∧ degX s.1 ≤ 100) : CanT p (timesP p a b) ∧ ∀ e, coT (timesP p a b) e = mulN a b e % p := by
  obtain ⟨h1, h2⟩ := timesP_go hp hb (a := a) can_nil ha
  exact ⟨h1, fun e => by
    have := h2 e
    rw [show coT [] e = 0 from rfl, Int.zero_add] at this
    exact this⟩
theorem small {p d : Int} {a : List term.den} (ha : CanT p a) (hd : DegLe d a) (h : d ≤ 100) : ∀ t ∈ a, okX t.1 ∧ degX t.1 ≤ 100 := fun t ht => ⟨(ha.ok t ht).1, by have := hd t ht; omega⟩
theorem mulN_deg {d e : Int} {a b : List term.den} (ha : DegLe d a) (hb : DegLe e b) {x : ex.den} (hx : d + e < degX x) : mulN a b x = 0 :=
  lsum_zero fun t ht => lsum_zero fun s hs => if_neg fun q => by
    have h1 := ha t ht
    have h2 := hb s hs
    rw [← q, degX_add] at hx; omega
theorem timesP_deg {p d e : Int} (hp : 0 < p) {a b : List term.den} (ha : CanT p a) (hb : CanT p b) (h1 : DegLe d a) (h2 : DegLe e b) (l1 : d ≤ 100) (l2 : e ≤ 100) : DegLe (d + e) (timesP p a b) := by
  obtain ⟨c1, c2⟩ := timesP_can hp (small ha h1 l1) (small hb h2 l2)
  exact degLe_of c1 fun x hx => by rw [c2, mulN_deg h1 h2 hx]; simp
def logR (p : Int) (t : term.den) : List term.den → Lg → Lg
  | [], m => m
  | s :: r, m => logR p t r ((addX t.1 s.1, (mgI m (addX t.1 s.1) + nT t * nT s) % p) :: m)
def logM (p : Int) (b : List term.den) : List term.den → Lg → Lg
  | [], m => m
  | t :: a, m => logM p b a (logR p t b m)
theorem logR_get {p : Int} {t : term.den} : ∀ {b : List term.den} {m : Lg} (e : ex.den), mgI (logR p t b m) e % p = (mgI m e + lsum (fun s => if addX t.1 s.1 = e then nT t * nT s else 0) b) % p
  | [], m, e => by simp [logR, lsum]
  | s :: b, m, e => by
    simp only [logR, lsum]
    rw [logR_get (b := b) e, mgI_cons]
    by_cases q : addX t.1 s.1 = e
    · subst q; rw [if_pos rfl, if_pos rfl, Int.emod_add_emod]; congr 1; omega
    · rw [if_neg q, if_neg q]; congr 1; omega
theorem logM_get {p : Int} {b : List term.den} : ∀ {a : List term.den} {m : Lg} (e : ex.den), mgI (logM p b a m) e % p = (mgI m e + mulN a b e) % p
  | [], m, e => by simp [logM, mulN, lsum]
  | t :: a, m, e => by
    simp only [logM]
    rw [logM_get (a := a) e, Int.add_emod, logR_get e, ← Int.add_emod]
    simp only [mulN, lsum]
    congr 1; omega
theorem logR_rng {p : Int} (hp : 0 < p) {t : term.den} : ∀ {b : List term.den} {m : Lg}, (∀ e, 0 ≤ mgI m e ∧ mgI m e < p) → ∀ e, 0 ≤ mgI (logR p t b m) e ∧ mgI (logR p t b m) e < p
  | [], m, h, e => h e
  | s :: b, m, h, e => logR_rng hp (b := b) (fun e => by
      rw [mgI_cons]; split
      · exact ⟨Int.emod_nonneg _ (by omega), Int.emod_lt_of_pos _ hp⟩
      · exact h e) e
theorem logR_keys {p : Int} {t : term.den} : ∀ {b : List term.den} {m : Lg}, (∀ q ∈ lkeys (logR p t b m), q ∈ lkeys m ∨ ∃ s ∈ b, addX t.1 s.1 = q) ∧ (lkeys (logR p t b m)).length ≤ (lkeys m).length + b.length
  | [], m => ⟨fun q h => .inl h, Nat.le_refl _⟩
  | s :: r, m => by
    obtain ⟨a, b⟩ := logR_keys (p := p) (t := t) (b := r) (m := (addX t.1 s.1, (mgI m (addX t.1 s.1) + nT t * nT s) % p) :: m)
    obtain ⟨c, d⟩ := lkeys_cons (x := addX t.1 s.1) (y := (mgI m (addX t.1 s.1) + nT t * nT s) % p) (m := m)
    refine ⟨fun q h => ?_, ?_⟩
    · rcases a q h with h | ⟨s, hs, e⟩
      · rcases c q h with h | h
        · exact .inr ⟨s, .head _, h.symm⟩
        · exact .inl h
      · exact .inr ⟨s, .tail _ hs, e⟩
    · refine Nat.le_trans b ?_
      simp only [List.length_cons]; omega
theorem logM_keys {p : Int} {b : List term.den} : ∀ {a : List term.den} {m : Lg}, ∀ q ∈ lkeys (logM p b a m), q ∈ lkeys m ∨ ∃ t ∈ a, ∃ s ∈ b, addX t.1 s.1 = q
  | [], m, q, h => .inl h
  | t :: a, m, q, h => by
    rcases logM_keys (a := a) q h with h | ⟨t', ht, s, hs, e⟩
    · rcases logR_keys.1 q h with h | ⟨s, hs, e⟩
      · exact .inl h
      · exact .inr ⟨t, .head _, s, hs, e⟩
    · exact .inr ⟨t', .tail _ ht, s, hs, e⟩
theorem keys_len {d : Int} {m : Lg} (h : ∀ q ∈ lkeys m, okX q ∧ degX q ≤ d) (hd : d ≤ 99) : (lkeys m).length ≤ 1000000 := by
  have nd : ((lkeys m).map fun e => ((x0 e).toNat * 10000 + (x1 e).toNat * 100 + (x2 e).toNat)).Nodup := by
    refine List.pairwise_map.2 (List.Pairwise.imp_of_mem ?_ (lkeys_nodup (m := m)))
    intro a b ha hb hab e
    have oa := okX_rng (h a ha).1
    have ob := okX_rng (h b hb).1
    have da := (h a ha).2
    have db := (h b hb).2
    rw [degX_eq] at da db
    have e0 : x0 a = x0 b := by omega
    have e1 : x1 a = x1 b := by omega
    have e2 : x2 a = x2 b := by omega
    exact hab (Prod.ext e0 (Prod.ext e1 (Prod.ext e2 rfl)))
  have := len_sub (R := List.range 1000000) nd fun z hz => by
    obtain ⟨t, ht, rfl⟩ := List.mem_map.1 hz
    have ot := okX_rng (h t ht).1
    have dt := (h t ht).2
    rw [degX_eq] at dt
    exact List.mem_range.2 (by omega)
  simpa using this
theorem mul_same {p v d e : Int} {a b : List term.den} (h1 : 0 < p) (h2 : p ≤ 1000000) (ha : CanT p a) (hb : CanT p b) (d1 : DegLe d a) (d2 : DegLe e b) (l1 : d ≤ 49) (l2 : e ≤ 49) :
    sumP p v (logM p b a []) = (p, v, timesP p a b, ()) ∧ (lkeys (logM p b a [])).length ≤ 1000000 := by
  have ok : ∀ q ∈ lkeys (logM p b a []), okX q ∧ degX q ≤ d + e := fun q hq => by
    rcases logM_keys q hq with h | ⟨t, ht, s, hs, rfl⟩
    · cases h
    · have := d1 t ht
      have := d2 s hs
      exact ⟨okX_add (ha.ok t ht).1 (hb.ok s hs).1 (by omega) (by omega), by rw [degX_add]; omega⟩
  obtain ⟨s1, s2⟩ := sumP_can (v := v) h1 h2 fun q hq => (ok q hq).1
  obtain ⟨q1, q2⟩ := timesP_can h1 (small ha d1 (by omega)) (small hb d2 (by omega))
  refine ⟨?_, keys_len ok (by omega)⟩
  have : (sumP p v (logM p b a [])).2.2.1 = timesP p a b := can_unique s1 q1 fun e => by
    rw [s2 e, q2 e]
    show mgI _ e % p = _
    rw [logM_get, show mgI [] e = 0 from rfl, Int.zero_add]
  show (p, v, (sumP p v (logM p b a [])).2.2.1, ()) = _
  rw [this]
theorem getD_last {ts : List term.den} {d : term.den} (h : ts ≠ []) : ts.getLast? = some (ts.getD (ts.length - 1) d) := by
  have hl : 0 < ts.length := List.length_pos_iff.2 h
  rw [List.getLast?_eq_getElem?, List.getD_eq_getElem?_getD, List.getElem?_eq_getElem (by omega)]; rfl
theorem degI_last {ts : List term.den} {d : term.den} (h : ts ≠ []) : degI ts = degX (ts.getD (ts.length - 1) d).1 := by
  unfold degI; rw [getD_last (d := d) h]
def okTs (ts : List term.den) : Prop := ts.length ≤ 1000000 ∧ ∀ t ∈ ts, okX t.1
theorem okTs.last {ts : List term.den} {d : term.den} (h : okTs ts) (hn : ts ≠ []) : okX (ts.getD (ts.length - 1) d).1 := by
  have hl : 0 < ts.length := List.length_pos_iff.2 hn
  rw [List.getD_eq_getElem?_getD, List.getElem?_eq_getElem (by omega)]
  exact h.2 _ (List.getElem_mem _)
noncomputable def cf115 : G84 := by
  classical exact fun x => if okTs x.1.2.2.1 then some (degI x.1.2.2.1, ()) else none
theorem k115 : KOne Tryz.prog 84 ⟨[.v poly], [i64], false, false, 0, cf115⟩ := ok84 _ (.cons k158 .nil) cf115 fun x y h => by
  obtain ⟨⟨p, v, ts, _⟩, _⟩ := x
  simp only [cf115] at h
  split at h
  · rename_i hc
    injection h with h; subst h
    replace hc : okTs ts := hc
    have h1 := hc.1
    refine ⟨0, ?_⟩
    show (bif decide (ts.length ≤ _) then _ else _) = _
    by_cases q : ts = []
    · subst q; rfl
    · have hl : 0 < ts.length := List.length_pos_iff.2 q
      have wi : w6 ((ts.length : Int) - 1) = ((ts.length - 1 : Nat) : Int) := by rw [w6_i (by omega) (by omega)]; omega
      have g : cf158 ((ts.getD (ts.length - 1) (Ty.dflt term)).1, ()) = some (degX (ts.getD (ts.length - 1) (Ty.dflt term)).1, ()) := if_pos (hc.last q)
      simp (disch := omega) only [dln_t, cond_true, ofn, deq_f, cond_false, wi, ib_t, tn_cast]
      show (match cf158 ((ts.getD (ts.length - 1) (Ty.dflt term)).1, ()) with | some r5 => some (r5.1, ()) | none => none) = some (degI ts, ())
      rw [g, degI_last (d := Ty.dflt term) q]
  · cases h
theorem g115_ok {p v : Int} {ts : List term.den} (h : okTs ts) : cf115 ((p, v, ts, ()), ()) = some (degI ts, ()) := if_pos h
noncomputable def cf117 : G95 := by
  classical exact fun x => if okTs x.1.2.2.1 then some (degI x.1.2.2.1, ()) else none
theorem k117 : KOne Tryz.prog 95 ⟨[.v poly], [i64], false, false, 0, cf117⟩ := ok95 _ (.cons k159 .nil) cf117 fun x y h => by
  obtain ⟨⟨p, v, ts, _⟩, _⟩ := x
  simp only [cf117] at h
  split at h
  · rename_i hc
    injection h with h; subst h
    replace hc : okTs ts := hc
    have h1 := hc.1
    refine ⟨0, ?_⟩
    show (bif decide (ts.length ≤ _) then _ else _) = _
    by_cases q : ts = []
    · subst q; rfl
    · have hl : 0 < ts.length := List.length_pos_iff.2 q
      have wi : w6 ((ts.length : Int) - 1) = ((ts.length - 1 : Nat) : Int) := by rw [w6_i (by omega) (by omega)]; omega
      have g : cf159 ((ts.getD (ts.length - 1) (Ty.dflt term)).1, ()) = some (degX (ts.getD (ts.length - 1) (Ty.dflt term)).1, ()) := if_pos (hc.last q)
      simp (disch := omega) only [dln_t, cond_true, ofn, deq_f, cond_false, wi, ib_t, tn_cast]
      show (match cf159 ((ts.getD (ts.length - 1) (Ty.dflt term)).1, ()) with | some r5 => some (r5.1, ()) | none => none) = some (degI ts, ())
      rw [g, degI_last (d := Ty.dflt term) q]
  · cases h
theorem g117_ok {p v : Int} {ts : List term.den} (h : okTs ts) : cf117 ((p, v, ts, ()), ()) = some (degI ts, ()) := if_pos h
theorem nT_rng {p : Int} {ts : List term.den} (h : CanT p ts) {t : term.den} (ht : t ∈ ts) : 0 < nT t ∧ nT t < p := (h.ok t ht).2
theorem mulb {p x y : Int} (hp : p ≤ 1000000) (hx : 0 < x ∧ x < p) (hy : 0 < y ∧ y < p) : 0 ≤ x * y ∧ x * y ≤ 1000000000000 := by
  have h1 : 0 ≤ x * y := Int.mul_nonneg (by omega) (by omega)
  have h2 : x * y ≤ 1000000 * y := Int.mul_le_mul_of_nonneg_right (by omega) (by omega)
  omega
noncomputable def S99 (F0 : Nat) (kx : ShVal sh121_10 → Option R121) : ShVal sh121_10 → (ShVal sh121_10 → Option R121) → Option R121 := fun s k => st121_10 cf97 cf115 cf98 F0 s k kx
theorem addX_w {a b : ex.den} (ha : okX a) (hb : okX b) (h1 : degX a ≤ 100) (h2 : degX b ≤ 100) : ((w8 (x0 a + x0 b), w8 (x1 a + x1 b), w8 (x2 a + x2 b), ()) : ex.den) = addX a b := by
  have ha := okX_rng ha
  have hb := okX_rng hb
  rw [degX_eq] at h1 h2
  rw [w8_i (by omega) (by omega), w8_i (by omega) (by omega), w8_i (by omega) (by omega)]; rfl
theorem in99 {p v p' v' : Int} {z : poly.den} {t : term.den} {prea ra : List term.den} {kx : ShVal sh121_10 → Option R121} {F0 : Nat} (hp : 0 < p ∧ p ≤ 1000000) (ht : okX t.1 ∧ degX t.1 ≤ 100) (hn : 0 < nT t ∧ nT t < p) (hal : (prea ++ t :: ra).length ≤ 1000000) :
    ∀ (r pre out : List term.den) (F : Nat), r.length < F → (pre ++ r).length ≤ 1000000 → out.length + r.length ≤ 1000000 → CanT p out → (∀ s ∈ r, okX s.1 ∧ degX s.1 ≤ 100) → (∀ s ∈ r, 0 < nT s ∧ nT s < p) →
    iter (S99 F0 kx) F ((p', v', prea ++ t :: ra, ()), ((p, v, pre ++ r, ()), ((z.1, z.2.1, z.2.2.1, ()), ((p, v, out, ()), (((prea.length : Int), ()), (((pre.length : Int), ()), ())))))) =
      kx ((p', v', prea ++ t :: ra, ()), ((p, v, pre ++ r, ()), ((z.1, z.2.1, z.2.2.1, ()), ((p, v, rowP p t out r, ()), (((prea.length : Int), ()), ((((pre ++ r).length : Int), ()), ()))))))
  | [], pre, out, F, hF, hl, ho, hc, hr, hn' => by
    obtain ⟨F, rfl⟩ : ∃ f, F = f + 1 := ⟨F - 1, by simp at hF; omega⟩
    rw [List.append_nil] at hl ⊢
    simp only [iter, S99, st121_10]
    simp (disch := omega) only [dln_t, cond_true, ofn, dlt_f, cond_false]
    rfl
  | s :: r, pre, out, F, hF, hl, ho, hc, hr, hn' => by
    obtain ⟨F, rfl⟩ : ∃ f, F = f + 1 := ⟨F - 1, by simp at hF; omega⟩
    have hpl : pre.length < (pre ++ s :: r).length := by simp
    have hpa : prea.length < (prea ++ t :: ra).length := by simp
    have hs := hr s (.head _)
    have hb := mulb hp.2 hn (hn' s (.head _))
    have ha := okX_add ht.1 hs.1 ht.2 hs.2
    have wk : w6 (nT t * nT s) = nT t * nT s := w6_i (by omega) (by omega)
    have ew := addX_w ht.1 hs.1 ht.2 hs.2
    have g := g98_ok (v := v) (ts := out) (e := addX t.1 s.1) (x := nT t * nT s) ⟨hp.1, hp.2, hc, ha, by omega, by omega, by simp at ho; omega⟩
    have wi : w6 ((pre.length : Int) + 1) = ((pre ++ [s]).length : Int) := by rw [w6_i (by omega) (by omega)]; simp
    have pl := putP_len (p := p) (ts := out) (e := addX t.1 s.1) (x := nT t * nT s)
    have ih := in99 (v := v) (v' := v') (p' := p') (z := z) (kx := kx) (F0 := F0) hp ht hn hal r (pre ++ [s]) (putP p out (addX t.1 s.1) (nT t * nT s)) F (by simp at hF; omega) (by simpa using hl) (by simp at ho; omega) (putP_can hp.1 hc ha).1 (fun x hx => hr x (.tail _ hx)) fun x hx => hn' x (.tail _ hx)
    rw [show (pre ++ [s]) ++ r = pre ++ s :: r by simp, ← wi] at ih
    show S99 F0 kx _ (iter (S99 F0 kx) F) = _
    generalize iter (S99 F0 kx) F = K at ih ⊢
    simp only [S99, st121_10]
    simp (disch := omega) only [dln_t, cond_true, ofn, dlt_t, ib_t, tn_cast, getD_pre]
    have g' : cf98 ((p, v, out, ()), ((w8 (x0 t.1 + x0 s.1), w8 (x1 t.1 + x1 s.1), w8 (x2 t.1 + x2 s.1), ()) : ex.den), w6 (nT t * nT s), ()) = some ((p, v, putP p out (addX t.1 s.1) (nT t * nT s), ()), ()) := by rw [ew, wk]; exact g
    show (match cf98 ((p, v, out, ()), ((w8 (x0 t.1 + x0 s.1), w8 (x1 t.1 + x1 s.1), w8 (x2 t.1 + x2 s.1), ()) : ex.den), w6 (nT t * nT s), ()) with | some r45 => _ | none => none) = _
    rw [g']
    exact ih
noncomputable def S99a (F0 : Nat) : ShVal sh121_7 → (ShVal sh121_7 → Option R121) → Option R121 := fun s k => st121_7 cf97 cf115 cf98 F0 s k (fun s' => match s' with | ((t2_0, t2_1, t2_2, _), (t3_0, t3_1, t3_2, _), (t4_0, t4_1, t4_2, _), (t6_0, t6_1, t6_2, _), (t7, _), _) => (some ((t6_0, (t6_1, (t6_2, ()))), (true, ()))))
theorem run99 {p v p' v' : Int} {z : poly.den} {b : List term.den} {F0 : Nat} (hp : 0 < p ∧ p ≤ 1000000) (hF0 : b.length < F0) (hbl : b.length ≤ 100000) (hb : CanT p b) (hbs : ∀ s ∈ b, okX s.1 ∧ degX s.1 ≤ 100) :
    ∀ (r pre out : List term.den) (F : Nat), r.length < F → (pre ++ r).length ≤ 1000000 → DegLe 100 out → (out.length + b.length ≤ 1000000 ∨ True) → CanT p out → CanT p r → (∀ s ∈ r, okX s.1 ∧ degX s.1 ≤ 12) → (∀ s ∈ b, degX s.1 ≤ 12) → DegLe 24 out →
    iter (S99a F0) F ((p', v', pre ++ r, ()), ((p, v, b, ()), ((z.1, z.2.1, z.2.2.1, ()), ((p, v, out, ()), (((pre.length : Int), ()), ()))))) = some ((p, v, r.foldl (fun out t => rowP p t out b) out, ()), true, ())
  | [], pre, out, F, hF, hl, _, _, hc, hr, hd, hd2, hd3 => by
    obtain ⟨F, rfl⟩ : ∃ f, F = f + 1 := ⟨F - 1, by simp at hF; omega⟩
    rw [List.append_nil] at hl ⊢
    simp only [iter, S99a, st121_7]
    simp (disch := omega) only [dln_t, cond_true, ofn, dlt_f, cond_false]
    rfl
  | t :: r, pre, out, F, hF, hl, _, _, hc, hr, hd, hd2, hd3 => by
    obtain ⟨F, rfl⟩ : ∃ f, F = f + 1 := ⟨F - 1, by simp at hF; omega⟩
    have hpl : pre.length < (pre ++ t :: r).length := by simp
    have ht := hd t (.head _)
    have ht' : okX t.1 ∧ degX t.1 ≤ 100 := ⟨ht.1, by omega⟩
    have hol := can_len hc hd3 (by omega)
    obtain ⟨c1, c2⟩ := rowP_can hp.1 ht' (b := b) hc hbs
    have d1 : DegLe 24 (rowP p t out b) := degLe_of c1 fun e he => by
      rw [c2, coT_deg hc hd3 he, lsum_zero fun s hs => if_neg fun q => by
        have := hd2 s hs
        rw [← q, degX_add] at he; omega]
      simp
    have wi : w6 ((pre.length : Int) + 1) = ((pre ++ [t]).length : Int) := by rw [w6_i (by omega) (by omega)]; simp
    have ih := run99 (v := v) (v' := v') (p' := p') (z := z) (F0 := F0) hp hF0 hbl hb hbs r (pre ++ [t]) (rowP p t out b) F (by simp at hF; omega) (by simpa using hl) (d1.mono (by omega)) (.inr trivial) c1 hr.tail (fun x hx => hd x (.tail _ hx)) hd2 d1
    rw [show (pre ++ [t]) ++ r = pre ++ t :: r by simp, ← wi] at ih
    show S99a F0 _ (iter (S99a F0) F) = _
    generalize iter (S99a F0) F = K at ih ⊢
    simp only [S99a, st121_7]
    simp (disch := omega) only [dln_t, cond_true, ofn, dlt_t]
    have key := in99 (v := v) (v' := v') (p' := p') (z := z) (t := t) (prea := pre) (ra := r) (F0 := F0) (kx := fun s' => match s' with | ((t2_0, t2_1, t2_2, _), (t3_0, t3_1, t3_2, _), (t4_0, t4_1, t4_2, _), (t6_0, t6_1, t6_2, _), (t7, _), (t8, _), _) => K ((t2_0, (t2_1, (t2_2, ()))), ((t3_0, (t3_1, (t3_2, ()))), ((t4_0, (t4_1, (t4_2, ()))), ((t6_0, (t6_1, (t6_2, ()))), (((w6 (t7 + (1 : Int))), ()), ())))))) hp ht' (nT_rng hr (.head _)) hl b [] out F0 hF0 (by simpa using Nat.le_trans hbl (by omega)) (by omega) hc hbs fun s hs => nT_rng hb hs
    exact key.trans ih
noncomputable def okMul (p : Int) (a b : List term.den) : Prop := (0 < p ∧ p ≤ 1000000) ∧ CanT p a ∧ CanT p b ∧ DegLe 12 a ∧ DegLe 12 b
def fits (a b : List term.den) : Bool := decide (a = []) || decide (b = []) || decide (degI a + degI b ≤ 12)
def timesO (p : Int) (a b : List term.den) : List term.den := bif fits a b then timesP p a b else []
noncomputable def cf99 : G121 := by
  classical exact fun x => if x.2.1.1 = x.1.1 ∧ x.2.1.2.1 = x.1.2.1 ∧ okMul x.1.1 x.1.2.2.1 x.2.1.2.2.1 then some ((x.1.1, x.1.2.1, timesO x.1.1 x.1.2.2.1 x.2.1.2.2.1, ()), fits x.1.2.2.1 x.2.1.2.2.1, ()) else none
theorem okTs_of {p d : Int} {a : List term.den} (h : CanT p a) (hd : DegLe d a) (h1 : d ≤ 40) : okTs a := ⟨Nat.le_trans (can_len h hd h1) (by omega), fun t ht => (h.ok t ht).1⟩
theorem timesP_nil_r {p : Int} : ∀ (a out : List term.den), a.foldl (fun out t => rowP p t out []) out = out
  | [], out => rfl
  | t :: a, out => timesP_nil_r a out
theorem k99 : KOne Tryz.prog 121 ⟨[.v poly, .v poly], [poly, .bool], true, false, 0, cf99⟩ := ok121 _ _ _ (.cons k97 (.cons k115 (.cons k98 .nil))) cf99 fun x y h => by
  obtain ⟨⟨p, v, a, _⟩, ⟨q, w, b, _⟩, _⟩ := x
  simp only [cf99] at h
  split at h
  · rename_i hc
    injection h with h; subst h
    obtain ⟨e1, e2, hp, ha, hb, hd, he⟩ := hc
    replace e1 : q = p := e1
    replace e2 : w = v := e2
    subst e1; subst e2
    have la := can_len ha hd (by omega)
    have lb := can_len hb he (by omega)
    refine ⟨List.length b + List.length a + 1, ?_⟩
    have hda := degI_rng ha hd (by omega)
    have hdb := degI_rng hb he (by omega)
    have g1 := g115_ok (p := q) (v := w) (okTs_of ha hd (by omega))
    have g2 := g115_ok (p := q) (v := w) (okTs_of hb he (by omega))
    show (bif decide (List.length a ≤ _) then _ else _) = _
    rw [dln_t (by omega), cond_true]
    by_cases q1 : a = []
    · subst q1
      show _ = some ((q, w, timesO q [] b, ()), fits [] b, ())
      simp [fits, timesO, timesP]
    have hla : 0 < List.length a := List.length_pos_iff.2 q1
    show (bif decide ((List.length a : Int) = 0) then _ else (bif decide (List.length b ≤ 9223372036854775807) then (bif decide ((List.length b : Int) = 0) then _ else (match cf115 ((q, w, a, ()), ()) with | some r10 => (match cf115 ((q, w, b, ()), ()) with | some r11 => _ | none => none) | none => none)) else none)) = _
    rw [deq_f (by omega), cond_false, dln_t (by omega), cond_true]
    by_cases q2 : b = []
    · subst q2
      have e2 : fits a [] = true := by simp [fits]
      have e1 : timesO q a [] = [] := by simp only [timesO, e2, cond_true]; exact timesP_nil_r a []
      show _ = some ((q, w, timesO q a [], ()), fits a [], ())
      rw [e1, e2]; rfl
    have hlb : 0 < List.length b := List.length_pos_iff.2 q2
    rw [deq_f (by omega), cond_false]
    rw [g1, g2]
    show (bif decide ((12 : Int) < w6 (degI a + degI b)) then _ else _) = _
    rw [w6_i (by omega) (by omega)]
    by_cases q3 : (12 : Int) < degI a + degI b
    · rw [dlt_t q3, cond_true]
      have : fits a b = false := by simp [fits, q1, q2]; omega
      show _ = some ((q, w, timesO q a b, ()), fits a b, ())
      simp only [timesO, this]; rfl
    · rw [dlt_f (by omega), cond_false]
      have : fits a b = true := by simp [fits]; right; omega
      show _ = some ((q, w, timesO q a b, ()), fits a b, ())
      simp only [timesO, this, cond_true]
      exact run99 (F0 := List.length b + List.length a + 1) (z := Ty.dflt poly) hp (by omega) (by omega) hb (small hb he (by omega)) a [] [] (List.length b + List.length a + 1) (by omega) (by simp; omega) (by intro t ht; cases ht) (.inr trivial) can_nil ha (fun s hs => ⟨(ha.ok s hs).1, hd s hs⟩) he (by intro t ht; cases ht)
  · cases h
theorem g99_ok {p v : Int} {a b : List term.den} (h : okMul p a b) : cf99 ((p, v, a, ()), (p, v, b, ()), ()) = some ((p, v, timesO p a b, ()), fits a b, ()) := if_pos ⟨rfl, rfl, h⟩
def oneP (p : Int) (e : ex.den) (x : Int) : List term.den := putP p [] e x
noncomputable def cf96 : G120 := by
  classical exact fun x => if (0 < x.1 ∧ x.1 ≤ 1000000) ∧ okX x.2.2.1 ∧ -1000000000000 ≤ x.2.2.2.1 ∧ x.2.2.2.1 ≤ 1000000000000 then some ((x.1, x.2.1, oneP x.1 x.2.2.1 x.2.2.2.1, ()), ()) else none
theorem k96 : KOne Tryz.prog 120 ⟨[.v i64, .v i64, .v ex, .v i64], [poly], true, false, 0, cf96⟩ := ok120 _ _ (.cons k97 (.cons k98 .nil)) cf96 fun x y h => by
  obtain ⟨p, v, e, n, _⟩ := x
  simp only [cf96] at h
  split at h
  · rename_i hc
    injection h with h; subst h
    obtain ⟨h1, h2, h3, h4⟩ := hc
    refine ⟨0, ?_⟩
    have g := g98_ok (v := v) (ts := []) (e := e) (x := n) ⟨h1.1, h1.2, can_nil, h2, h3, h4, by simp⟩
    simp only [fn120, cf97]
    show (match cf98 ((p, v, [], ()), e, n, ()) with | some r9 => _ | none => none) = _
    rw [g]; rfl
  · cases h
theorem g96_ok {p v n : Int} {e : ex.den} (hp : 0 < p ∧ p ≤ 1000000) (he : okX e) (hn : -1000000000000 ≤ n ∧ n ≤ 1000000000000) : cf96 (p, v, e, n, ()) = some ((p, v, oneP p e n, ()), ()) := if_pos ⟨hp, he, hn.1, hn.2⟩
noncomputable def cf148 : G175 := by
  classical exact fun x => if (0 < x.1 ∧ x.1 ≤ 1000000) ∧ okX x.2.2.1 then some ((x.1, x.2.1, oneP x.1 x.2.2.1 x.2.2.2.1, ()), ()) else none
theorem one_same {p v n : Int} {e : ex.den} (hp : 0 < p ∧ p ≤ 1000000) (he : okX e) : sumP p v [(e, n)] = (p, v, oneP p e n, ()) := by
  obtain ⟨s1, s2⟩ := sumP_can (v := v) (m := [(e, n)]) hp.1 hp.2 fun k hk => by
    rcases lkeys_cons.1 k hk with rfl | h
    · exact he
    · cases h
  obtain ⟨q1, q2⟩ := putP_can (x := n) (ts := []) hp.1 can_nil he
  have : (sumP p v [(e, n)]).2.2.1 = oneP p e n := can_unique s1 q1 fun e' => by
    show _ = coT (putP p [] e n) e'
    rw [s2, q2]
    show mgI [(e, n)] e' % p = _
    rw [mgI_cons]
    by_cases q : e' = e
    · rw [if_pos q, if_pos q.symm, show coT [] e = 0 from rfl, Int.add_zero]
    · rw [if_neg q, if_neg fun w => q w.symm]; show (0 : Int) % p = 0; simp
  show (p, v, (sumP p v [(e, n)]).2.2.1, ()) = _
  rw [this]
theorem g103_ok {p v : Int} {m : Lg} (h : 0 < p ∧ p ≤ 1000000) (hl : (lkeys m).length ≤ 1000000) : cf103 (m, p, v, ()) = some (sumP p v m, ()) := if_pos ⟨h.1, h.2, hl⟩
theorem k148 : KOne Tryz.prog 175 ⟨[.v i64, .v i64, .v ex, .v i64], [poly], true, false, 0, cf148⟩ := ok175 _ (.cons k103 .nil) cf148 fun x y h => by
  obtain ⟨p, v, e, n, _⟩ := x
  simp only [cf148] at h
  split at h
  · rename_i hc
    injection h with h; subst h
    obtain ⟨h1, h2⟩ := hc
    refine ⟨0, ?_⟩
    have g := g103_ok (v := v) (m := [(e, n)]) h1 (by have := (lkeys_cons (x := e) (y := n) (m := [])).2; simp [lkeys] at this ⊢)
    rw [one_same h1 h2] at g
    show (match cf103 ([(e, n)], p, v, ()) with | some r7 => _ | none => none) = _
    rw [g]
  · cases h
theorem g148_ok {p v n : Int} {e : ex.den} (hp : 0 < p ∧ p ≤ 1000000) (he : okX e) : cf148 (p, v, e, n, ()) = some ((p, v, oneP p e n, ()), ()) := if_pos ⟨hp, he⟩
def e0 : ex.den := ((0 : Int), (0 : Int), (0 : Int), ())
noncomputable def S106b (F0 : Nat) (kx : ShVal sh127_6 → Option R127) : ShVal sh127_6 → (ShVal sh127_6 → Option R127) → Option R127 := fun s k => st127_6 cf103 F0 s k kx
theorem run106b {p v p' v' : Int} {z : poly.den} {A : List term.den} {ti : Int} {t : term.den} {F0 : Nat} {kx : ShVal sh127_6 → Option R127} (hp : 0 < p ∧ p ≤ 1000000) (ht : okX t.1 ∧ degX t.1 ≤ 100) (hn : 0 < nT t ∧ nT t < p) : ∀ (r pre : List term.den) (m : Lg) (F : Nat), r.length < F → (pre ++ r).length ≤ 1000000 → (∀ s ∈ r, okX s.1 ∧ degX s.1 ≤ 100) → (∀ s ∈ r, 0 < nT s ∧ nT s < p) → (∀ e, 0 ≤ mgI m e ∧ mgI m e < p) →
    iter (S106b F0 kx) F ((p, v, A, ()), ((p', v', pre ++ r, ()), ((z.1, z.2.1, z.2.2.1, ()), (m, ((t.1, t.2.1, ()), ((A, ()), (((A.length : Int), ()), ((ti, ()), ((pre ++ r, ()), ((((pre ++ r).length : Int), ()), (((pre.length : Int), ()), ()))))))))))) =
      kx ((p, v, A, ()), ((p', v', pre ++ r, ()), ((z.1, z.2.1, z.2.2.1, ()), (logR p t r m, ((t.1, t.2.1, ()), ((A, ()), (((A.length : Int), ()), ((ti, ()), ((pre ++ r, ()), ((((pre ++ r).length : Int), ()), ((((pre ++ r).length : Int), ()), ())))))))))))
  | [], pre, m, F, hF, hl, _, _, _ => by
    obtain ⟨F, rfl⟩ : ∃ f, F = f + 1 := ⟨F - 1, by simp at hF; omega⟩
    rw [List.append_nil] at hl ⊢
    simp only [iter, S106b, st127_6]
    simp (disch := omega) only [dlt_f, cond_false]
    rfl
  | s :: r, pre, m, F, hF, hl, h1, h2, h3 => by
    obtain ⟨F, rfl⟩ : ∃ f, F = f + 1 := ⟨F - 1, by simp at hF; omega⟩
    have hpl : pre.length < (pre ++ s :: r).length := by simp
    have hs := h1 s (.head _)
    have hb := mulb hp.2 hn (h2 s (.head _))
    have ew := addX_w ht.1 hs.1 ht.2 hs.2
    have hm := h3 (addX t.1 s.1)
    have wi : w6 ((pre.length : Int) + 1) = ((pre ++ [s]).length : Int) := by rw [w6_i (by omega) (by omega)]; simp
    have wk : Int.tmod (w6 (mgI m (addX t.1 s.1) + w6 (nT t * nT s))) p = (mgI m (addX t.1 s.1) + nT t * nT s) % p := by
      rw [w6_i (x := nT t * nT s) (by omega) (by omega), w6_i (by omega) (by omega), Int.tmod_eq_emod_of_nonneg (by omega)]
    have ih := run106b (v := v) (p' := p') (v' := v') (z := z) (A := A) (ti := ti) (F0 := F0) (kx := kx) hp ht hn r (pre ++ [s]) ((addX t.1 s.1, (mgI m (addX t.1 s.1) + nT t * nT s) % p) :: m) F (by simp at hF; omega) (by simpa using hl) (fun x hx => h1 x (.tail _ hx)) (fun x hx => h2 x (.tail _ hx)) (fun e => by
      rw [mgI_cons]; split
      · exact md_rng hp.1
      · exact h3 e)
    rw [show (pre ++ [s]) ++ r = pre ++ s :: r by simp, ← wi] at ih
    show S106b F0 kx _ (iter (S106b F0 kx) F) = _
    generalize iter (S106b F0 kx) F = K at ih ⊢
    simp only [S106b, st127_6]
    simp (disch := omega) only [dlt_t, cond_true, ofn, ib_t, tn_cast, getD_pre, deq_f, Bool.not_false]
    show K ((p, v, A, ()), ((p', v', pre ++ s :: r, ()), ((z.1, z.2.1, z.2.2.1, ()), (((((w8 (x0 t.1 + x0 s.1), w8 (x1 t.1 + x1 s.1), w8 (x2 t.1 + x2 s.1), ()) : ex.den), Int.tmod (w6 (mgI m ((w8 (x0 t.1 + x0 s.1), w8 (x1 t.1 + x1 s.1), w8 (x2 t.1 + x2 s.1), ()) : ex.den) + w6 (nT t * nT s))) p) :: m), ((t.1, t.2.1, ()), ((A, ()), (((A.length : Int), ()), ((ti, ()), ((pre ++ s :: r, ()), ((((pre ++ s :: r).length : Int), ()), (((w6 ((pre.length : Int) + 1)), ()), ()))))))))))) = _
    rw [ew, wk]
    exact ih
noncomputable def S106a (F0 : Nat) : ShVal sh127_3 → (ShVal sh127_3 → Option R127) → Option R127 := fun s k => st127_3 cf103 F0 s k (fun s' => match s' with | ((t2_0, t2_1, t2_2, _), (t3_0, t3_1, t3_2, _), (t4_0, t4_1, t4_2, _), t5, (t13, _), (t14, _), (t15, _), _) => (match (cf103 (t5, (t2_0, (t2_1, ())))) with | some r20 => (some ((r20.1.1, (r20.1.2.1, (r20.1.2.2.1, ()))), ())) | none => none))
theorem run106a {p v p' v' : Int} {z : poly.den} {b : List term.den} {F0 : Nat} (hp : 0 < p ∧ p ≤ 1000000) (hF0 : b.length < F0) (hbl : b.length ≤ 1000000) (hb : ∀ s ∈ b, okX s.1 ∧ degX s.1 ≤ 100) (hbn : ∀ s ∈ b, 0 < nT s ∧ nT s < p) : ∀ (r pre : List term.den) (m : Lg) (F : Nat), r.length < F → (pre ++ r).length ≤ 1000000 → (∀ s ∈ r, okX s.1 ∧ degX s.1 ≤ 100) → (∀ s ∈ r, 0 < nT s ∧ nT s < p) → (∀ e, 0 ≤ mgI m e ∧ mgI m e < p) →
    iter (S106a F0) F ((p, v, pre ++ r, ()), ((p', v', b, ()), ((z.1, z.2.1, z.2.2.1, ()), (m, ((pre ++ r, ()), ((((pre ++ r).length : Int), ()), (((pre.length : Int), ()), ()))))))) =
      (match (cf103 (logM p b r m, (p, (v, ())))) with | some r20 => (some ((r20.1.1, (r20.1.2.1, (r20.1.2.2.1, ()))), ())) | none => none)
  | [], pre, m, F, hF, hl, _, _, _ => by
    obtain ⟨F, rfl⟩ : ∃ f, F = f + 1 := ⟨F - 1, by simp at hF; omega⟩
    rw [List.append_nil] at hl ⊢
    simp only [iter, S106a, st127_3]
    simp (disch := omega) only [dlt_f, cond_false]
    rfl
  | t :: r, pre, m, F, hF, hl, h1, h2, h3 => by
    obtain ⟨F, rfl⟩ : ∃ f, F = f + 1 := ⟨F - 1, by simp at hF; omega⟩
    have hpl : pre.length < (pre ++ t :: r).length := by simp
    have wi : w6 ((pre.length : Int) + 1) = ((pre ++ [t]).length : Int) := by rw [w6_i (by omega) (by omega)]; simp
    have ih := run106a (v := v) (p' := p') (v' := v') (z := z) (F0 := F0) hp hF0 hbl hb hbn r (pre ++ [t]) (logR p t b m) F (by simp at hF; omega) (by simpa using hl) (fun x hx => h1 x (.tail _ hx)) (fun x hx => h2 x (.tail _ hx)) (logR_rng hp.1 h3)
    rw [show (pre ++ [t]) ++ r = pre ++ t :: r by simp, ← wi] at ih
    show S106a F0 _ (iter (S106a F0) F) = _
    generalize iter (S106a F0) F = K at ih ⊢
    simp only [S106a, st127_3]
    simp (disch := omega) only [dlt_t, dln_t, cond_true, ofn, ib_t, tn_cast, getD_pre]
    have key := run106b (v := v) (p' := p') (v' := v') (z := z) (A := pre ++ t :: r) (ti := (pre.length : Int)) (t := t) (F0 := F0) (kx := fun s' => match s' with | ((t2_0, t2_1, t2_2, _), (t3_0, t3_1, t3_2, _), (t4_0, t4_1, t4_2, _), t5, (t7_0, t7_1, _), (t13, _), (t14, _), (t15, _), (t20, _), (t21, _), (t22, _), _) => K ((t2_0, (t2_1, (t2_2, ()))), ((t3_0, (t3_1, (t3_2, ()))), ((t4_0, (t4_1, (t4_2, ()))), (t5, ((t13, ()), ((t14, ()), (((w6 (t15 + (1 : Int))), ()), ())))))))) hp (h1 t (.head _)) (h2 t (.head _)) b [] m F0 hF0 (by simpa using hbl) hb hbn h3
    exact key.trans ih
noncomputable def okMulI (p : Int) (a b : List term.den) : Prop := (0 < p ∧ p ≤ 1000000) ∧ CanT p a ∧ CanT p b ∧ DegLe 40 a ∧ DegLe 40 b
noncomputable def cf106 : G127 := by
  classical exact fun x => if okMulI x.1.1 x.1.2.2.1 x.2.1.2.2.1 then some ((x.1.1, x.1.2.1, timesP x.1.1 x.1.2.2.1 x.2.1.2.2.1, ()), ()) else none
theorem k106 : KOne Tryz.prog 127 ⟨[.v poly, .v poly], [poly], true, false, 0, cf106⟩ := ok127 _ (.cons k103 .nil) cf106 fun x y h => by
  obtain ⟨⟨p, v, a, _⟩, ⟨q, w, b, _⟩, _⟩ := x
  simp only [cf106] at h
  split at h
  · rename_i hc
    injection h with h; subst h
    obtain ⟨hp, ha, hb, da, db⟩ := hc
    have la := can_len ha da (by omega)
    have lb := can_len hb db (by omega)
    refine ⟨List.length a + List.length b + 1, ?_⟩
    obtain ⟨e1, e2⟩ := mul_same (v := v) hp.1 hp.2 ha hb da db (by omega) (by omega)
    have g := g103_ok (v := v) hp e2
    rw [e1] at g
    show (bif decide (List.length a ≤ _) then _ else _) = _
    rw [dln_t (by omega), cond_true]
    refine (run106a (v := v) (p' := q) (v' := w) (z := Ty.dflt poly) (b := b) (F0 := List.length a + List.length b + 1) hp (by omega) (by omega) (small hb db (by omega)) (fun s hs => nT_rng hb hs) a [] [] (List.length a + List.length b + 1) (by omega) (by simpa using Nat.le_trans la (by omega)) (small ha da (by omega)) (fun s hs => nT_rng ha hs) fun e => by
      rw [show mgI [] e = 0 from rfl]; omega).trans ?_
    rw [g]
  · cases h
theorem g106_ok {p v v' : Int} {a b : List term.den} (h : okMulI p a b) : cf106 ((p, v, a, ()), (p, v', b, ()), ()) = some ((p, v, timesP p a b, ()), ()) := if_pos h
theorem eqd_exB (a b : ex.den) : Ty.eqd (.arr 3 (.int .u8)) a b = decide (a = b) := by
  by_cases q : a = b
  · rw [decide_eq_true q]; exact (eqd_key keyT_ex).2 q
  · rw [decide_eq_false q]; exact Bool.eq_false_iff.2 fun z => q ((eqd_key keyT_ex).1 z)
abbrev R227 : Type := Ress [.bool]
abbrev G227 : Type := Args [.v ex, .v ex] → Option R227
abbrev kp227 : List (Nat × List Nat) := [(0, [3, 2]), (1, [5, 3, 2]), (2, [7, 2, 3, 5]), (4, [16, 2, 3, 5]), (5, [4]), (3, [5, 3, 2]), (6, [4])]
abbrev ct227 : CTab := []
abbrev kr227 : Env → Option R227 := endK TT [.tmp 4] [.bool] false false
abbrev sh227_2 : Shape := [(2, bb ex), (3, bb ex), (5, vv i64)]
def st227_2 (F : Nat) (s : ShVal sh227_2) (k kx : ShVal sh227_2 → Option R227) : Option R227 :=
  match s with
  | ((t2, _), (t3, _), (t5, _), _) => (bif decide (t5 < (3 : Int)) then (bif ib t5 (Int.ofNat 3) then (bif ib t5 (Int.ofNat 3) then (bif (!decide ((tget (0 : Int) 3 t2 (tn t5)) = (tget (0 : Int) 3 t3 (tn t5)))) then (some (false, ())) else k ((t2, ()), ((t3, ()), (((w6 (t5 + (1 : Int))), ()), ())))) else none) else none) else kx ((t2, ()), ((t3, ()), ((t5, ()), ()))))
def ru227_2 (F : Nat) (s : ShVal sh227_2) (kx : ShVal sh227_2 → Option R227) : Option R227 := iter (fun s k => st227_2 F s k kx) F s
abbrev ls227_2 (F : Nat) : LS R227 := ⟨sh227_2, 0, ru227_2 F⟩
def fn227 (F : Nat) (x : Args [.v ex, .v ex]) : Option R227 :=
  match x with
  | (x0, x1, _) => (ru227_2 F ((x0, ()), ((x1, ()), (((0 : Int), ()), ()))) (fun s' => match s' with | ((t2, _), (t3, _), (t5, _), _) => (some (true, ()))))
theorem ev227_2 (F : Nat) (s : ShVal sh227_2) (k kx : ShVal sh227_2 → Option R227) : evL TT (ct227 ) kp227 [] (loopOf Tryz.f227 2) (envOf sh227_2 s) (fitK sh227_2 k) (fun j e => bif Nat.beq j 0 then fitK sh227_2 kx e else none) kr227 = st227_2 F s k kx := by
  obtain ⟨⟨t2, _⟩, ⟨t3, _⟩, ⟨t5, _⟩, _⟩ := s
  kernel_rfl
theorem ok227_2 (F : Nat) (hK : KOK Tryz.prog (ct227 )) : LSOK Tryz.prog ⟨17, false, undef⟩ (ls227_2 F) (loopOf Tryz.f227 2) kr227 :=
  loop_ok (st227_2 F) mixed tt_ok hK (by kernel_rfl) (LTOK_by (l := []) (by kernel_rfl) trivial) (ev227_2 F)
theorem ev227 (F : Nat) (x : Args [.v ex, .v ex]) : fnK TT (ct227 ) kp227 [.bool] [(2, ls227_2 F)] (bodyOf Tryz.f227) [.tmp 4] [.v ex, .v ex] false false x = fn227 F x := by
  obtain ⟨x0, x1, _⟩ := x
  kernel_rfl
theorem ok227 (hK : KOK Tryz.prog (ct227 )) (cf : G227) (h : ∀ x y, cf x = some y → ∃ F, fn227 F x = some y) : KOne Tryz.prog 227 ⟨[.v ex, .v ex], [.bool], false, false, 0, cf⟩ :=
  fn_one rfl (c := bodyOf Tryz.f227) mixed tt_ok hK Tryz.func227 (by kernel_rfl) (by kernel_rfl) (Nat.le_of_ble_eq_true (by kernel_rfl)) (by decide) fun x y hxy => by
    obtain ⟨F, hF⟩ := h x y hxy
    exact ⟨[(2, ls227_2 F)], LTOK_by (l := [loopOf Tryz.f227 2]) (by kernel_rfl) ⟨ls_at (by kernel_rfl) (ok227_2 F hK), trivial⟩, (ev227 F x).trans hF⟩
abbrev R178 : Type := Ress [.bool]
abbrev G178 : Type := Args [.v term, .v term] → Option R178
abbrev kp178 : List (Nat × List Nat) := [(0, [3, 2]), (1, [10, 3, 2]), (2, [4]), (3, [15]), (4, [4]), (5, [4])]
abbrev ct178 (g227 : G227) : CTab := [(227, ⟨[.v ex, .v ex], [.bool], false, false, 0, g227⟩)]
def fn178 (g227 : G227) (F : Nat) (x : Args [.v term, .v term]) : Option R178 :=
  match x with
  | (x0, x1, _) => (match (g227 (x0.1, (x1.1, ()))) with | some r5 => (bif (!r5.1) then (some (false, ())) else (bif (!decide (x0.2.1 = x1.2.1)) then (some (false, ())) else (some (true, ())))) | none => none)
theorem ev178 (g227 : G227) (F : Nat) (x : Args [.v term, .v term]) : fnK TT (ct178 g227 ) kp178 [.bool] [] (bodyOf Tryz.f178) [.tmp 4] [.v term, .v term] false false x = fn178 g227 F x := by
  obtain ⟨x0, x1, _⟩ := x
  kernel_rfl
theorem ok178 (g227 : G227) (hK : KOK Tryz.prog (ct178 g227 )) (cf : G178) (h : ∀ x y, cf x = some y → ∃ F, fn178 g227 F x = some y) : KOne Tryz.prog 178 ⟨[.v term, .v term], [.bool], false, false, 0, cf⟩ :=
  fn_one rfl (c := bodyOf Tryz.f178) mixed tt_ok hK Tryz.func178 (by kernel_rfl) (by kernel_rfl) (Nat.le_of_ble_eq_true (by kernel_rfl)) (by decide) fun x y hxy => by
    obtain ⟨F, hF⟩ := h x y hxy
    exact ⟨[], LTOK_by (l := []) (by kernel_rfl) trivial, (ev178 g227 F x).trans hF⟩
abbrev R99 : Type := Ress [.bool]
abbrev G99 : Type := Args [.v (.slice 135 term), .v (.slice 135 term)] → Option R99
abbrev kp99 : List (Nat × List Nat) := [(0, [0, 1]), (1, [10, 0, 1]), (2, [4]), (3, [5, 1, 0]), (4, [14, 0, 1, 5]), (6, [26, 0, 1, 5]), (7, [4]), (5, [5, 1, 0]), (8, [4])]
abbrev ct99 (g178 : G178) : CTab := [(178, ⟨[.v term, .v term], [.bool], false, false, 0, g178⟩)]
abbrev kr99 : Env → Option R99 := endK TT [.tmp 4] [.bool] false false
abbrev sh99_4 : Shape := [(0, .val false [.fz (.slice 135 term) 0 true]), (1, .val false [.fz (.slice 135 term) 0 true]), (5, vv i64)]
def st99_4 (g178 : G178) (F : Nat) (s : ShVal sh99_4) (k kx : ShVal sh99_4 → Option R99) : Option R99 :=
  match s with
  | ((t0, _), (t1, _), (t5, _), _) => (bif decide ((List.length t0) ≤ 9223372036854775807) then (bif decide (t5 < (Int.ofNat (List.length t0))) then (bif ib t5 (Int.ofNat (List.length t0)) then (bif ib t5 (Int.ofNat (List.length t1)) then (match (g178 ((List.getD t0 (tn t5) (Ty.dflt (.pair (.arr 3 (.int .u8)) (.pair (.int .i64) .unit)))), ((List.getD t1 (tn t5) (Ty.dflt (.pair (.arr 3 (.int .u8)) (.pair (.int .i64) .unit)))), ()))) with | some r11 => (bif (!r11.1) then (some (false, ())) else k ((t0, ()), ((t1, ()), (((w6 (t5 + (1 : Int))), ()), ())))) | none => none) else none) else none) else kx ((t0, ()), ((t1, ()), ((t5, ()), ())))) else none)
def ru99_4 (g178 : G178) (F : Nat) (s : ShVal sh99_4) (kx : ShVal sh99_4 → Option R99) : Option R99 := iter (fun s k => st99_4 g178 F s k kx) F s
abbrev ls99_4 (g178 : G178) (F : Nat) : LS R99 := ⟨sh99_4, 0, ru99_4 g178 F⟩
def fn99 (g178 : G178) (F : Nat) (x : Args [.v (.slice 135 term), .v (.slice 135 term)]) : Option R99 :=
  match x with
  | (x0, x1, _) => (bif decide ((List.length x0) ≤ 9223372036854775807) then (bif decide ((List.length x1) ≤ 9223372036854775807) then (bif (!decide ((Int.ofNat (List.length x0)) = (Int.ofNat (List.length x1)))) then (some (false, ())) else (ru99_4 g178 F ((x0, ()), ((x1, ()), (((0 : Int), ()), ()))) (fun s' => match s' with | ((t0, _), (t1, _), (t5, _), _) => (some (true, ()))))) else none) else none)
theorem ev99_4 (g178 : G178) (F : Nat) (s : ShVal sh99_4) (k kx : ShVal sh99_4 → Option R99) : evL TT (ct99 g178 ) kp99 [] (loopOf Tryz.f99 4) (envOf sh99_4 s) (fitK sh99_4 k) (fun j e => bif Nat.beq j 0 then fitK sh99_4 kx e else none) kr99 = st99_4 g178 F s k kx := by
  obtain ⟨⟨t0, _⟩, ⟨t1, _⟩, ⟨t5, _⟩, _⟩ := s
  kernel_rfl
theorem ok99_4 (g178 : G178) (F : Nat) (hK : KOK Tryz.prog (ct99 g178 )) : LSOK Tryz.prog ⟨27, false, undef⟩ (ls99_4 g178 F) (loopOf Tryz.f99 4) kr99 :=
  loop_ok (st99_4 g178 F) mixed tt_ok hK (by kernel_rfl) (LTOK_by (l := []) (by kernel_rfl) trivial) (ev99_4 g178 F)
theorem ev99 (g178 : G178) (F : Nat) (x : Args [.v (.slice 135 term), .v (.slice 135 term)]) : fnK TT (ct99 g178 ) kp99 [.bool] [(4, ls99_4 g178 F)] (bodyOf Tryz.f99) [.tmp 4] [.v (.slice 135 term), .v (.slice 135 term)] false false x = fn99 g178 F x := by
  obtain ⟨x0, x1, _⟩ := x
  kernel_rfl
theorem ok99 (g178 : G178) (hK : KOK Tryz.prog (ct99 g178 )) (cf : G99) (h : ∀ x y, cf x = some y → ∃ F, fn99 g178 F x = some y) : KOne Tryz.prog 99 ⟨[.v (.slice 135 term), .v (.slice 135 term)], [.bool], false, false, 0, cf⟩ :=
  fn_one rfl (c := bodyOf Tryz.f99) mixed tt_ok hK Tryz.func99 (by kernel_rfl) (by kernel_rfl) (Nat.le_of_ble_eq_true (by kernel_rfl)) (by decide) fun x y hxy => by
    obtain ⟨F, hF⟩ := h x y hxy
    exact ⟨[(4, ls99_4 g178 F)], LTOK_by (l := [loopOf Tryz.f99 4]) (by kernel_rfl) ⟨ls_at (by kernel_rfl) (ok99_4 g178 F hK), trivial⟩, (ev99 g178 F x).trans hF⟩
abbrev R30 : Type := Ress [.bool]
abbrev G30 : Type := Args [.v poly, .v poly] → Option R30
abbrev kp30 : List (Nat × List Nat) := [(0, [2, 3]), (1, [9, 2, 3]), (2, [4]), (3, [14, 3, 2]), (4, [4]), (5, [20]), (6, [4]), (7, [4])]
abbrev ct30 (g99 : G99) : CTab := [(99, ⟨[.v (.slice 135 term), .v (.slice 135 term)], [.bool], false, false, 0, g99⟩)]
def fn30 (g99 : G99) (F : Nat) (x : Args [.v poly, .v poly]) : Option R30 :=
  match x with
  | (x0, x1, _) => (bif (!decide (x0.1 = x1.1)) then (some (false, ())) else (bif (!decide (x0.2.1 = x1.2.1)) then (some (false, ())) else (match (g99 (x0.2.2.1, (x1.2.2.1, ()))) with | some r7 => (bif (!r7.1) then (some (false, ())) else (some (true, ()))) | none => none)))
theorem ev30 (g99 : G99) (F : Nat) (x : Args [.v poly, .v poly]) : fnK TT (ct30 g99 ) kp30 [.bool] [] (bodyOf Tryz.f30) [.tmp 4] [.v poly, .v poly] false false x = fn30 g99 F x := by
  obtain ⟨x0, x1, _⟩ := x
  kernel_rfl
theorem ok30 (g99 : G99) (hK : KOK Tryz.prog (ct30 g99 )) (cf : G30) (h : ∀ x y, cf x = some y → ∃ F, fn30 g99 F x = some y) : KOne Tryz.prog 30 ⟨[.v poly, .v poly], [.bool], false, false, 0, cf⟩ :=
  fn_one rfl (c := bodyOf Tryz.f30) mixed tt_ok hK Tryz.func30 (by kernel_rfl) (by kernel_rfl) (Nat.le_of_ble_eq_true (by kernel_rfl)) (by decide) fun x y hxy => by
    obtain ⟨F, hF⟩ := h x y hxy
    exact ⟨[], LTOK_by (l := []) (by kernel_rfl) trivial, (ev30 g99 F x).trans hF⟩
def cf171 : G227 := fun x => if x.1 = x.2.1 then some (true, ()) else none
theorem k171 : KOne Tryz.prog 227 ⟨[.v ex, .v ex], [.bool], false, false, 0, cf171⟩ := ok227 .nil cf171 fun x y h => by
  obtain ⟨a, b, _⟩ := x
  simp only [cf171] at h
  split at h
  · rename_i hc
    injection h with h; subst h
    replace hc : a = b := hc
    subst hc
    obtain ⟨a0, a1, a2, _⟩ := a
    refine ⟨4, ?_⟩
    have e : ∀ x : Int, (!decide (x = x)) = false := fun x => by simp
    show (bif !decide (a0 = a0) then _ else bif !decide (a1 = a1) then _ else bif !decide (a2 = a2) then _ else _) = _
    rw [e, e, e]; rfl
  · cases h
def cf144 : G178 := fun x => if x.1.1 = x.2.1.1 ∧ x.1.2.1 = x.2.1.2.1 then some (true, ()) else none
theorem k144 : KOne Tryz.prog 178 ⟨[.v term, .v term], [.bool], false, false, 0, cf144⟩ := ok178 _ (.cons k171 .nil) cf144 fun x y h => by
  obtain ⟨a, b, _⟩ := x
  simp only [cf144] at h
  split at h
  · rename_i hc
    injection h with h; subst h
    have g : cf171 (a.1, b.1, ()) = some (true, ()) := if_pos hc.1
    refine ⟨0, ?_⟩
    simp only [fn178, g, Bool.not_true, cond_false]
    rw [show decide (a.2.1 = b.2.1) = true from decide_eq_true hc.2]; rfl
  · cases h
theorem run92 {ts : List term.den} (h : ts.length ≤ 2000000) {F0 : Nat} : ∀ (r pre : List term.den) (F : Nat), r.length < F → pre ++ r = ts →
    iter (fun s k => st99_4 cf144 F0 s k (fun s' => match s' with | ((t0, _), (t1, _), (t5, _), _) => (some (true, ())))) F ((ts, ()), ((ts, ()), (((pre.length : Int), ()), ()))) = some (true, ())
  | [], pre, F, hF, hl => by
    obtain ⟨F, rfl⟩ : ∃ f, F = f + 1 := ⟨F - 1, by simp at hF; omega⟩
    have hlen : pre.length = ts.length := by rw [← hl]; simp
    simp only [iter, st99_4]
    simp (disch := omega) only [dln_t, cond_true, ofn, dlt_f, cond_false]
  | t :: r, pre, F, hF, hl => by
    obtain ⟨F, rfl⟩ : ∃ f, F = f + 1 := ⟨F - 1, by simp at hF; omega⟩
    have hpl : pre.length < ts.length := by rw [← hl]; simp
    have wi : w6 ((pre.length : Int) + 1) = ((pre ++ [t]).length : Int) := by rw [w6_i (by omega) (by omega)]; simp
    have ih := run92 h (F0 := F0) r (pre ++ [t]) F (by simp at hF; omega) (by simpa using hl)
    rw [← wi] at ih
    simp only [iter]
    generalize iter (fun s k => st99_4 cf144 F0 s k (fun s' => match s' with | ((t0, _), (t1, _), (t5, _), _) => (some (true, ())))) F = K at ih ⊢
    simp only [st99_4]
    have g : ∀ z : term.den, cf144 (z, z, ()) = some (true, ()) := fun z => if_pos ⟨rfl, rfl⟩
    simp (disch := omega) only [dln_t, cond_true, ofn, dlt_t, ib_t, tn_cast, g, Bool.not_true, cond_false]
    exact ih
def cf92 : G99 := fun x => if (show List term.den from x.1) = x.2.1 ∧ (show List term.den from x.1).length ≤ 2000000 then some (true, ()) else none
theorem k92 : KOne Tryz.prog 99 ⟨[.v (.slice 135 term), .v (.slice 135 term)], [.bool], false, false, 0, cf92⟩ := ok99 _ (.cons k144 .nil) cf92 fun x y h => by
  obtain ⟨a, b, _⟩ := x
  simp only [cf92] at h
  split at h
  · rename_i hc
    injection h with h; subst h
    obtain ⟨e, hl⟩ := hc
    replace e : a = b := e
    replace hl : List.length a ≤ 2000000 := hl
    subst e
    refine ⟨List.length a + 1, ?_⟩
    show (bif decide (List.length a ≤ _) then (bif decide (List.length a ≤ _) then (bif (!decide ((List.length a : Int) = (List.length a : Int))) then _ else _) else none) else none) = _
    rw [dln_t (by omega), cond_true, cond_true, deq_t rfl]
    exact run92 hl (F0 := List.length a + 1) a [] (List.length a + 1) (by omega) rfl
  · cases h
def cf39 : G30 := fun x => if x.1.1 = x.2.1.1 ∧ x.1.2.1 = x.2.1.2.1 ∧ (show List term.den from x.1.2.2.1) = x.2.1.2.2.1 ∧ (show List term.den from x.1.2.2.1).length ≤ 2000000 then some (true, ()) else none
theorem k39 : KOne Tryz.prog 30 ⟨[.v poly, .v poly], [.bool], false, false, 0, cf39⟩ := ok30 _ (.cons k92 .nil) cf39 fun x y h => by
  obtain ⟨⟨p, v, a, _⟩, ⟨q, w, b, _⟩, _⟩ := x
  simp only [cf39] at h
  split at h
  · rename_i hc
    injection h with h; subst h
    obtain ⟨h1, h2, h3, h4⟩ := hc
    refine ⟨0, ?_⟩
    have g : cf92 (a, b, ()) = some (true, ()) := if_pos ⟨h3, h4⟩
    show (bif (!decide (p = q)) then _ else (bif (!decide (v = w)) then _ else (match cf92 (a, b, ()) with | some r7 => _ | none => none))) = _
    rw [show decide (p = q) = true from decide_eq_true h1, show decide (v = w) = true from decide_eq_true h2, g]; rfl
  · cases h
theorem g39b_ok {p v : Int} {a : List term.den} (h : a.length ≤ 2000000) : cf39 ((p, v, a, ()), (p, v, a, ()), ()) = some (true, ()) := if_pos ⟨rfl, rfl, rfl, h⟩
abbrev R220 : Type := Ress [ex]
abbrev G220 : Type := Args [.v ex] → Option R220
abbrev kp220 : List (Nat × List Nat) := [(0, [1, 2]), (1, [3, 1, 2]), (2, [4, 3, 1, 2]), (3, [6, 4, 3, 1, 2]), (5, [4, 3, 1, 2]), (4, [4, 3, 1, 2]), (6, [2])]
abbrev ct220 : CTab := []
abbrev kr220 : Env → Option R220 := endK TT [.cell 2 107] [ex] false false
abbrev sh220_3 : Shape := [(1, bb ex), (2, bb ex), (3, bb ex), (4, vv i64)]
def st220_3 (F : Nat) (s : ShVal sh220_3) (k kx : ShVal sh220_3 → Option R220) : Option R220 :=
  match s with
  | ((t1, _), (t2, _), (t3, _), (t4, _), _) => (bif decide (t4 < (3 : Int)) then (bif ib t4 (Int.ofNat 3) then (bif ib t4 (Int.ofNat 3) then k ((t1, ()), ((t2, ()), (((tset (tget (0 : Int) 3 t1 (tn t4)) 3 t3 (tn t4)), ()), (((w6 (t4 + (1 : Int))), ()), ())))) else none) else none) else kx ((t1, ()), ((t2, ()), ((t3, ()), ((t4, ()), ())))))
def ru220_3 (F : Nat) (s : ShVal sh220_3) (kx : ShVal sh220_3 → Option R220) : Option R220 := iter (fun s k => st220_3 F s k kx) F s
abbrev ls220_3 (F : Nat) : LS R220 := ⟨sh220_3, 0, ru220_3 F⟩
def fn220 (F : Nat) (x : Args [.v ex]) : Option R220 :=
  match x with
  | (x0, _) => (ru220_3 F ((x0, ()), (((Ty.dflt (.arr 3 (.int .u8))), ()), (((Ty.dflt (.arr 3 (.int .u8))), ()), (((0 : Int), ()), ())))) (fun s' => match s' with | ((t1, _), (t2, _), (t3, _), (t4, _), _) => (some (t3, ()))))
theorem ev220_3 (F : Nat) (s : ShVal sh220_3) (k kx : ShVal sh220_3 → Option R220) : evL TT (ct220 ) kp220 [] (loopOf Tryz.f220 3) (envOf sh220_3 s) (fitK sh220_3 k) (fun j e => bif Nat.beq j 0 then fitK sh220_3 kx e else none) kr220 = st220_3 F s k kx := by
  obtain ⟨⟨t1, _⟩, ⟨t2, _⟩, ⟨t3, _⟩, ⟨t4, _⟩, _⟩ := s
  kernel_rfl
theorem ok220_3 (F : Nat) (hK : KOK Tryz.prog (ct220 )) : LSOK Tryz.prog ⟨15, false, undef⟩ (ls220_3 F) (loopOf Tryz.f220 3) kr220 :=
  loop_ok (st220_3 F) mixed tt_ok hK (by kernel_rfl) (LTOK_by (l := []) (by kernel_rfl) trivial) (ev220_3 F)
theorem ev220 (F : Nat) (x : Args [.v ex]) : fnK TT (ct220 ) kp220 [ex] [(3, ls220_3 F)] (bodyOf Tryz.f220) [.cell 2 107] [.v ex] false false x = fn220 F x := by
  obtain ⟨x0, _⟩ := x
  kernel_rfl
theorem ok220 (hK : KOK Tryz.prog (ct220 )) (cf : G220) (h : ∀ x y, cf x = some y → ∃ F, fn220 F x = some y) : KOne Tryz.prog 220 ⟨[.v ex], [ex], false, false, 0, cf⟩ :=
  fn_one rfl (c := bodyOf Tryz.f220) mixed tt_ok hK Tryz.func220 (by kernel_rfl) (by kernel_rfl) (Nat.le_of_ble_eq_true (by kernel_rfl)) (by decide) fun x y hxy => by
    obtain ⟨F, hF⟩ := h x y hxy
    exact ⟨[(3, ls220_3 F)], LTOK_by (l := [loopOf Tryz.f220 3]) (by kernel_rfl) ⟨ls_at (by kernel_rfl) (ok220_3 F hK), trivial⟩, (ev220 F x).trans hF⟩
abbrev R80 : Type := Ress [i64]
abbrev G80 : Type := Args [.v (.slice 147 term), .v i64] → Option R80
abbrev kp80 : List (Nat × List Nat) := [(0, [1, 0]), (1, [1]), (2, [10, 1]), (3, [4]), (4, [4])]
abbrev ct80 : CTab := []
def fn80 (F : Nat) (x : Args [.v (.slice 147 term), .v i64]) : Option R80 :=
  match x with
  | (x0, x1, _) => (bif decide ((List.length x0) ≤ 9223372036854775807) then (bif decide ((w6 (x1 - (Int.ofNat (List.length x0)))) < (0 : Int)) then (some ((-(1 : Int)), ())) else (some ((w6 (x1 - (Int.ofNat (List.length x0)))), ()))) else none)
theorem ev80 (F : Nat) (x : Args [.v (.slice 147 term), .v i64]) : fnK TT (ct80 ) kp80 [i64] [] (bodyOf Tryz.f80) [.tmp 4] [.v (.slice 147 term), .v i64] false false x = fn80 F x := by
  obtain ⟨x0, x1, _⟩ := x
  kernel_rfl
theorem ok80 (hK : KOK Tryz.prog (ct80 )) (cf : G80) (h : ∀ x y, cf x = some y → ∃ F, fn80 F x = some y) : KOne Tryz.prog 80 ⟨[.v (.slice 147 term), .v i64], [i64], false, false, 0, cf⟩ :=
  fn_one rfl (c := bodyOf Tryz.f80) mixed tt_ok hK Tryz.func80 (by kernel_rfl) (by kernel_rfl) (Nat.le_of_ble_eq_true (by kernel_rfl)) (by decide) fun x y hxy => by
    obtain ⟨F, hF⟩ := h x y hxy
    exact ⟨[], LTOK_by (l := []) (by kernel_rfl) trivial, (ev80 F x).trans hF⟩
abbrev R24 : Type := Ress [i64]
abbrev G24 : Type := Args [.v lpoly, .v i64] → Option R24
abbrev kp24 : List (Nat × List Nat) := [(0, [2, 1]), (1, [1]), (2, [10, 1]), (3, [4]), (4, [4])]
abbrev ct24 (g80 : G80) : CTab := [(80, ⟨[.v (.slice 147 term), .v i64], [i64], false, false, 0, g80⟩)]
def fn24 (g80 : G80) (F : Nat) (x : Args [.v lpoly, .v i64]) : Option R24 :=
  match x with
  | (x0, x1, _) => (match (g80 (x0.2.2.1, (x1, ()))) with | some r5 => (bif decide (r5.1 < (0 : Int)) then (some ((-(1 : Int)), ())) else (some (r5.1, ()))) | none => none)
theorem ev24 (g80 : G80) (F : Nat) (x : Args [.v lpoly, .v i64]) : fnK TT (ct24 g80 ) kp24 [i64] [] (bodyOf Tryz.f24) [.tmp 4] [.v lpoly, .v i64] false false x = fn24 g80 F x := by
  obtain ⟨x0, x1, _⟩ := x
  kernel_rfl
theorem ok24 (g80 : G80) (hK : KOK Tryz.prog (ct24 g80 )) (cf : G24) (h : ∀ x y, cf x = some y → ∃ F, fn24 g80 F x = some y) : KOne Tryz.prog 24 ⟨[.v lpoly, .v i64], [i64], false, false, 0, cf⟩ :=
  fn_one rfl (c := bodyOf Tryz.f24) mixed tt_ok hK Tryz.func24 (by kernel_rfl) (by kernel_rfl) (Nat.le_of_ble_eq_true (by kernel_rfl)) (by decide) fun x y hxy => by
    obtain ⟨F, hF⟩ := h x y hxy
    exact ⟨[], LTOK_by (l := []) (by kernel_rfl) trivial, (ev24 g80 F x).trans hF⟩
abbrev R23 : Type := Ress [i64]
abbrev G23 : Type := Args [.v (.slice 25 lpoly), .v i64] → Option R23
abbrev kp23 : List (Nat × List Nat) := [(0, [1, 0]), (1, [0, 1]), (2, [11, 0, 1]), (3, [4]), (4, [5, 1, 0]), (5, [15, 1, 0, 5]), (7, [0, 1, 5]), (8, [25, 0, 1, 5]), (9, [4]), (6, [5, 1, 0]), (10, [4])]
abbrev ct23 (g24 : G24) : CTab := [(24, ⟨[.v lpoly, .v i64], [i64], false, false, 0, g24⟩)]
abbrev kr23 : Env → Option R23 := endK TT [.tmp 4] [i64] false false
abbrev sh23_5 : Shape := [(0, .val false [.fz (.slice 25 lpoly) 0 true]), (1, vv i64), (5, vv i64)]
def st23_5 (g24 : G24) (F : Nat) (s : ShVal sh23_5) (k kx : ShVal sh23_5 → Option R23) : Option R23 :=
  match s with
  | ((t0, _), (t1, _), (t5, _), _) => (bif decide ((List.length t0) ≤ 9223372036854775807) then (bif decide (t5 < (Int.ofNat (List.length t0))) then (bif ib t5 (Int.ofNat (List.length t0)) then (match (g24 ((List.getD t0 (tn t5) (Ty.dflt (.pair (.int .i64) (.pair (.int .i64) (.pair (.slice 147 (.pair (.arr 3 (.int .u8)) (.pair (.int .i64) .unit))) .unit))))), (t1, ()))) with | some r12 => (bif decide (r12.1 < (0 : Int)) then (some ((-(1 : Int)), ())) else k ((t0, ()), ((r12.1, ()), (((w6 (t5 + (1 : Int))), ()), ())))) | none => none) else none) else kx ((t0, ()), ((t1, ()), ((t5, ()), ())))) else none)
def ru23_5 (g24 : G24) (F : Nat) (s : ShVal sh23_5) (kx : ShVal sh23_5 → Option R23) : Option R23 := iter (fun s k => st23_5 g24 F s k kx) F s
abbrev ls23_5 (g24 : G24) (F : Nat) : LS R23 := ⟨sh23_5, 0, ru23_5 g24 F⟩
def fn23 (g24 : G24) (F : Nat) (x : Args [.v (.slice 25 lpoly), .v i64]) : Option R23 :=
  match x with
  | (x0, x1, _) => (bif decide ((List.length x0) ≤ 9223372036854775807) then (bif decide ((w6 (x1 - (Int.ofNat (List.length x0)))) < (0 : Int)) then (some ((-(1 : Int)), ())) else (ru23_5 g24 F ((x0, ()), (((w6 (x1 - (Int.ofNat (List.length x0)))), ()), (((0 : Int), ()), ()))) (fun s' => match s' with | ((t0, _), (t1, _), (t5, _), _) => (some (t1, ()))))) else none)
theorem ev23_5 (g24 : G24) (F : Nat) (s : ShVal sh23_5) (k kx : ShVal sh23_5 → Option R23) : evL TT (ct23 g24 ) kp23 [] (loopOf Tryz.f23 5) (envOf sh23_5 s) (fitK sh23_5 k) (fun j e => bif Nat.beq j 0 then fitK sh23_5 kx e else none) kr23 = st23_5 g24 F s k kx := by
  obtain ⟨⟨t0, _⟩, ⟨t1, _⟩, ⟨t5, _⟩, _⟩ := s
  kernel_rfl
theorem ok23_5 (g24 : G24) (F : Nat) (hK : KOK Tryz.prog (ct23 g24 )) : LSOK Tryz.prog ⟨27, false, undef⟩ (ls23_5 g24 F) (loopOf Tryz.f23 5) kr23 :=
  loop_ok (st23_5 g24 F) mixed tt_ok hK (by kernel_rfl) (LTOK_by (l := []) (by kernel_rfl) trivial) (ev23_5 g24 F)
theorem ev23 (g24 : G24) (F : Nat) (x : Args [.v (.slice 25 lpoly), .v i64]) : fnK TT (ct23 g24 ) kp23 [i64] [(5, ls23_5 g24 F)] (bodyOf Tryz.f23) [.tmp 4] [.v (.slice 25 lpoly), .v i64] false false x = fn23 g24 F x := by
  obtain ⟨x0, x1, _⟩ := x
  kernel_rfl
theorem ok23 (g24 : G24) (hK : KOK Tryz.prog (ct23 g24 )) (cf : G23) (h : ∀ x y, cf x = some y → ∃ F, fn23 g24 F x = some y) : KOne Tryz.prog 23 ⟨[.v (.slice 25 lpoly), .v i64], [i64], false, false, 0, cf⟩ :=
  fn_one rfl (c := bodyOf Tryz.f23) mixed tt_ok hK Tryz.func23 (by kernel_rfl) (by kernel_rfl) (Nat.le_of_ble_eq_true (by kernel_rfl)) (by decide) fun x y hxy => by
    obtain ⟨F, hF⟩ := h x y hxy
    exact ⟨[(5, ls23_5 g24 F)], LTOK_by (l := [loopOf Tryz.f23 5]) (by kernel_rfl) ⟨ls_at (by kernel_rfl) (ok23_5 g24 F hK), trivial⟩, (ev23 g24 F x).trans hF⟩
abbrev R164 : Type := Ress [term]
abbrev G164 : Type := Args [.v term] → Option R164
abbrev kp164 : List (Nat × List Nat) := [(0, [1, 2]), (1, [1, 3, 2]), (2, [1, 3, 2]), (3, [3, 2]), (4, [2])]
abbrev ct164 (g220 : G220) : CTab := [(220, ⟨[.v ex], [ex], false, false, 0, g220⟩)]
def fn164 (g220 : G220) (F : Nat) (x : Args [.v term]) : Option R164 :=
  match x with
  | (x0, _) => (match (g220 (x0.1, ())) with | some r5 => (some ((r5.1, (x0.2.1, ())), ())) | none => none)
theorem ev164 (g220 : G220) (F : Nat) (x : Args [.v term]) : fnK TT (ct164 g220 ) kp164 [term] [] (bodyOf Tryz.f164) [.cell 2 135] [.v term] false false x = fn164 g220 F x := by
  obtain ⟨x0, _⟩ := x
  kernel_rfl
theorem ok164 (g220 : G220) (hK : KOK Tryz.prog (ct164 g220 )) (cf : G164) (h : ∀ x y, cf x = some y → ∃ F, fn164 g220 F x = some y) : KOne Tryz.prog 164 ⟨[.v term], [term], false, false, 0, cf⟩ :=
  fn_one rfl (c := bodyOf Tryz.f164) mixed tt_ok hK Tryz.func164 (by kernel_rfl) (by kernel_rfl) (Nat.le_of_ble_eq_true (by kernel_rfl)) (by decide) fun x y hxy => by
    obtain ⟨F, hF⟩ := h x y hxy
    exact ⟨[], LTOK_by (l := []) (by kernel_rfl) trivial, (ev164 g220 F x).trans hF⟩
abbrev R90 : Type := Ress [(.slice 135 term)]
abbrev G90 : Type := Args [.v (.slice 147 term)] → Option R90
abbrev kp90 : List (Nat × List Nat) := [(0, [0]), (1, [0, 3]), (2, [4, 0, 3]), (3, [11, 4, 0, 3]), (5, [4, 0, 3]), (4, [4, 0, 3]), (6, [2])]
abbrev ct90 (g164 : G164) : CTab := [(164, ⟨[.v term], [term], false, false, 0, g164⟩)]
abbrev kr90 : Env → Option R90 := endK TT [.tmp 2] [(.slice 135 term)] true false
abbrev sh90_3 : Shape := [(0, .val false [.fz (.slice 147 term) 0 true]), (3, vr 135 term 49 false), (4, vv i64)]
def st90_3 (g164 : G164) (F : Nat) (s : ShVal sh90_3) (k kx : ShVal sh90_3 → Option R90) : Option R90 :=
  match s with
  | ((t0, _), (t3, _), (t4, _), _) => (bif decide ((List.length t0) ≤ 9223372036854775807) then (bif decide (t4 < (Int.ofNat (List.length t0))) then (bif ib t4 (Int.ofNat (List.length t0)) then (match (g164 ((List.getD t0 (tn t4) (Ty.dflt (.pair (.arr 3 (.int .u8)) (.pair (.int .i64) .unit)))), ())) with | some r10 => (bif ib t4 (Int.ofNat (List.length t3)) then k ((t0, ()), (((List.set t3 (tn t4) r10.1), ()), (((w6 (t4 + (1 : Int))), ()), ()))) else none) | none => none) else none) else kx ((t0, ()), ((t3, ()), ((t4, ()), ())))) else none)
def ru90_3 (g164 : G164) (F : Nat) (s : ShVal sh90_3) (kx : ShVal sh90_3 → Option R90) : Option R90 := iter (fun s k => st90_3 g164 F s k kx) F s
abbrev ls90_3 (g164 : G164) (F : Nat) : LS R90 := ⟨sh90_3, 0, ru90_3 g164 F⟩
def fn90 (g164 : G164) (F : Nat) (x : Args [.v (.slice 147 term)]) : Option R90 :=
  match x with
  | (x0, _) => (bif decide ((List.length x0) ≤ 9223372036854775807) then (bif ((decide ((0 : Int) ≤ (Int.ofNat (List.length x0))) && decide ((Int.ofNat (List.length x0)) ≤ (1099511627776 : Int))) && decide ((Int.ofNat (List.length x0)) = (Int.ofNat (List.length x0)))) then (ru90_3 g164 F ((x0, ()), (((List.replicate (tn (Int.ofNat (List.length x0))) (Ty.dflt (.pair (.arr 3 (.int .u8)) (.pair (.int .i64) .unit)))), ()), (((0 : Int), ()), ()))) (fun s' => match s' with | ((t0, _), (t3, _), (t4, _), _) => (some (t3, ())))) else none) else none)
theorem ev90_3 (g164 : G164) (F : Nat) (s : ShVal sh90_3) (k kx : ShVal sh90_3 → Option R90) : evL TT (ct90 g164 ) kp90 [] (loopOf Tryz.f90 3) (envOf sh90_3 s) (fitK sh90_3 k) (fun j e => bif Nat.beq j 0 then fitK sh90_3 kx e else none) kr90 = st90_3 g164 F s k kx := by
  obtain ⟨⟨t0, _⟩, ⟨t3, _⟩, ⟨t4, _⟩, _⟩ := s
  kernel_rfl
theorem ok90_3 (g164 : G164) (F : Nat) (hK : KOK Tryz.prog (ct90 g164 )) : LSOK Tryz.prog ⟨23, false, undef⟩ (ls90_3 g164 F) (loopOf Tryz.f90 3) kr90 :=
  loop_ok (st90_3 g164 F) mixed tt_ok hK (by kernel_rfl) (LTOK_by (l := []) (by kernel_rfl) trivial) (ev90_3 g164 F)
theorem ev90 (g164 : G164) (F : Nat) (x : Args [.v (.slice 147 term)]) : fnK TT (ct90 g164 ) kp90 [(.slice 135 term)] [(3, ls90_3 g164 F)] (bodyOf Tryz.f90) [.tmp 2] [.v (.slice 147 term)] true false x = fn90 g164 F x := by
  obtain ⟨x0, _⟩ := x
  kernel_rfl
theorem ok90 (g164 : G164) (hK : KOK Tryz.prog (ct90 g164 )) (cf : G90) (h : ∀ x y, cf x = some y → ∃ F, fn90 g164 F x = some y) : KOne Tryz.prog 90 ⟨[.v (.slice 147 term)], [(.slice 135 term)], true, false, 0, cf⟩ :=
  fn_one rfl (c := bodyOf Tryz.f90) mixed tt_ok hK Tryz.func90 (by kernel_rfl) (by kernel_rfl) (Nat.le_of_ble_eq_true (by kernel_rfl)) (by decide) fun x y hxy => by
    obtain ⟨F, hF⟩ := h x y hxy
    exact ⟨[(3, ls90_3 g164 F)], LTOK_by (l := [loopOf Tryz.f90 3]) (by kernel_rfl) ⟨ls_at (by kernel_rfl) (ok90_3 g164 F hK), trivial⟩, (ev90 g164 F x).trans hF⟩
abbrev R27 : Type := Ress [poly]
abbrev G27 : Type := Args [.v lpoly] → Option R27
abbrev kp27 : List (Nat × List Nat) := [(0, [1, 2]), (1, [1, 3, 2]), (2, [1, 3, 2]), (3, [1, 3, 2]), (4, [3, 2]), (5, [2])]
abbrev ct27 (g90 : G90) : CTab := [(90, ⟨[.v (.slice 147 term)], [(.slice 135 term)], true, false, 0, g90⟩)]
def fn27 (g90 : G90) (F : Nat) (x : Args [.v lpoly]) : Option R27 :=
  match x with
  | (x0, _) => (match (g90 (x0.2.2.1, ())) with | some r7 => (some ((x0.1, (x0.2.1, (r7.1, ()))), ())) | none => none)
theorem ev27 (g90 : G90) (F : Nat) (x : Args [.v lpoly]) : fnK TT (ct27 g90 ) kp27 [poly] [] (bodyOf Tryz.f27) [.cell 2 34] [.v lpoly] true false x = fn27 g90 F x := by
  obtain ⟨x0, _⟩ := x
  kernel_rfl
theorem ok27 (g90 : G90) (hK : KOK Tryz.prog (ct27 g90 )) (cf : G27) (h : ∀ x y, cf x = some y → ∃ F, fn27 g90 F x = some y) : KOne Tryz.prog 27 ⟨[.v lpoly], [poly], true, false, 0, cf⟩ :=
  fn_one rfl (c := bodyOf Tryz.f27) mixed tt_ok hK Tryz.func27 (by kernel_rfl) (by kernel_rfl) (Nat.le_of_ble_eq_true (by kernel_rfl)) (by decide) fun x y hxy => by
    obtain ⟨F, hF⟩ := h x y hxy
    exact ⟨[], LTOK_by (l := []) (by kernel_rfl) trivial, (ev27 g90 F x).trans hF⟩
abbrev R26 : Type := Ress [(.slice 34 poly)]
abbrev G26 : Type := Args [.v (.slice 25 lpoly)] → Option R26
abbrev kp26 : List (Nat × List Nat) := [(0, [0]), (1, [0, 3]), (2, [4, 0, 3]), (3, [11, 4, 0, 3]), (5, [4, 0, 3]), (4, [4, 0, 3]), (6, [2])]
abbrev ct26 (g27 : G27) : CTab := [(27, ⟨[.v lpoly], [poly], true, false, 0, g27⟩)]
abbrev kr26 : Env → Option R26 := endK TT [.tmp 2] [(.slice 34 poly)] true false
abbrev sh26_3 : Shape := [(0, .val false [.fz (.slice 25 lpoly) 0 true]), (3, vr 34 poly 49 false), (4, vv i64)]
def st26_3 (g27 : G27) (F : Nat) (s : ShVal sh26_3) (k kx : ShVal sh26_3 → Option R26) : Option R26 :=
  match s with
  | ((t0, _), (t3, _), (t4, _), _) => (bif decide ((List.length t0) ≤ 9223372036854775807) then (bif decide (t4 < (Int.ofNat (List.length t0))) then (bif ib t4 (Int.ofNat (List.length t0)) then (match (g27 ((List.getD t0 (tn t4) (Ty.dflt (.pair (.int .i64) (.pair (.int .i64) (.pair (.slice 147 (.pair (.arr 3 (.int .u8)) (.pair (.int .i64) .unit))) .unit))))), ())) with | some r10 => (bif ib t4 (Int.ofNat (List.length t3)) then k ((t0, ()), (((List.set t3 (tn t4) (r10.1.1, (r10.1.2.1, (r10.1.2.2.1, ())))), ()), (((w6 (t4 + (1 : Int))), ()), ()))) else none) | none => none) else none) else kx ((t0, ()), ((t3, ()), ((t4, ()), ())))) else none)
def ru26_3 (g27 : G27) (F : Nat) (s : ShVal sh26_3) (kx : ShVal sh26_3 → Option R26) : Option R26 := iter (fun s k => st26_3 g27 F s k kx) F s
abbrev ls26_3 (g27 : G27) (F : Nat) : LS R26 := ⟨sh26_3, 0, ru26_3 g27 F⟩
def fn26 (g27 : G27) (F : Nat) (x : Args [.v (.slice 25 lpoly)]) : Option R26 :=
  match x with
  | (x0, _) => (bif decide ((List.length x0) ≤ 9223372036854775807) then (bif ((decide ((0 : Int) ≤ (Int.ofNat (List.length x0))) && decide ((Int.ofNat (List.length x0)) ≤ (1099511627776 : Int))) && decide ((Int.ofNat (List.length x0)) = (Int.ofNat (List.length x0)))) then (ru26_3 g27 F ((x0, ()), (((List.replicate (tn (Int.ofNat (List.length x0))) (Ty.dflt (.pair (.int .i64) (.pair (.int .i64) (.pair (.slice 135 (.pair (.arr 3 (.int .u8)) (.pair (.int .i64) .unit))) .unit))))), ()), (((0 : Int), ()), ()))) (fun s' => match s' with | ((t0, _), (t3, _), (t4, _), _) => (some (t3, ())))) else none) else none)
theorem ev26_3 (g27 : G27) (F : Nat) (s : ShVal sh26_3) (k kx : ShVal sh26_3 → Option R26) : evL TT (ct26 g27 ) kp26 [] (loopOf Tryz.f26 3) (envOf sh26_3 s) (fitK sh26_3 k) (fun j e => bif Nat.beq j 0 then fitK sh26_3 kx e else none) kr26 = st26_3 g27 F s k kx := by
  obtain ⟨⟨t0, _⟩, ⟨t3, _⟩, ⟨t4, _⟩, _⟩ := s
  kernel_rfl
theorem ok26_3 (g27 : G27) (F : Nat) (hK : KOK Tryz.prog (ct26 g27 )) : LSOK Tryz.prog ⟨23, false, undef⟩ (ls26_3 g27 F) (loopOf Tryz.f26 3) kr26 :=
  loop_ok (st26_3 g27 F) mixed tt_ok hK (by kernel_rfl) (LTOK_by (l := []) (by kernel_rfl) trivial) (ev26_3 g27 F)
theorem ev26 (g27 : G27) (F : Nat) (x : Args [.v (.slice 25 lpoly)]) : fnK TT (ct26 g27 ) kp26 [(.slice 34 poly)] [(3, ls26_3 g27 F)] (bodyOf Tryz.f26) [.tmp 2] [.v (.slice 25 lpoly)] true false x = fn26 g27 F x := by
  obtain ⟨x0, _⟩ := x
  kernel_rfl
theorem ok26 (g27 : G27) (hK : KOK Tryz.prog (ct26 g27 )) (cf : G26) (h : ∀ x y, cf x = some y → ∃ F, fn26 g27 F x = some y) : KOne Tryz.prog 26 ⟨[.v (.slice 25 lpoly)], [(.slice 34 poly)], true, false, 0, cf⟩ :=
  fn_one rfl (c := bodyOf Tryz.f26) mixed tt_ok hK Tryz.func26 (by kernel_rfl) (by kernel_rfl) (Nat.le_of_ble_eq_true (by kernel_rfl)) (by decide) fun x y hxy => by
    obtain ⟨F, hF⟩ := h x y hxy
    exact ⟨[(3, ls26_3 g27 F)], LTOK_by (l := [loopOf Tryz.f26 3]) (by kernel_rfl) ⟨ls_at (by kernel_rfl) (ok26_3 g27 F hK), trivial⟩, (ev26 g27 F x).trans hF⟩
abbrev R29 : Type := Ress [.bool]
abbrev G29 : Type := Args [.v (.slice 34 poly), .v (.slice 34 poly)] → Option R29
abbrev kp29 : List (Nat × List Nat) := [(0, [0, 1]), (1, [10, 0, 1]), (2, [4]), (3, [5, 1, 0]), (4, [14, 0, 1, 5]), (6, [26, 0, 1, 5]), (7, [4]), (5, [5, 1, 0]), (8, [4])]
abbrev ct29 (g30 : G30) : CTab := [(30, ⟨[.v poly, .v poly], [.bool], false, false, 0, g30⟩)]
abbrev kr29 : Env → Option R29 := endK TT [.tmp 4] [.bool] false false
abbrev sh29_4 : Shape := [(0, .val false [.fz (.slice 34 poly) 0 true]), (1, .val false [.fz (.slice 34 poly) 0 true]), (5, vv i64)]
def st29_4 (g30 : G30) (F : Nat) (s : ShVal sh29_4) (k kx : ShVal sh29_4 → Option R29) : Option R29 :=
  match s with
  | ((t0, _), (t1, _), (t5, _), _) => (bif decide ((List.length t0) ≤ 9223372036854775807) then (bif decide (t5 < (Int.ofNat (List.length t0))) then (bif ib t5 (Int.ofNat (List.length t0)) then (bif ib t5 (Int.ofNat (List.length t1)) then (match (g30 ((List.getD t0 (tn t5) (Ty.dflt (.pair (.int .i64) (.pair (.int .i64) (.pair (.slice 135 (.pair (.arr 3 (.int .u8)) (.pair (.int .i64) .unit))) .unit))))), ((List.getD t1 (tn t5) (Ty.dflt (.pair (.int .i64) (.pair (.int .i64) (.pair (.slice 135 (.pair (.arr 3 (.int .u8)) (.pair (.int .i64) .unit))) .unit))))), ()))) with | some r11 => (bif (!r11.1) then (some (false, ())) else k ((t0, ()), ((t1, ()), (((w6 (t5 + (1 : Int))), ()), ())))) | none => none) else none) else none) else kx ((t0, ()), ((t1, ()), ((t5, ()), ())))) else none)
def ru29_4 (g30 : G30) (F : Nat) (s : ShVal sh29_4) (kx : ShVal sh29_4 → Option R29) : Option R29 := iter (fun s k => st29_4 g30 F s k kx) F s
abbrev ls29_4 (g30 : G30) (F : Nat) : LS R29 := ⟨sh29_4, 0, ru29_4 g30 F⟩
def fn29 (g30 : G30) (F : Nat) (x : Args [.v (.slice 34 poly), .v (.slice 34 poly)]) : Option R29 :=
  match x with
  | (x0, x1, _) => (bif decide ((List.length x0) ≤ 9223372036854775807) then (bif decide ((List.length x1) ≤ 9223372036854775807) then (bif (!decide ((Int.ofNat (List.length x0)) = (Int.ofNat (List.length x1)))) then (some (false, ())) else (ru29_4 g30 F ((x0, ()), ((x1, ()), (((0 : Int), ()), ()))) (fun s' => match s' with | ((t0, _), (t1, _), (t5, _), _) => (some (true, ()))))) else none) else none)
theorem ev29_4 (g30 : G30) (F : Nat) (s : ShVal sh29_4) (k kx : ShVal sh29_4 → Option R29) : evL TT (ct29 g30 ) kp29 [] (loopOf Tryz.f29 4) (envOf sh29_4 s) (fitK sh29_4 k) (fun j e => bif Nat.beq j 0 then fitK sh29_4 kx e else none) kr29 = st29_4 g30 F s k kx := by
  obtain ⟨⟨t0, _⟩, ⟨t1, _⟩, ⟨t5, _⟩, _⟩ := s
  kernel_rfl
theorem ok29_4 (g30 : G30) (F : Nat) (hK : KOK Tryz.prog (ct29 g30 )) : LSOK Tryz.prog ⟨27, false, undef⟩ (ls29_4 g30 F) (loopOf Tryz.f29 4) kr29 :=
  loop_ok (st29_4 g30 F) mixed tt_ok hK (by kernel_rfl) (LTOK_by (l := []) (by kernel_rfl) trivial) (ev29_4 g30 F)
theorem ev29 (g30 : G30) (F : Nat) (x : Args [.v (.slice 34 poly), .v (.slice 34 poly)]) : fnK TT (ct29 g30 ) kp29 [.bool] [(4, ls29_4 g30 F)] (bodyOf Tryz.f29) [.tmp 4] [.v (.slice 34 poly), .v (.slice 34 poly)] false false x = fn29 g30 F x := by
  obtain ⟨x0, x1, _⟩ := x
  kernel_rfl
theorem ok29 (g30 : G30) (hK : KOK Tryz.prog (ct29 g30 )) (cf : G29) (h : ∀ x y, cf x = some y → ∃ F, fn29 g30 F x = some y) : KOne Tryz.prog 29 ⟨[.v (.slice 34 poly), .v (.slice 34 poly)], [.bool], false, false, 0, cf⟩ :=
  fn_one rfl (c := bodyOf Tryz.f29) mixed tt_ok hK Tryz.func29 (by kernel_rfl) (by kernel_rfl) (Nat.le_of_ble_eq_true (by kernel_rfl)) (by decide) fun x y hxy => by
    obtain ⟨F, hF⟩ := h x y hxy
    exact ⟨[(4, ls29_4 g30 F)], LTOK_by (l := [loopOf Tryz.f29 4]) (by kernel_rfl) ⟨ls_at (by kernel_rfl) (ok29_4 g30 F hK), trivial⟩, (ev29 g30 F x).trans hF⟩
theorem RdL.app {α : Type} {R : α → List Value → List Nat → Prop} {n : Nat} : ∀ {l1 l2 : List α} {cs : List Value} {bs : List Nat}, RdL R n (l1 ++ l2) cs bs → ∃ b1 b2, RdL R n l1 cs b1 ∧ RdL R n l2 (cs.drop (l1.length * n)) b2 ∧ bs = b1 ++ b2
  | [], l2, cs, bs, h => ⟨[], bs, rfl, by simpa using h, rfl⟩
  | x :: l1, l2, cs, bs, ⟨b1, b2, h1, h2, h3⟩ => by
    obtain ⟨c1, c2, q1, q2, q3⟩ := RdL.app h2
    refine ⟨b1 ++ c1, c2, ⟨b1, c1, h1, q1, rfl⟩, ?_, by rw [h3, q3, List.append_assoc]⟩
    rw [List.drop_drop] at q2
    rw [List.length_cons, Nat.succ_mul, Nat.add_comm]; exact q2
theorem RdL.join {α : Type} {R : α → List Value → List Nat → Prop} {n : Nat} : ∀ {l1 l2 : List α} {cs : List Value} {b1 b2 : List Nat}, RdL R n l1 cs b1 → RdL R n l2 (cs.drop (l1.length * n)) b2 → RdL R n (l1 ++ l2) cs (b1 ++ b2)
  | [], l2, cs, b1, b2, h1, h2 => by have h1 : b1 = [] := h1; subst h1; simpa using h2
  | x :: l1, l2, cs, b1, b2, ⟨c1, c2, q1, q2, q3⟩, h2 => by
    rw [q3, List.append_assoc]
    refine ⟨c1, c2 ++ b2, q1, RdL.join q2 ?_, rfl⟩
    rw [List.drop_drop]
    rw [List.length_cons, Nat.succ_mul, Nat.add_comm] at h2; exact h2
section
variable {P : Program} {T : TTab} {K : CTab}
structure Nst (w0 : World) (ba : List Nat) (e : TypeId) (u : Ty) (hd : Value) (L : List u.den) (w : World) : Prop where
  rd : ∃ blk bs, SlR w.heap e u.size (Rd w.heap u) L hd blk bs ∧ (blk.toList ++ bs).Nodup ∧ ∀ z ∈ blk.toList ++ bs, z ∈ ba
  os : w.os = w0.os
  tp : Tp w w0
  out : w.output = w0.output
  size : w0.heap.size ≤ w.heap.size
  old : ∀ b, b < w0.heap.size → b ∉ ba → w.heap[b]? = w0.heap[b]?
  wr : ∀ b ∈ ba, ∃ c e, w.heap[b]? = some (.cells c e (0, 0))
  lt : ∀ b ∈ ba, b < w0.heap.size
theorem Nst.ext {w0 w w' : World} {ba : List Nat} {e : TypeId} {u : Ty} {hd : Value} {L : List u.den} (h : Nst w0 ba e u hd L w) (os : w'.os = w.os) (tp : Tp w' w) (out : w'.output = w.output) (size : w.heap.size ≤ w'.heap.size)
    (old : ∀ b, b < w.heap.size → w'.heap[b]? = w.heap[b]?) : Nst w0 ba e u hd L w' where
  rd := by
    obtain ⟨blk, bs, h1, h2, h3⟩ := h.rd
    have lt : ∀ z ∈ blk.toList ++ bs, z < w.heap.size := fun z hz => Nat.lt_of_lt_of_le (h.lt z (h3 z hz)) h.size
    exact ⟨blk, bs, h1.frame (fun b hb => old b (lt b (List.mem_append_right _ hb))) (fun b hb => old b (lt b (by simp [hb]))), h2, h3⟩
  os := os.trans h.os
  tp := tp.trans h.tp
  out := out.trans h.out
  size := Nat.le_trans h.size size
  old := fun b hb hn => (old b (Nat.lt_of_lt_of_le hb h.size)).trans (h.old b hb hn)
  wr := fun b hb => by rw [old b (Nat.lt_of_lt_of_le (h.lt b hb) h.size)]; exact h.wr b hb
  lt := h.lt
theorem Nst.elem {w0 w : World} {ba : List Nat} {e : TypeId} {u : Ty} {hd : Value} {pre suf : List u.den} {x : u.den} (h : Nst w0 ba e u hd (pre ++ x :: suf) w) (hu : u.size ≠ 0) :
    ∃ b o cap c e' be, hd = .slice (some ⟨b, o, none⟩) (pre ++ x :: suf).length cap ∧ w.heap[b]? = some (.cells c e' (0, 0)) ∧ o + pre.length * u.size + u.size ≤ c.size ∧
      Rd w.heap u x ((c.toList.drop (o + pre.length * u.size)).take u.size) be ∧ be.Nodup ∧ (∀ z ∈ be, z ∈ ba) ∧ b ∉ be ∧ b ∈ ba ∧
      ∀ (w' : World) (x' : u.den) (c' : Array Value) (bz : List Nat), w'.heap[b]? = some (.cells c' e' (0, 0)) → c'.size = c.size → (∀ j, j < o + pre.length * u.size ∨ o + pre.length * u.size + u.size ≤ j → c'[j]? = c[j]?) →
        Rd w'.heap u x' ((c'.toList.drop (o + pre.length * u.size)).take u.size) bz → bz.Nodup → (∀ z ∈ bz, z ∈ be) → w'.os = w.os → Tp w' w → w'.output = w.output → w.heap.size ≤ w'.heap.size →
        (∀ z, z < w.heap.size → z ∉ be → z ≠ b → w'.heap[z]? = w.heap[z]?) → (∀ z ∈ be, ∃ c e, w'.heap[z]? = some (.cells c e (0, 0))) → Nst w0 ba e u hd (pre ++ x' :: suf) w' := by
  obtain ⟨blk, bs, h1, h2, h3⟩ := h.rd
  rcases h1 with ⟨_, _, q, _⟩ | ⟨b, o, cap, c, fr, r1, r2, ⟨r3, r3'⟩, ⟨e', r4⟩, r5, r6⟩
  · cases pre <;> cases q
  · subst r2
    have hb : b ∈ ba := h3 b (by simp)
    have hfr : fr = (0, 0) := by
      obtain ⟨c1, e1, k⟩ := h.wr b hb
      rw [r4] at k; injection k with k; injection k with _ _ k
    subst hfr
    obtain ⟨b1, b2', s1, s2, s3⟩ := r6.app
    obtain ⟨be, b2, s4, s5, s6⟩ := s2
    rw [List.drop_drop] at s4
    rw [List.drop_drop, List.drop_drop] at s5
    subst s6; subst s3
    have nd := h2
    simp only [Option.toList_some, List.singleton_append, List.nodup_cons, List.mem_append, List.nodup_append, not_or] at nd
    obtain ⟨⟨n1, n2, n3⟩, n4, ⟨n5, n6, n7⟩, n8⟩ := nd
    have hlen : (pre ++ x :: suf).length = pre.length + 1 + suf.length := by simp; omega
    have hmul : (pre.length + 1) * u.size ≤ cap * u.size := Nat.mul_le_mul_right _ (by omega)
    have hsm : (pre.length + 1) * u.size = pre.length * u.size + u.size := Nat.succ_mul _ _
    refine ⟨b, o, cap, c, e', be, r1, r4, by omega, s4, n5, fun z hz => h3 z (by simp [hz]), n2, hb, ?_⟩
    intro w' x' c' bz t1 t2 t3 t4 t5 t6 t7 t8 t9 t10 t11 t12
    have ltA : ∀ z ∈ ba, z < w.heap.size := fun z hz => Nat.lt_of_lt_of_le (h.lt z hz) h.size
    have f1 : ∀ z ∈ b1, w'.heap[z]? = w.heap[z]? := fun z hz => t11 z (ltA z (h3 z (by simp [hz]))) (fun q => n8 z hz z (.inl q) rfl) (fun q => n1 (q ▸ hz))
    have f2 : ∀ z ∈ b2, w'.heap[z]? = w.heap[z]? := fun z hz => t11 z (ltA z (h3 z (by simp [hz]))) (fun q => n7 z q z hz rfl) (fun q => n3 (q ▸ hz))
    have g1 : RdL (Rd w'.heap u) u.size pre (c'.toList.drop o) b1 :=
      (s1.mono fun x cs b hm hr => hr.frame fun y hy => f1 y (hm y hy)).take fun j hj => by
        rw [List.getElem?_drop, List.getElem?_drop, Array.getElem?_toList, Array.getElem?_toList]; exact t3 _ (.inl (by omega))
    have g2 : RdL (Rd w'.heap u) u.size suf (c'.toList.drop (o + (pre.length * u.size + u.size))) b2 :=
      (s5.mono fun x cs b hm hr => hr.frame fun y hy => f2 y (hm y hy)).take fun j hj => by
        rw [List.getElem?_drop, List.getElem?_drop, Array.getElem?_toList, Array.getElem?_toList]; exact t3 _ (.inr (by omega))
    have g3 : RdL (Rd w'.heap u) u.size (pre ++ x' :: suf) (c'.toList.drop o) (b1 ++ (bz ++ b2)) := by
      refine RdL.join g1 ⟨bz, b2, ?_, ?_, rfl⟩
      · rw [List.drop_drop]; exact t4
      · rw [List.drop_drop, List.drop_drop]; exact g2
    refine ⟨⟨some b, b1 ++ (bz ++ b2), .inr ⟨b, o, cap, c', (0, 0), by rw [r1]; simp, rfl, ⟨by rw [hlen] at r3; simp; omega, r3'⟩, ⟨e', t1⟩, by omega, g3⟩, ?_, ?_⟩, t7.trans h.os, t8.trans h.tp, t9.trans h.out, Nat.le_trans h.size t10, ?_, ?_, h.lt⟩
    · simp only [Option.toList_some, List.singleton_append, List.nodup_cons, List.mem_append, List.nodup_append, not_or]
      refine ⟨⟨n1, fun q => n2 (t6 b q), n3⟩, n4, ⟨t5, n6, fun a ha b hb => n7 a (t6 a ha) b hb⟩, fun a ha b hb => ?_⟩
      rcases hb with q | q
      · exact n8 a ha b (.inl (t6 b q))
      · exact n8 a ha b (.inr q)
    · intro z hz
      simp only [Option.toList_some, List.singleton_append, List.mem_cons, List.mem_append] at hz
      rcases hz with rfl | q | q | q
      · exact hb
      · exact h3 z (by simp [q])
      · exact h3 z (by simp [t6 z q])
      · exact h3 z (by simp [q])
    · intro z hz hn
      rw [t11 z (Nat.lt_of_lt_of_le hz h.size) (fun q => hn (h3 z (by simp [q]))) (fun q => hn (q ▸ hb))]
      exact h.old z hz hn
    · intro z hz
      by_cases q1 : z ∈ be
      · exact t12 z q1
      · by_cases q2 : z = b
        · subst q2; exact ⟨_, _, t1⟩
        · rw [t11 z (ltA z hz) q1 q2]; exact h.wr z hz
structure AtV (n : Nat) (f : Nat → Value) (a : Act) : Prop where
  sz : a.tmps.size = n
  df : a.defers = []
  at_ : ∀ s, a.tmps.getD s undef = f s
def updV (f : Nat → Value) (d : Nat) (v : Value) : Nat → Value := fun s => if s = d then v else f s
theorem AtV.put {n d : Nat} {f : Nat → Value} {a : Act} (h : AtV n f a) (hd : d < n) (v : Value) : AtV n (updV f d v) (a.put (some d) v) where
  sz := by simp [Act.put, h.sz]
  df := h.df
  at_ := fun s => by rw [put_getD (by rw [h.sz]; exact hd), h.at_]; rfl
theorem AtV.ev {n s : Nat} {f : Nat → Value} {a : Act} (h : AtV n f a) : a.eval (.tmp s) = f s := h.at_ s
end
abbrev rows : Ty := .slice 44 (.slice 2 i64)
abbrev G19h : Type := Args [.v (.slice 2 i64), .v i64] → Option (Ress [.slice 2 i64, i64])
abbrev G70h : Type := Args [.v (.slice 135 term), .v i64] → Option (Ress [.slice 135 term, i64])
section
variable {w0 : World} {ba : List Nat} {hd : Value} {g : G70h} {N : Nat} {y : List poly.den × Int}
end
abbrev Po : Type := poly.den
def tms (x : Po) : List term.den := x.2.2.1
def cf181 : G220 := fun x => some (x.1, ())
theorem k181 : KOne Tryz.prog 220 ⟨[.v ex], [ex], false, false, 0, cf181⟩ := ok220 .nil cf181 fun x y h => by
  obtain ⟨⟨a, b, c, u⟩, _⟩ := x
  injection h with h; subst h
  exact ⟨5, rfl⟩
def cf168 : G164 := fun x => some (x.1, ())
theorem k168 : KOne Tryz.prog 164 ⟨[.v lterm], [term], false, false, 0, cf168⟩ := ok164 _ (.cons k181 .nil) cf168 fun x y h => by
  obtain ⟨⟨a, b, u⟩, _⟩ := x
  injection h with h; subst h
  exact ⟨0, rfl⟩
theorem copy_setG {α : Type} {l : List α} {i : Nat} {d d' : α} (h : i < l.length) : (l.take i ++ List.replicate (l.length - i) d).set i (l.getD i d') = l.take (i + 1) ++ List.replicate (l.length - (i + 1)) d := by
  apply List.ext_getElem?
  intro j
  rw [List.getElem?_set]
  have hl : (l.take i).length = i := by simp; omega
  have hl2 : (l.take (i + 1)).length = i + 1 := by simp; omega
  by_cases q : i = j
  · subst q
    rw [if_pos rfl, if_pos (by simp; omega), List.getElem?_append_left (by omega), List.getElem?_take_of_lt (by omega), List.getD_eq_getElem?_getD, List.getElem?_eq_getElem h]; rfl
  · rw [if_neg q]
    rcases Nat.lt_or_ge j i with z | z
    · rw [List.getElem?_append_left (by omega), List.getElem?_append_left (by omega), List.getElem?_take_of_lt z, List.getElem?_take_of_lt (by omega)]
    · rw [List.getElem?_append_right (by omega), List.getElem?_append_right (by omega), hl, hl2, List.getElem?_replicate, List.getElem?_replicate]
      by_cases y : j < l.length
      · rw [if_pos (by omega), if_pos (by omega)]
      · rw [if_neg (by omega), if_neg (by omega)]
def cf136 : G90 := fun x => if (show List term.den from x.1).length ≤ 2000000 then some (x.1, ()) else none
theorem k136 : KOne Tryz.prog 90 ⟨[.v (.slice 147 lterm)], [.slice 135 term], true, false, 0, cf136⟩ := ok90 _ (.cons k168 .nil) cf136 fun x y h => by
  obtain ⟨l, _⟩ := x
  change List term.den at l
  simp only [cf136] at h
  split at h
  · rename_i hc
    injection h with h; subst h
    refine ⟨l.length + 1, ?_⟩
    simp only [fn90]
    rw [dln_t (by omega)]
    simp only [cond_true, ofn]
    rw [dle_t (by omega), dle_t (by omega)]
    simp only [decide_true, Bool.and_self, cond_true, tn_cast, ru90_3]
    refine iter_run (step := fun s k => st90_3 cf168 (l.length + 1) s k (fun s' => match s' with | ((t0, _), (t3, _), (t4, _), _) => (some (t3, ())))) (r := some (l, ())) l.length (l.length + 1) (fun i => ((l, ()), ((l.take i ++ List.replicate (l.length - i) (Ty.dflt term), ()), ((i : Int), ()), ()))) (by omega) (fun i hi k => ?_) (fun k => ?_)
    · have h1 : (l.take i ++ List.replicate (l.length - i) (Ty.dflt term)).length = l.length := by simp; omega
      have h2 := fun d' => copy_setG (d := Ty.dflt term) (d' := d') hi
      generalize hL : l.take i ++ List.replicate (l.length - i) (Ty.dflt term) = L at *
      simp (disch := omega) only [st90_3, dln_t, cond_true, ofn, dlt_t, ib_t, tn_cast, w6_id, cf168, h2]
      rfl
    · have h1 : l.take l.length ++ List.replicate (l.length - l.length) (Ty.dflt term) = l := by simp
      rw [h1]
      simp (disch := omega) only [st90_3, dln_t, cond_true, ofn, dlt_f, cond_false]
  · cases h
def cf66 : G27 := fun x => if (show List term.den from x.1.2.2.1).length ≤ 2000000 then some (x.1, ()) else none
theorem k66 : KOne Tryz.prog 27 ⟨[.v lpoly], [poly], true, false, 0, cf66⟩ := ok27 _ (.cons k136 .nil) cf66 fun x y h => by
  obtain ⟨⟨p, v, l, u⟩, _⟩ := x
  simp only [cf66] at h
  split at h
  · rename_i hc
    injection h with h; subst h
    refine ⟨0, ?_⟩
    have g : cf136 (l, ()) = some (l, ()) := if_pos hc
    simp only [fn27, g]
  · cases h
def smallP (L : List Po) : Prop := L.length ≤ 2000000 ∧ ∀ x ∈ L, (tms x).length ≤ 2000000
open Classical in
noncomputable def cf23 : G26 := fun x => if smallP x.1 then some (x.1, ()) else none
theorem k23 : KOne Tryz.prog 26 ⟨[.v (.slice 25 lpoly)], [.slice 34 poly], true, false, 0, cf23⟩ := ok26 _ (.cons k66 .nil) cf23 fun x y h => by
  obtain ⟨l, _⟩ := x
  change List Po at l
  simp only [cf23] at h
  split at h
  · rename_i hc
    injection h with h; subst h
    obtain ⟨hc, hx⟩ := hc
    have hc : l.length ≤ 2000000 := hc
    refine ⟨l.length + 1, ?_⟩
    simp only [fn26]
    rw [dln_t (by omega)]
    simp only [cond_true, ofn]
    rw [dle_t (by omega), dle_t (by omega)]
    simp only [decide_true, Bool.and_self, cond_true, tn_cast, ru26_3]
    refine iter_run (step := fun s k => st26_3 cf66 (l.length + 1) s k (fun s' => match s' with | ((t0, _), (t3, _), (t4, _), _) => (some (t3, ())))) (r := some (l, ())) l.length (l.length + 1) (fun i => ((l, ()), ((l.take i ++ List.replicate (l.length - i) (Ty.dflt poly), ()), ((i : Int), ()), ()))) (by omega) (fun i hi k => ?_) (fun k => ?_)
    · have h1 : (l.take i ++ List.replicate (l.length - i) (Ty.dflt poly)).length = l.length := by simp; omega
      have h2 := fun d' => copy_setG (d := Ty.dflt poly) (d' := d') hi
      have g : ∀ d', cf66 (l.getD i d', ()) = some (l.getD i d', ()) := fun d' => if_pos (hx _ (by rw [List.getD_eq_getElem?_getD, List.getElem?_eq_getElem hi]; exact List.getElem_mem hi))
      generalize hL : l.take i ++ List.replicate (l.length - i) (Ty.dflt poly) = L at *
      simp (disch := omega) only [st26_3, dln_t, cond_true, ofn, dlt_t, ib_t, tn_cast, w6_id]
      show (match cf66 (l.getD i (Ty.dflt lpoly), ()) with | some r10 => _ | none => none) = _
      rw [g]
      show k ((l, ()), ((L.set i (l.getD i (Ty.dflt lpoly)), ()), (((i : Int) + 1), ()), ())) = _
      rw [h2]
      rfl
    · have h1 : l.take l.length ++ List.replicate (l.length - l.length) (Ty.dflt poly) = l := by simp
      rw [h1]
      simp (disch := omega) only [st26_3, dln_t, cond_true, ofn, dlt_f, cond_false]
  · cases h
theorem g23_ok {L : List Po} (h : smallP L) : cf23 (L, ()) = some (L, ()) := if_pos h
def cf134 : G80 := fun x => if (show List term.den from x.1).length ≤ 9223372036854775807 ∧ 0 ≤ x.2.1 ∧ x.2.1 ≤ (1048576 : Int) then some (if x.2.1 - ((show List term.den from x.1).length : Int) < 0 then -1 else x.2.1 - ((show List term.den from x.1).length : Int), ()) else none
theorem k134 : KOne Tryz.prog 80 ⟨[.v (.slice 147 lterm), .v i64], [i64], false, false, 0, cf134⟩ := ok80 .nil cf134 fun x y h => by
  obtain ⟨l, k, _⟩ := x
  change List term.den at l
  change Int at k
  simp only [cf134] at h
  split at h
  · rename_i hc
    injection h with h; subst h
    obtain ⟨h1, h2, h3⟩ := hc
    have h2 : (0 : Int) ≤ k := h2
    have h3 : k ≤ (1048576 : Int) := h3
    refine ⟨0, ?_⟩
    simp only [fn80]
    rw [dln_t h1, cond_true]
    have hw := w6_id (x := k - (l.length : Int)) (by omega) (by omega)
    simp only [ofn, hw]
    by_cases q : k - (l.length : Int) < 0
    · rw [dlt_t q, if_pos q]; rfl
    · rw [dlt_f (by omega), if_neg q]; rfl
  · cases h
def cf63 : G24 := fun x => cf134 (x.1.2.2.1, x.2.1, ())
theorem k63 : KOne Tryz.prog 24 ⟨[.v lpoly, .v i64], [i64], false, false, 0, cf63⟩ := ok24 _ (.cons k134 .nil) cf63 fun x y h => by
  obtain ⟨⟨p, v, l, u⟩, k, _⟩ := x
  change List term.den at l
  change Int at k
  have h' : cf134 (l, k, ()) = some y := h
  refine ⟨0, ?_⟩
  show (match cf134 (l, k, ()) with | some r5 => (bif decide (r5.1 < (0 : Int)) then (some ((-(1 : Int)), ())) else (some (r5.1, ()))) | none => none) = _
  rw [h']
  simp only [cf134] at h'
  split at h'
  · injection h' with h'; subst h'
    by_cases q : k - (l.length : Int) < 0
    · rw [if_pos q]; rfl
    · rw [if_neg q]
      show (bif decide (k - (l.length : Int) < 0) then _ else _) = _
      rw [dlt_f (by omega)]; rfl
  · cases h'
def szR (k : Int) : List Po → Int
  | [] => k
  | x :: r => if k - ((tms x).length : Int) < 0 then -1 else szR (k - ((tms x).length : Int)) r
def totT : List Po → Nat
  | [] => 0
  | x :: r => (tms x).length + totT r
theorem szR_tot : ∀ {L : List Po} {k : Int}, 0 ≤ szR k L → (totT L : Int) ≤ k
  | [], k, h => by simp only [szR] at h; simpa [totT] using h
  | x :: r, k, h => by
    simp only [szR] at h
    split at h
    · omega
    · have := szR_tot h
      simp only [totT]; omega
theorem tot_mem : ∀ {L : List Po} {x : Po}, x ∈ L → (tms x).length ≤ totT L
  | y :: r, x, h => by
    simp only [totT]
    rcases List.mem_cons.1 h with rfl | h
    · omega
    · have := tot_mem h; omega
theorem run21 {F0 : Nat} : ∀ (r pre : List Po) (k : Int) (F : Nat), r.length < F → (pre ++ r).length ≤ 2000000 → (∀ x ∈ r, (tms x).length ≤ 9223372036854775807) → 0 ≤ k → k ≤ 1048576 →
    iter (fun s k => st23_5 cf63 F0 s k (fun s' => match s' with | ((t0, _), (t1, _), (t5, _), _) => (some (t1, ())))) F ((pre ++ r, ()), ((k, ()), (((pre.length : Int), ()), ()))) = some (szR k r, ())
  | [], pre, k, F, hF, hl, hx, h0, h1 => by
    obtain ⟨F, rfl⟩ : ∃ f, F = f + 1 := ⟨F - 1, by simp at hF; omega⟩
    rw [List.append_nil] at hl ⊢
    simp only [iter, st23_5]
    simp (disch := omega) only [dln_t, cond_true, ofn, dlt_f, cond_false]
    rfl
  | x :: r, pre, k, F, hF, hl, hx, h0, h1 => by
    obtain ⟨F, rfl⟩ : ∃ f, F = f + 1 := ⟨F - 1, by simp at hF; omega⟩
    have l1 : pre.length < (pre ++ x :: r).length := by simp
    have g1 : ∀ dd, (pre ++ x :: r).getD pre.length dd = x := fun dd => by rw [List.getD_eq_getElem?_getD, List.getElem?_append_right (Nat.le_refl _)]; simp
    have hx0 := hx x (.head _)
    have g : cf63 (x, k, ()) = some (if k - ((tms x).length : Int) < 0 then -1 else k - ((tms x).length : Int), ()) := if_pos ⟨hx0, h0, h1⟩
    simp only [iter, st23_5]
    simp (disch := omega) only [dln_t, cond_true, ofn, dlt_t, ib_t, tn_cast, w6_id]
    show (match cf63 ((pre ++ x :: r).getD pre.length (Ty.dflt lpoly), k, ()) with | some r12 => _ | none => none) = _
    rw [g1, g]
    simp only [szR]
    by_cases q : k - ((tms x).length : Int) < 0
    · rw [if_pos q, if_pos q]; rfl
    · rw [if_neg q, if_neg q]
      show (bif decide (k - ((tms x).length : Int) < 0) then _ else _) = _
      rw [dlt_f (by omega), cond_false]
      have ih := run21 (F0 := F0) r (pre ++ [x]) (k - ((tms x).length : Int)) F (by simp at hF; omega) (by simpa using hl) (fun z hz => hx z (.tail _ hz)) (by omega) (by omega)
      simp only [List.append_assoc, List.singleton_append, List.length_append, List.length_singleton] at ih
      exact ih
def sz21 (L : List Po) : Int := if (1048576 : Int) - (L.length : Int) < 0 then -1 else szR ((1048576 : Int) - (L.length : Int)) L
open Classical in
noncomputable def cf21 : G23 := fun x => if (show List Po from x.1).length ≤ 9223372036854775807 ∧ (∀ z ∈ (show List Po from x.1), (tms z).length ≤ 9223372036854775807) ∧ x.2.1 = (1048576 : Int) then some (sz21 x.1, ()) else none
theorem k21 : KOne Tryz.prog 23 ⟨[.v (.slice 25 lpoly), .v i64], [i64], false, false, 0, cf21⟩ := ok23 _ (.cons k63 .nil) cf21 fun x y h => by
  obtain ⟨L, k, _⟩ := x
  change List Po at L
  change Int at k
  simp only [cf21] at h
  split at h
  · rename_i hc
    injection h with h; subst h
    obtain ⟨h1, h2, h3⟩ := hc
    have h3 : k = (1048576 : Int) := h3
    have h1 : L.length ≤ 9223372036854775807 := h1
    subst h3
    refine ⟨L.length + 1, ?_⟩
    simp only [fn23]
    rw [dln_t h1, cond_true]
    have hw := w6_id (x := (1048576 : Int) - (L.length : Int)) (by omega) (by omega)
    simp only [ofn, hw]
    unfold sz21
    by_cases q : (1048576 : Int) - (L.length : Int) < 0
    · rw [dlt_t q, if_pos q]; rfl
    · rw [dlt_f (by omega), if_neg q, cond_false]
      simp only [ru23_5]
      exact run21 L [] _ (L.length + 1) (by omega) (by simp; omega) h2 (by omega) (by omega)
  · cases h
theorem g21_ok {L : List Po} (h1 : L.length ≤ 9223372036854775807) (h2 : ∀ z ∈ L, (tms z).length ≤ 9223372036854775807) : cf21 (L, (1048576 : Int), ()) = some (sz21 L, ()) := if_pos ⟨h1, h2, rfl⟩
theorem sz21_small {L : List Po} (h : 0 ≤ sz21 L) : L.length ≤ 1048576 ∧ totT L ≤ 1048576 := by
  unfold sz21 at h
  split at h
  · omega
  · have := szR_tot h; omega
theorem smallP_of {L : List Po} (h : L.length ≤ 1048576 ∧ totT L ≤ 1048576) : smallP L := ⟨by omega, fun x hx => by have := tot_mem hx; omega⟩
theorem run26 {L : List Po} (hs : smallP L) {F0 : Nat} : ∀ (r pre : List Po) (F : Nat), r.length < F → pre ++ r = L →
    iter (fun s k => st29_4 cf39 F0 s k (fun s' => match s' with | ((t0, _), (t1, _), (t5, _), _) => (some (true, ())))) F ((L, ()), ((L, ()), (((pre.length : Int), ()), ()))) = some (true, ())
  | [], pre, F, hF, e => by
    obtain ⟨F, rfl⟩ : ∃ f, F = f + 1 := ⟨F - 1, by simp at hF; omega⟩
    have hL := hs.1
    rw [List.append_nil] at e; subst e
    simp only [iter, st29_4]
    simp (disch := omega) only [dln_t, cond_true, ofn, dlt_f, cond_false]
  | x :: r, pre, F, hF, e => by
    obtain ⟨F, rfl⟩ : ∃ f, F = f + 1 := ⟨F - 1, by simp at hF; omega⟩
    have hL := hs.1
    have l1 : pre.length < L.length := by rw [← e]; simp
    have g1 : ∀ dd, L.getD pre.length dd = x := fun dd => by rw [← e, List.getD_eq_getElem?_getD, List.getElem?_append_right (Nat.le_refl _)]; simp
    have hx : (tms x).length ≤ 2000000 := hs.2 x (by rw [← e]; simp)
    have g : cf39 (x, x, ()) = some (true, ()) := if_pos ⟨rfl, rfl, rfl, hx⟩
    simp only [iter, st29_4]
    simp (disch := omega) only [dln_t, cond_true, ofn, dlt_t, ib_t, tn_cast, w6_id]
    show (match cf39 (L.getD pre.length (Ty.dflt poly), L.getD pre.length (Ty.dflt poly), ()) with | some r11 => _ | none => none) = _
    rw [g1, g]
    have ih := run26 hs (F0 := F0) r (pre ++ [x]) F (by simp at hF; omega) (by simpa using e)
    simp only [List.length_append, List.length_singleton] at ih
    exact ih
open Classical in
noncomputable def cf26 : G29 := fun x => if (show List Po from x.1) = x.2.1 ∧ smallP x.1 then some (true, ()) else none
theorem k26 : KOne Tryz.prog 29 ⟨[.v (.slice 34 poly), .v (.slice 34 poly)], [.bool], false, false, 0, cf26⟩ := ok29 _ (.cons k39 .nil) cf26 fun x y h => by
  obtain ⟨L, M, _⟩ := x
  change List Po at L
  change List Po at M
  simp only [cf26] at h
  split at h
  · rename_i hc
    injection h with h; subst h
    obtain ⟨c0, hs⟩ := hc
    have c0 : L = M := c0
    have hs : smallP L := hs
    subst c0
    have hL := hs.1
    refine ⟨L.length + 1, ?_⟩
    simp (disch := omega) only [fn29, dln_t, cond_true, ofn, ru29_4]
    simp only [decide_true, Bool.not_true, cond_false]
    exact run26 hs L [] (L.length + 1) (by omega) rfl
  · cases h
theorem g26_ok {L : List Po} (h : smallP L) : cf26 (L, L, ()) = some (true, ()) := if_pos ⟨rfl, h⟩
def cf143 : G156 := fn156 cf158 6
theorem k143 : KOne Tryz.prog 156 ⟨[.v i64, .v ex], [.bool], false, false, 0, cf143⟩ := ok156 _ (.cons k158 .nil) cf143 fun x y h => ⟨6, h⟩
abbrev R171 : Type := Ress [.bool]
abbrev G171 : Type := Args [.v poly] → Option R171
abbrev kp171 : List (Nat × List Nat) := [(0, [1]), (1, [2])]
abbrev ct171 : CTab := []
def fn171 (F : Nat) (x : Args [.v poly]) : Option R171 :=
  match x with
  | (x0, _) => (bif decide ((List.length x0.2.2.1) ≤ 9223372036854775807) then (some (decide ((Int.ofNat (List.length x0.2.2.1)) = (0 : Int)), ())) else none)
theorem ev171 (F : Nat) (x : Args [.v poly]) : fnK TT (ct171 ) kp171 [.bool] [] (bodyOf Tryz.f171) [.tmp 2] [.v poly] false false x = fn171 F x := by
  obtain ⟨x0, _⟩ := x
  kernel_rfl
theorem ok171 (hK : KOK Tryz.prog (ct171 )) (cf : G171) (h : ∀ x y, cf x = some y → ∃ F, fn171 F x = some y) : KOne Tryz.prog 171 ⟨[.v poly], [.bool], false, false, 0, cf⟩ :=
  fn_one rfl (c := bodyOf Tryz.f171) mixed tt_ok hK Tryz.func171 (by kernel_rfl) (by kernel_rfl) (Nat.le_of_ble_eq_true (by kernel_rfl)) (by decide) fun x y hxy => by
    obtain ⟨F, hF⟩ := h x y hxy
    exact ⟨[], LTOK_by (l := []) (by kernel_rfl) trivial, (ev171 F x).trans hF⟩
abbrev R93 : Type := Ress [.bool]
abbrev G93 : Type := Args [.v poly] → Option R93
abbrev kp93 : List (Nat × List Nat) := [(0, [1]), (1, [2])]
abbrev ct93 (g171 : G171) (g167 : G167) (g95 : G95) : CTab := [(171, ⟨[.v poly], [.bool], false, false, 0, g171⟩), (167, ⟨[.v ex], [i64], false, false, 0, g167⟩), (95, ⟨[.v poly], [i64], false, false, 0, g95⟩)]
def fn93 (g171 : G171) (g167 : G167) (g95 : G95) (F : Nat) (x : Args [.v poly]) : Option R93 :=
  match x with
  | (x0, _) => (match (g171 ((x0.1, (x0.2.1, (x0.2.2.1, ()))), ())) with | some r6 => (bif r6.1 then (some (true, ())) else (bif ib (0 : Int) (Int.ofNat (List.length x0.2.2.1)) then (match (g167 ((List.getD x0.2.2.1 (tn (0 : Int)) (Ty.dflt (.pair (.arr 3 (.int .u8)) (.pair (.int .i64) .unit)))).1, ())) with | some r7 => (match (g95 ((x0.1, (x0.2.1, (x0.2.2.1, ()))), ())) with | some r8 => (some ((bif false then true else decide (r7.1 = r8.1)), ())) | none => none) | none => none) else none)) | none => none)
theorem ev93 (g171 : G171) (g167 : G167) (g95 : G95) (F : Nat) (x : Args [.v poly]) : fnK TT (ct93 g171 g167 g95 ) kp93 [.bool] [] (bodyOf Tryz.f93) [.tmp 2] [.v poly] false false x = fn93 g171 g167 g95 F x := by
  obtain ⟨x0, _⟩ := x
  kernel_rfl
theorem ok93 (g171 : G171) (g167 : G167) (g95 : G95) (hK : KOK Tryz.prog (ct93 g171 g167 g95 )) (cf : G93) (h : ∀ x y, cf x = some y → ∃ F, fn93 g171 g167 g95 F x = some y) : KOne Tryz.prog 93 ⟨[.v poly], [.bool], false, false, 0, cf⟩ :=
  fn_one rfl (c := bodyOf Tryz.f93) mixed tt_ok hK Tryz.func93 (by kernel_rfl) (by kernel_rfl) (Nat.le_of_ble_eq_true (by kernel_rfl)) (by decide) fun x y hxy => by
    obtain ⟨F, hF⟩ := h x y hxy
    exact ⟨[], LTOK_by (l := []) (by kernel_rfl) trivial, (ev93 g171 g167 g95 F x).trans hF⟩
abbrev R94 : Type := Ress [.bool]
abbrev G94 : Type := Args [.v poly, .v poly] → Option R94
abbrev kp94 : List (Nat × List Nat) := [(0, [2, 3]), (1, [4])]
abbrev ct94 : CTab := []
def fn94 (F : Nat) (x : Args [.v poly, .v poly]) : Option R94 :=
  match x with
  | (x0, x1, _) => (bif decide (x0.1 = x1.1) then (some ((bif true then decide (x0.2.1 = x1.2.1) else false), ())) else (some (false, ())))
theorem ev94 (F : Nat) (x : Args [.v poly, .v poly]) : fnK TT (ct94 ) kp94 [.bool] [] (bodyOf Tryz.f94) [.tmp 4] [.v poly, .v poly] false false x = fn94 F x := by
  obtain ⟨x0, x1, _⟩ := x
  kernel_rfl
theorem ok94 (hK : KOK Tryz.prog (ct94 )) (cf : G94) (h : ∀ x y, cf x = some y → ∃ F, fn94 F x = some y) : KOne Tryz.prog 94 ⟨[.v poly, .v poly], [.bool], false, false, 0, cf⟩ :=
  fn_one rfl (c := bodyOf Tryz.f94) mixed tt_ok hK Tryz.func94 (by kernel_rfl) (by kernel_rfl) (Nat.le_of_ble_eq_true (by kernel_rfl)) (by decide) fun x y hxy => by
    obtain ⟨F, hF⟩ := h x y hxy
    exact ⟨[], LTOK_by (l := []) (by kernel_rfl) trivial, (ev94 F x).trans hF⟩
abbrev R91 : Type := Ress [.bool]
abbrev G91 : Type := Args [.v poly] → Option R91
abbrev kp91 : List (Nat × List Nat) := [(0, [1]), (1, [15, 1]), (2, [2]), (3, [1, 19, 17, 18]), (4, [20, 18, 17, 1, 19]), (5, [3, 18, 17, 1, 19, 4]), (6, [56, 18, 17, 1, 19, 4]), (7, [2]), (8, [5, 4, 19, 1, 17, 18]), (9, [60, 18, 17, 1, 19, 4, 5]), (11, [67, 18, 17, 1, 19, 4, 5]), (12, [2]), (10, [5, 4, 19, 1, 17, 18]), (13, [1, 19, 17, 18]), (14, [2])]
abbrev ct91 (g165 : G165) (g166 : G166) (g168 : G168) (g167 : G167) : CTab := [(165, ⟨[.v i64], [.bool], false, false, 0, g165⟩), (166, ⟨[.v i64], [.bool], false, false, 0, g166⟩), (168, ⟨[.v ex, .v ex], [i64], false, false, 0, g168⟩), (167, ⟨[.v ex], [i64], false, false, 0, g167⟩)]
abbrev kr91 : Env → Option R91 := endK TT [.tmp 2] [.bool] false false
abbrev sh91_9 : Shape := [(1, .box false [.fz i64 0 false, .fz i64 0 false, .fz (.slice 135 term) 0 true]), (4, .box false [.fz ex 0 false, .fz i64 0 false]), (5, vv i64), (17, .val false [.fz (.slice 135 term) 0 true]), (18, vv i64), (19, vv i64)]
def st91_9 (g165 : G165) (g166 : G166) (g168 : G168) (g167 : G167) (F : Nat) (s : ShVal sh91_9) (k kx : ShVal sh91_9 → Option R91) : Option R91 :=
  match s with
  | ((t1_0, t1_1, t1_2, _), (t4_0, t4_1, _), (t5, _), (t17, _), (t18, _), (t19, _), _) => (bif decide (t5 < (3 : Int)) then (bif ib t5 (Int.ofNat 3) then (bif (!decide ((tget (0 : Int) 3 t4_0 (tn t5)) = (0 : Int))) then (some (false, ())) else k ((t1_0, (t1_1, (t1_2, ()))), ((t4_0, (t4_1, ())), (((w6 (t5 + (1 : Int))), ()), ((t17, ()), ((t18, ()), ((t19, ()), ()))))))) else none) else kx ((t1_0, (t1_1, (t1_2, ()))), ((t4_0, (t4_1, ())), ((t5, ()), ((t17, ()), ((t18, ()), ((t19, ()), ())))))))
def ru91_9 (g165 : G165) (g166 : G166) (g168 : G168) (g167 : G167) (F : Nat) (s : ShVal sh91_9) (kx : ShVal sh91_9 → Option R91) : Option R91 := iter (fun s k => st91_9 g165 g166 g168 g167 F s k kx) F s
abbrev ls91_9 (g165 : G165) (g166 : G166) (g168 : G168) (g167 : G167) (F : Nat) : LS R91 := ⟨sh91_9, 2, ru91_9 g165 g166 g168 g167 F⟩
abbrev sh91_4 : Shape := [(1, .box false [.fz i64 0 false, .fz i64 0 false, .fz (.slice 135 term) 0 true]), (17, .val false [.fz (.slice 135 term) 0 true]), (18, vv i64), (19, vv i64)]
def st91_4 (g165 : G165) (g166 : G166) (g168 : G168) (g167 : G167) (F : Nat) (s : ShVal sh91_4) (k kx : ShVal sh91_4 → Option R91) : Option R91 :=
  match s with
  | ((t1_0, t1_1, t1_2, _), (t17, _), (t18, _), (t19, _), _) => (bif decide (t19 < t18) then (bif ib t19 (Int.ofNat (List.length t17)) then (match (g167 ((List.getD t17 (tn t19) (Ty.dflt (.pair (.arr 3 (.int .u8)) (.pair (.int .i64) .unit)))).1, ())) with | some r19 => (bif decide ((12 : Int) < r19.1) then (some (false, ())) else (bif (bif false then true else decide ((List.getD t17 (tn t19) (Ty.dflt (.pair (.arr 3 (.int .u8)) (.pair (.int .i64) .unit)))).2.1 < (1 : Int))) then (some (false, ())) else (bif (bif false then true else decide (t1_0 ≤ (List.getD t17 (tn t19) (Ty.dflt (.pair (.arr 3 (.int .u8)) (.pair (.int .i64) .unit)))).2.1)) then (some (false, ())) else (bif decide ((0 : Int) < t19) then (bif ib (w6 (t19 - (1 : Int))) (Int.ofNat (List.length t1_2)) then (match (g168 ((List.getD t1_2 (tn (w6 (t19 - (1 : Int)))) (Ty.dflt (.pair (.arr 3 (.int .u8)) (.pair (.int .i64) .unit)))).1, ((List.getD t17 (tn t19) (Ty.dflt (.pair (.arr 3 (.int .u8)) (.pair (.int .i64) .unit)))).1, ()))) with | some r20 => (bif (bif false then true else (bif true then decide ((0 : Int) ≤ r20.1) else false)) then (some (false, ())) else (ru91_9 g165 g166 g168 g167 F ((t1_0, (t1_1, (t1_2, ()))), (((List.getD t17 (tn t19) (Ty.dflt (.pair (.arr 3 (.int .u8)) (.pair (.int .i64) .unit)))).1, ((List.getD t17 (tn t19) (Ty.dflt (.pair (.arr 3 (.int .u8)) (.pair (.int .i64) .unit)))).2.1, ())), ((t1_1, ()), ((t17, ()), ((t18, ()), ((t19, ()), ())))))) (fun s' => match s' with | ((t1_0, t1_1, t1_2, _), (t4_0, t4_1, _), (t5, _), (t17, _), (t18, _), (t19, _), _) => k ((t1_0, (t1_1, (t1_2, ()))), ((t17, ()), ((t18, ()), (((w6 (t19 + (1 : Int))), ()), ()))))))) | none => none) else none) else (bif (bif false then true else false) then (some (false, ())) else (ru91_9 g165 g166 g168 g167 F ((t1_0, (t1_1, (t1_2, ()))), (((List.getD t17 (tn t19) (Ty.dflt (.pair (.arr 3 (.int .u8)) (.pair (.int .i64) .unit)))).1, ((List.getD t17 (tn t19) (Ty.dflt (.pair (.arr 3 (.int .u8)) (.pair (.int .i64) .unit)))).2.1, ())), ((t1_1, ()), ((t17, ()), ((t18, ()), ((t19, ()), ())))))) (fun s' => match s' with | ((t1_0, t1_1, t1_2, _), (t4_0, t4_1, _), (t5, _), (t17, _), (t18, _), (t19, _), _) => k ((t1_0, (t1_1, (t1_2, ()))), ((t17, ()), ((t18, ()), (((w6 (t19 + (1 : Int))), ()), ()))))))))))) | none => none) else none) else kx ((t1_0, (t1_1, (t1_2, ()))), ((t17, ()), ((t18, ()), ((t19, ()), ())))))
def ru91_4 (g165 : G165) (g166 : G166) (g168 : G168) (g167 : G167) (F : Nat) (s : ShVal sh91_4) (kx : ShVal sh91_4 → Option R91) : Option R91 := iter (fun s k => st91_4 g165 g166 g168 g167 F s k kx) F s
abbrev ls91_4 (g165 : G165) (g166 : G166) (g168 : G168) (g167 : G167) (F : Nat) : LS R91 := ⟨sh91_4, 0, ru91_4 g165 g166 g168 g167 F⟩
def fn91 (g165 : G165) (g166 : G166) (g168 : G168) (g167 : G167) (F : Nat) (x : Args [.v poly]) : Option R91 :=
  match x with
  | (x0, _) => (match (g165 (x0.1, ())) with | some r7 => (bif (!r7.1) then (some (false, ())) else (match (g166 (x0.2.1, ())) with | some r8 => (bif (bif false then true else (!r8.1)) then (some (false, ())) else (bif decide ((List.length x0.2.2.1) ≤ 9223372036854775807) then (ru91_4 g165 g166 g168 g167 F ((x0.1, (x0.2.1, (x0.2.2.1, ()))), ((x0.2.2.1, ()), (((Int.ofNat (List.length x0.2.2.1)), ()), (((0 : Int), ()), ())))) (fun s' => match s' with | ((t1_0, t1_1, t1_2, _), (t17, _), (t18, _), (t19, _), _) => (some (true, ())))) else none)) | none => none)) | none => none)
theorem ev91_9 (g165 : G165) (g166 : G166) (g168 : G168) (g167 : G167) (F : Nat) (s : ShVal sh91_9) (k kx : ShVal sh91_9 → Option R91) : evL TT (ct91 g165 g166 g168 g167 ) kp91 [] (loopOf Tryz.f91 9) (envOf sh91_9 s) (fitK sh91_9 k) (fun j e => bif Nat.beq j 2 then fitK sh91_9 kx e else none) kr91 = st91_9 g165 g166 g168 g167 F s k kx := by
  obtain ⟨⟨t1_0, t1_1, t1_2, _⟩, ⟨t4_0, t4_1, _⟩, ⟨t5, _⟩, ⟨t17, _⟩, ⟨t18, _⟩, ⟨t19, _⟩, _⟩ := s
  kernel_rfl
theorem ok91_9 (g165 : G165) (g166 : G166) (g168 : G168) (g167 : G167) (F : Nat) (hK : KOK Tryz.prog (ct91 g165 g166 g168 g167 )) : LSOK Tryz.prog ⟨69, false, undef⟩ (ls91_9 g165 g166 g168 g167 F) (loopOf Tryz.f91 9) kr91 :=
  loop_ok (st91_9 g165 g166 g168 g167 F) mixed tt_ok hK (by kernel_rfl) (LTOK_by (l := []) (by kernel_rfl) trivial) (ev91_9 g165 g166 g168 g167 F)
theorem ev91_4 (g165 : G165) (g166 : G166) (g168 : G168) (g167 : G167) (F : Nat) (s : ShVal sh91_4) (k kx : ShVal sh91_4 → Option R91) : evL TT (ct91 g165 g166 g168 g167 ) kp91 [(9, ls91_9 g165 g166 g168 g167 F)] (loopOf Tryz.f91 4) (envOf sh91_4 s) (fitK sh91_4 k) (fun j e => bif Nat.beq j 0 then fitK sh91_4 kx e else none) kr91 = st91_4 g165 g166 g168 g167 F s k kx := by
  obtain ⟨⟨t1_0, t1_1, t1_2, _⟩, ⟨t17, _⟩, ⟨t18, _⟩, ⟨t19, _⟩, _⟩ := s
  kernel_rfl
theorem ok91_4 (g165 : G165) (g166 : G166) (g168 : G168) (g167 : G167) (F : Nat) (hK : KOK Tryz.prog (ct91 g165 g166 g168 g167 )) : LSOK Tryz.prog ⟨69, false, undef⟩ (ls91_4 g165 g166 g168 g167 F) (loopOf Tryz.f91 4) kr91 :=
  loop_ok (st91_4 g165 g166 g168 g167 F) mixed tt_ok hK (by kernel_rfl) (LTOK_by (l := [loopOf Tryz.f91 9]) (by kernel_rfl) ⟨ls_at (by kernel_rfl) (ok91_9 g165 g166 g168 g167 F hK), trivial⟩) (ev91_4 g165 g166 g168 g167 F)
theorem ev91 (g165 : G165) (g166 : G166) (g168 : G168) (g167 : G167) (F : Nat) (x : Args [.v poly]) : fnK TT (ct91 g165 g166 g168 g167 ) kp91 [.bool] [(4, ls91_4 g165 g166 g168 g167 F)] (bodyOf Tryz.f91) [.tmp 2] [.v poly] false false x = fn91 g165 g166 g168 g167 F x := by
  obtain ⟨x0, _⟩ := x
  kernel_rfl
theorem ok91 (g165 : G165) (g166 : G166) (g168 : G168) (g167 : G167) (hK : KOK Tryz.prog (ct91 g165 g166 g168 g167 )) (cf : G91) (h : ∀ x y, cf x = some y → ∃ F, fn91 g165 g166 g168 g167 F x = some y) : KOne Tryz.prog 91 ⟨[.v poly], [.bool], false, false, 0, cf⟩ :=
  fn_one rfl (c := bodyOf Tryz.f91) mixed tt_ok hK Tryz.func91 (by kernel_rfl) (by kernel_rfl) (Nat.le_of_ble_eq_true (by kernel_rfl)) (by decide) fun x y hxy => by
    obtain ⟨F, hF⟩ := h x y hxy
    exact ⟨[(4, ls91_4 g165 g166 g168 g167 F)], LTOK_by (l := [loopOf Tryz.f91 4]) (by kernel_rfl) ⟨ls_at (by kernel_rfl) (ok91_4 g165 g166 g168 g167 F hK), trivial⟩, (ev91 g165 g166 g168 g167 F x).trans hF⟩
abbrev R169 : Type := Ress [.bool]
abbrev G169 : Type := Args [.v (.slice 34 poly)] → Option R169
abbrev kp169 : List (Nat × List Nat) := [(0, [0]), (1, [7, 5, 6]), (2, [8, 6, 5, 7]), (3, [4, 6, 5, 7]), (4, [13, 6, 5, 7]), (5, [2]), (6, [7, 5, 6]), (7, [2])]
abbrev ct169 (g91 : G91) : CTab := [(91, ⟨[.v poly], [.bool], false, false, 0, g91⟩)]
abbrev kr169 : Env → Option R169 := endK TT [.tmp 2] [.bool] false false
abbrev sh169_2 : Shape := [(5, .val false [.fz (.slice 34 poly) 0 true]), (6, vv i64), (7, vv i64)]
def st169_2 (g91 : G91) (F : Nat) (s : ShVal sh169_2) (k kx : ShVal sh169_2 → Option R169) : Option R169 :=
  match s with
  | ((t5, _), (t6, _), (t7, _), _) => (bif decide (t7 < t6) then (bif ib t7 (Int.ofNat (List.length t5)) then (match (g91 (((List.getD t5 (tn t7) (Ty.dflt (.pair (.int .i64) (.pair (.int .i64) (.pair (.slice 135 (.pair (.arr 3 (.int .u8)) (.pair (.int .i64) .unit))) .unit))))).1, ((List.getD t5 (tn t7) (Ty.dflt (.pair (.int .i64) (.pair (.int .i64) (.pair (.slice 135 (.pair (.arr 3 (.int .u8)) (.pair (.int .i64) .unit))) .unit))))).2.1, ((List.getD t5 (tn t7) (Ty.dflt (.pair (.int .i64) (.pair (.int .i64) (.pair (.slice 135 (.pair (.arr 3 (.int .u8)) (.pair (.int .i64) .unit))) .unit))))).2.2.1, ()))), ())) with | some r10 => (bif (!r10.1) then (some (false, ())) else k ((t5, ()), ((t6, ()), (((w6 (t7 + (1 : Int))), ()), ())))) | none => none) else none) else kx ((t5, ()), ((t6, ()), ((t7, ()), ()))))
def ru169_2 (g91 : G91) (F : Nat) (s : ShVal sh169_2) (kx : ShVal sh169_2 → Option R169) : Option R169 := iter (fun s k => st169_2 g91 F s k kx) F s
abbrev ls169_2 (g91 : G91) (F : Nat) : LS R169 := ⟨sh169_2, 0, ru169_2 g91 F⟩
def fn169 (g91 : G91) (F : Nat) (x : Args [.v (.slice 34 poly)]) : Option R169 :=
  match x with
  | (x0, _) => (bif decide ((List.length x0) ≤ 9223372036854775807) then (ru169_2 g91 F ((x0, ()), (((Int.ofNat (List.length x0)), ()), (((0 : Int), ()), ()))) (fun s' => match s' with | ((t5, _), (t6, _), (t7, _), _) => (some (true, ())))) else none)
theorem ev169_2 (g91 : G91) (F : Nat) (s : ShVal sh169_2) (k kx : ShVal sh169_2 → Option R169) : evL TT (ct169 g91 ) kp169 [] (loopOf Tryz.f169 2) (envOf sh169_2 s) (fitK sh169_2 k) (fun j e => bif Nat.beq j 0 then fitK sh169_2 kx e else none) kr169 = st169_2 g91 F s k kx := by
  obtain ⟨⟨t5, _⟩, ⟨t6, _⟩, ⟨t7, _⟩, _⟩ := s
  kernel_rfl
theorem ok169_2 (g91 : G91) (F : Nat) (hK : KOK Tryz.prog (ct169 g91 )) : LSOK Tryz.prog ⟨15, false, undef⟩ (ls169_2 g91 F) (loopOf Tryz.f169 2) kr169 :=
  loop_ok (st169_2 g91 F) mixed tt_ok hK (by kernel_rfl) (LTOK_by (l := []) (by kernel_rfl) trivial) (ev169_2 g91 F)
theorem ev169 (g91 : G91) (F : Nat) (x : Args [.v (.slice 34 poly)]) : fnK TT (ct169 g91 ) kp169 [.bool] [(2, ls169_2 g91 F)] (bodyOf Tryz.f169) [.tmp 2] [.v (.slice 34 poly)] false false x = fn169 g91 F x := by
  obtain ⟨x0, _⟩ := x
  kernel_rfl
theorem ok169 (g91 : G91) (hK : KOK Tryz.prog (ct169 g91 )) (cf : G169) (h : ∀ x y, cf x = some y → ∃ F, fn169 g91 F x = some y) : KOne Tryz.prog 169 ⟨[.v (.slice 34 poly)], [.bool], false, false, 0, cf⟩ :=
  fn_one rfl (c := bodyOf Tryz.f169) mixed tt_ok hK Tryz.func169 (by kernel_rfl) (by kernel_rfl) (Nat.le_of_ble_eq_true (by kernel_rfl)) (by decide) fun x y hxy => by
    obtain ⟨F, hF⟩ := h x y hxy
    exact ⟨[(2, ls169_2 g91 F)], LTOK_by (l := [loopOf Tryz.f169 2]) (by kernel_rfl) ⟨ls_at (by kernel_rfl) (ok169_2 g91 F hK), trivial⟩, (ev169 g91 F x).trans hF⟩
abbrev R170 : Type := Ress [.bool]
abbrev G170 : Type := Args [.v (.slice 34 poly)] → Option R170
abbrev kp170 : List (Nat × List Nat) := [(0, [0]), (1, [7, 0, 5, 6]), (2, [8, 6, 5, 0, 7]), (3, [4, 6, 5, 0, 7]), (4, [26, 6, 5, 0, 7]), (5, [2]), (6, [7, 0, 5, 6]), (7, [2])]
abbrev ct170 (g94 : G94) (g93 : G93) (g95 : G95) : CTab := [(94, ⟨[.v poly, .v poly], [.bool], false, false, 0, g94⟩), (93, ⟨[.v poly], [.bool], false, false, 0, g93⟩), (95, ⟨[.v poly], [i64], false, false, 0, g95⟩)]
abbrev kr170 : Env → Option R170 := endK TT [.tmp 2] [.bool] false false
abbrev sh170_2 : Shape := [(0, .val false [.fz (.slice 34 poly) 0 true]), (5, .val false [.fz (.slice 34 poly) 0 true]), (6, vv i64), (7, vv i64)]
def st170_2 (g94 : G94) (g93 : G93) (g95 : G95) (F : Nat) (s : ShVal sh170_2) (k kx : ShVal sh170_2 → Option R170) : Option R170 :=
  match s with
  | ((t0, _), (t5, _), (t6, _), (t7, _), _) => (bif decide (t7 < t6) then (bif ib t7 (Int.ofNat (List.length t5)) then (bif ib (0 : Int) (Int.ofNat (List.length t0)) then (match (g94 (((List.getD t5 (tn t7) (Ty.dflt (.pair (.int .i64) (.pair (.int .i64) (.pair (.slice 135 (.pair (.arr 3 (.int .u8)) (.pair (.int .i64) .unit))) .unit))))).1, ((List.getD t5 (tn t7) (Ty.dflt (.pair (.int .i64) (.pair (.int .i64) (.pair (.slice 135 (.pair (.arr 3 (.int .u8)) (.pair (.int .i64) .unit))) .unit))))).2.1, ((List.getD t5 (tn t7) (Ty.dflt (.pair (.int .i64) (.pair (.int .i64) (.pair (.slice 135 (.pair (.arr 3 (.int .u8)) (.pair (.int .i64) .unit))) .unit))))).2.2.1, ()))), ((List.getD t0 (tn (0 : Int)) (Ty.dflt (.pair (.int .i64) (.pair (.int .i64) (.pair (.slice 135 (.pair (.arr 3 (.int .u8)) (.pair (.int .i64) .unit))) .unit))))), ()))) with | some r13 => (bif (!r13.1) then (some (false, ())) else (match (g93 (((List.getD t5 (tn t7) (Ty.dflt (.pair (.int .i64) (.pair (.int .i64) (.pair (.slice 135 (.pair (.arr 3 (.int .u8)) (.pair (.int .i64) .unit))) .unit))))).1, ((List.getD t5 (tn t7) (Ty.dflt (.pair (.int .i64) (.pair (.int .i64) (.pair (.slice 135 (.pair (.arr 3 (.int .u8)) (.pair (.int .i64) .unit))) .unit))))).2.1, ((List.getD t5 (tn t7) (Ty.dflt (.pair (.int .i64) (.pair (.int .i64) (.pair (.slice 135 (.pair (.arr 3 (.int .u8)) (.pair (.int .i64) .unit))) .unit))))).2.2.1, ()))), ())) with | some r14 => (bif (bif false then true else (!r14.1)) then (some (false, ())) else (match (g95 (((List.getD t5 (tn t7) (Ty.dflt (.pair (.int .i64) (.pair (.int .i64) (.pair (.slice 135 (.pair (.arr 3 (.int .u8)) (.pair (.int .i64) .unit))) .unit))))).1, ((List.getD t5 (tn t7) (Ty.dflt (.pair (.int .i64) (.pair (.int .i64) (.pair (.slice 135 (.pair (.arr 3 (.int .u8)) (.pair (.int .i64) .unit))) .unit))))).2.1, ((List.getD t5 (tn t7) (Ty.dflt (.pair (.int .i64) (.pair (.int .i64) (.pair (.slice 135 (.pair (.arr 3 (.int .u8)) (.pair (.int .i64) .unit))) .unit))))).2.2.1, ()))), ())) with | some r15 => (bif (bif false then true else decide (r15.1 < (1 : Int))) then (some (false, ())) else k ((t0, ()), ((t5, ()), ((t6, ()), (((w6 (t7 + (1 : Int))), ()), ()))))) | none => none)) | none => none)) | none => none) else none) else none) else kx ((t0, ()), ((t5, ()), ((t6, ()), ((t7, ()), ())))))
def ru170_2 (g94 : G94) (g93 : G93) (g95 : G95) (F : Nat) (s : ShVal sh170_2) (kx : ShVal sh170_2 → Option R170) : Option R170 := iter (fun s k => st170_2 g94 g93 g95 F s k kx) F s
abbrev ls170_2 (g94 : G94) (g93 : G93) (g95 : G95) (F : Nat) : LS R170 := ⟨sh170_2, 0, ru170_2 g94 g93 g95 F⟩
def fn170 (g94 : G94) (g93 : G93) (g95 : G95) (F : Nat) (x : Args [.v (.slice 34 poly)]) : Option R170 :=
  match x with
  | (x0, _) => (bif decide ((List.length x0) ≤ 9223372036854775807) then (ru170_2 g94 g93 g95 F ((x0, ()), ((x0, ()), (((Int.ofNat (List.length x0)), ()), (((0 : Int), ()), ())))) (fun s' => match s' with | ((t0, _), (t5, _), (t6, _), (t7, _), _) => (bif decide ((List.length t0) ≤ 9223372036854775807) then (some (decide ((Int.ofNat (List.length t0)) ≤ (8 : Int)), ())) else none))) else none)
theorem ev170_2 (g94 : G94) (g93 : G93) (g95 : G95) (F : Nat) (s : ShVal sh170_2) (k kx : ShVal sh170_2 → Option R170) : evL TT (ct170 g94 g93 g95 ) kp170 [] (loopOf Tryz.f170 2) (envOf sh170_2 s) (fitK sh170_2 k) (fun j e => bif Nat.beq j 0 then fitK sh170_2 kx e else none) kr170 = st170_2 g94 g93 g95 F s k kx := by
  obtain ⟨⟨t0, _⟩, ⟨t5, _⟩, ⟨t6, _⟩, ⟨t7, _⟩, _⟩ := s
  kernel_rfl
theorem ok170_2 (g94 : G94) (g93 : G93) (g95 : G95) (F : Nat) (hK : KOK Tryz.prog (ct170 g94 g93 g95 )) : LSOK Tryz.prog ⟨31, false, undef⟩ (ls170_2 g94 g93 g95 F) (loopOf Tryz.f170 2) kr170 :=
  loop_ok (st170_2 g94 g93 g95 F) mixed tt_ok hK (by kernel_rfl) (LTOK_by (l := []) (by kernel_rfl) trivial) (ev170_2 g94 g93 g95 F)
theorem ev170 (g94 : G94) (g93 : G93) (g95 : G95) (F : Nat) (x : Args [.v (.slice 34 poly)]) : fnK TT (ct170 g94 g93 g95 ) kp170 [.bool] [(2, ls170_2 g94 g93 g95 F)] (bodyOf Tryz.f170) [.tmp 2] [.v (.slice 34 poly)] false false x = fn170 g94 g93 g95 F x := by
  obtain ⟨x0, _⟩ := x
  kernel_rfl
theorem ok170 (g94 : G94) (g93 : G93) (g95 : G95) (hK : KOK Tryz.prog (ct170 g94 g93 g95 )) (cf : G170) (h : ∀ x y, cf x = some y → ∃ F, fn170 g94 g93 g95 F x = some y) : KOne Tryz.prog 170 ⟨[.v (.slice 34 poly)], [.bool], false, false, 0, cf⟩ :=
  fn_one rfl (c := bodyOf Tryz.f170) mixed tt_ok hK Tryz.func170 (by kernel_rfl) (by kernel_rfl) (Nat.le_of_ble_eq_true (by kernel_rfl)) (by decide) fun x y hxy => by
    obtain ⟨F, hF⟩ := h x y hxy
    exact ⟨[(2, ls170_2 g94 g93 g95 F)], LTOK_by (l := [loopOf Tryz.f170 2]) (by kernel_rfl) ⟨ls_at (by kernel_rfl) (ok170_2 g94 g93 g95 F hK), trivial⟩, (ev170 g94 g93 g95 F x).trans hF⟩
abbrev R92 : Type := Ress [i64]
abbrev G92 : Type := Args [.v (.slice 34 poly)] → Option R92
abbrev kp92 : List (Nat × List Nat) := [(0, [0]), (1, [3, 0]), (3, [7]), (4, [2]), (2, [2]), (5, [2])]
abbrev ct92 (g169 : G169) (g170 : G170) : CTab := [(169, ⟨[.v (.slice 34 poly)], [.bool], false, false, 0, g169⟩), (170, ⟨[.v (.slice 34 poly)], [.bool], false, false, 0, g170⟩)]
def fn92 (g169 : G169) (g170 : G170) (F : Nat) (x : Args [.v (.slice 34 poly)]) : Option R92 :=
  match x with
  | (x0, _) => (match (g169 (x0, ())) with | some r5 => (bif (!r5.1) then (some ((1 : Int), ())) else (bif decide ((List.length x0) ≤ 9223372036854775807) then (bif decide ((Int.ofNat (List.length x0)) = (0 : Int)) then (some ((2 : Int), ())) else (match (g170 (x0, ())) with | some r7 => (bif (bif false then true else (!r7.1)) then (some ((2 : Int), ())) else (some ((0 : Int), ()))) | none => none)) else none)) | none => none)
theorem ev92 (g169 : G169) (g170 : G170) (F : Nat) (x : Args [.v (.slice 34 poly)]) : fnK TT (ct92 g169 g170 ) kp92 [i64] [] (bodyOf Tryz.f92) [.tmp 2] [.v (.slice 34 poly)] false false x = fn92 g169 g170 F x := by
  obtain ⟨x0, _⟩ := x
  kernel_rfl
theorem ok92 (g169 : G169) (g170 : G170) (hK : KOK Tryz.prog (ct92 g169 g170 )) (cf : G92) (h : ∀ x y, cf x = some y → ∃ F, fn92 g169 g170 F x = some y) : KOne Tryz.prog 92 ⟨[.v (.slice 34 poly)], [i64], false, false, 0, cf⟩ :=
  fn_one rfl (c := bodyOf Tryz.f92) mixed tt_ok hK Tryz.func92 (by kernel_rfl) (by kernel_rfl) (Nat.le_of_ble_eq_true (by kernel_rfl)) (by decide) fun x y hxy => by
    obtain ⟨F, hF⟩ := h x y hxy
    exact ⟨[], LTOK_by (l := []) (by kernel_rfl) trivial, (ev92 g169 g170 F x).trans hF⟩
abbrev R144 : Type := Ress [i64]
abbrev G144 : Type := Args [.v (.slice 34 poly)] → Option R144
abbrev kp144 : List (Nat × List Nat) := [(0, [0]), (1, [3, 0]), (2, [8, 0, 3]), (4, [16, 0, 3]), (5, [2]), (3, [3, 0]), (6, [19, 0]), (7, [2]), (8, [4, 0]), (9, [23, 0, 4]), (11, [63, 0, 4]), (12, [2]), (10, [4, 0]), (13, [2])]
abbrev ct144 (g81 : G81) (g84 : G84) (g83 : G83) : CTab := [(81, ⟨[.v poly], [.bool], false, false, 0, g81⟩), (84, ⟨[.v poly], [i64], false, false, 0, g84⟩), (83, ⟨[.v poly], [.bool], false, false, 0, g83⟩)]
abbrev kr144 : Env → Option R144 := endK TT [.tmp 2] [i64] false false
abbrev sh144_2 : Shape := [(0, .val false [.fz (.slice 34 poly) 0 true]), (3, vv i64)]
def st144_2 (g81 : G81) (g84 : G84) (g83 : G83) (F : Nat) (s : ShVal sh144_2) (k kx : ShVal sh144_2 → Option R144) : Option R144 :=
  match s with
  | ((t0, _), (t3, _), _) => (bif decide ((List.length t0) ≤ 9223372036854775807) then (bif decide (t3 < (Int.ofNat (List.length t0))) then (bif ib t3 (Int.ofNat (List.length t0)) then (match (g81 ((List.getD t0 (tn t3) (Ty.dflt (.pair (.int .i64) (.pair (.int .i64) (.pair (.slice 135 (.pair (.arr 3 (.int .u8)) (.pair (.int .i64) .unit))) .unit))))), ())) with | some r10 => (bif (!r10.1) then (some ((1 : Int), ())) else k ((t0, ()), (((w6 (t3 + (1 : Int))), ()), ()))) | none => none) else none) else kx ((t0, ()), ((t3, ()), ()))) else none)
def ru144_2 (g81 : G81) (g84 : G84) (g83 : G83) (F : Nat) (s : ShVal sh144_2) (kx : ShVal sh144_2 → Option R144) : Option R144 := iter (fun s k => st144_2 g81 g84 g83 F s k kx) F s
abbrev ls144_2 (g81 : G81) (g84 : G84) (g83 : G83) (F : Nat) : LS R144 := ⟨sh144_2, 0, ru144_2 g81 g84 g83 F⟩
abbrev sh144_9 : Shape := [(0, .val false [.fz (.slice 34 poly) 0 true]), (4, vv i64)]
def st144_9 (g81 : G81) (g84 : G84) (g83 : G83) (F : Nat) (s : ShVal sh144_9) (k kx : ShVal sh144_9 → Option R144) : Option R144 :=
  match s with
  | ((t0, _), (t4, _), _) => (bif decide ((List.length t0) ≤ 9223372036854775807) then (bif decide (t4 < (Int.ofNat (List.length t0))) then (bif ib t4 (Int.ofNat (List.length t0)) then (bif ib (0 : Int) (Int.ofNat (List.length t0)) then (bif (!decide ((List.getD t0 (tn t4) (Ty.dflt (.pair (.int .i64) (.pair (.int .i64) (.pair (.slice 135 (.pair (.arr 3 (.int .u8)) (.pair (.int .i64) .unit))) .unit))))).1 = (List.getD t0 (tn (0 : Int)) (Ty.dflt (.pair (.int .i64) (.pair (.int .i64) (.pair (.slice 135 (.pair (.arr 3 (.int .u8)) (.pair (.int .i64) .unit))) .unit))))).1)) then (some ((2 : Int), ())) else (bif ib t4 (Int.ofNat (List.length t0)) then (bif ib (0 : Int) (Int.ofNat (List.length t0)) then (bif (bif false then true else (!decide ((List.getD t0 (tn t4) (Ty.dflt (.pair (.int .i64) (.pair (.int .i64) (.pair (.slice 135 (.pair (.arr 3 (.int .u8)) (.pair (.int .i64) .unit))) .unit))))).2.1 = (List.getD t0 (tn (0 : Int)) (Ty.dflt (.pair (.int .i64) (.pair (.int .i64) (.pair (.slice 135 (.pair (.arr 3 (.int .u8)) (.pair (.int .i64) .unit))) .unit))))).2.1))) then (some ((2 : Int), ())) else (bif ib t4 (Int.ofNat (List.length t0)) then (match (g84 ((List.getD t0 (tn t4) (Ty.dflt (.pair (.int .i64) (.pair (.int .i64) (.pair (.slice 135 (.pair (.arr 3 (.int .u8)) (.pair (.int .i64) .unit))) .unit))))), ())) with | some r14 => (bif (bif false then true else decide (r14.1 < (1 : Int))) then (some ((2 : Int), ())) else (bif ib t4 (Int.ofNat (List.length t0)) then (match (g83 ((List.getD t0 (tn t4) (Ty.dflt (.pair (.int .i64) (.pair (.int .i64) (.pair (.slice 135 (.pair (.arr 3 (.int .u8)) (.pair (.int .i64) .unit))) .unit))))), ())) with | some r15 => (bif (bif false then true else (!r15.1)) then (some ((2 : Int), ())) else k ((t0, ()), (((w6 (t4 + (1 : Int))), ()), ()))) | none => none) else none)) | none => none) else none)) else none) else none)) else none) else none) else kx ((t0, ()), ((t4, ()), ()))) else none)
def ru144_9 (g81 : G81) (g84 : G84) (g83 : G83) (F : Nat) (s : ShVal sh144_9) (kx : ShVal sh144_9 → Option R144) : Option R144 := iter (fun s k => st144_9 g81 g84 g83 F s k kx) F s
abbrev ls144_9 (g81 : G81) (g84 : G84) (g83 : G83) (F : Nat) : LS R144 := ⟨sh144_9, 2, ru144_9 g81 g84 g83 F⟩
def fn144 (g81 : G81) (g84 : G84) (g83 : G83) (F : Nat) (x : Args [.v (.slice 34 poly)]) : Option R144 :=
  match x with
  | (x0, _) => (ru144_2 g81 g84 g83 F ((x0, ()), (((0 : Int), ()), ())) (fun s' => match s' with | ((t0, _), (t3, _), _) => (bif decide ((List.length t0) ≤ 9223372036854775807) then (bif decide ((8 : Int) < (Int.ofNat (List.length t0))) then (some ((2 : Int), ())) else (ru144_9 g81 g84 g83 F ((t0, ()), (((0 : Int), ()), ())) (fun s' => match s' with | ((t0, _), (t4, _), _) => (some ((0 : Int), ()))))) else none)))
theorem ev144_2 (g81 : G81) (g84 : G84) (g83 : G83) (F : Nat) (s : ShVal sh144_2) (k kx : ShVal sh144_2 → Option R144) : evL TT (ct144 g81 g84 g83 ) kp144 [] (loopOf Tryz.f144 2) (envOf sh144_2 s) (fitK sh144_2 k) (fun j e => bif Nat.beq j 0 then fitK sh144_2 kx e else none) kr144 = st144_2 g81 g84 g83 F s k kx := by
  obtain ⟨⟨t0, _⟩, ⟨t3, _⟩, _⟩ := s
  kernel_rfl
theorem ok144_2 (g81 : G81) (g84 : G84) (g83 : G83) (F : Nat) (hK : KOK Tryz.prog (ct144 g81 g84 g83 )) : LSOK Tryz.prog ⟨64, false, undef⟩ (ls144_2 g81 g84 g83 F) (loopOf Tryz.f144 2) kr144 :=
  loop_ok (st144_2 g81 g84 g83 F) mixed tt_ok hK (by kernel_rfl) (LTOK_by (l := []) (by kernel_rfl) trivial) (ev144_2 g81 g84 g83 F)
theorem ev144_9 (g81 : G81) (g84 : G84) (g83 : G83) (F : Nat) (s : ShVal sh144_9) (k kx : ShVal sh144_9 → Option R144) : evL TT (ct144 g81 g84 g83 ) kp144 [] (loopOf Tryz.f144 9) (envOf sh144_9 s) (fitK sh144_9 k) (fun j e => bif Nat.beq j 2 then fitK sh144_9 kx e else none) kr144 = st144_9 g81 g84 g83 F s k kx := by
  obtain ⟨⟨t0, _⟩, ⟨t4, _⟩, _⟩ := s
  kernel_rfl
theorem ok144_9 (g81 : G81) (g84 : G84) (g83 : G83) (F : Nat) (hK : KOK Tryz.prog (ct144 g81 g84 g83 )) : LSOK Tryz.prog ⟨64, false, undef⟩ (ls144_9 g81 g84 g83 F) (loopOf Tryz.f144 9) kr144 :=
  loop_ok (st144_9 g81 g84 g83 F) mixed tt_ok hK (by kernel_rfl) (LTOK_by (l := []) (by kernel_rfl) trivial) (ev144_9 g81 g84 g83 F)
theorem ev144 (g81 : G81) (g84 : G84) (g83 : G83) (F : Nat) (x : Args [.v (.slice 34 poly)]) : fnK TT (ct144 g81 g84 g83 ) kp144 [i64] [(2, ls144_2 g81 g84 g83 F), (9, ls144_9 g81 g84 g83 F)] (bodyOf Tryz.f144) [.tmp 2] [.v (.slice 34 poly)] false false x = fn144 g81 g84 g83 F x := by
  obtain ⟨x0, _⟩ := x
  kernel_rfl
theorem ok144 (g81 : G81) (g84 : G84) (g83 : G83) (hK : KOK Tryz.prog (ct144 g81 g84 g83 )) (cf : G144) (h : ∀ x y, cf x = some y → ∃ F, fn144 g81 g84 g83 F x = some y) : KOne Tryz.prog 144 ⟨[.v (.slice 34 poly)], [i64], false, false, 0, cf⟩ :=
  fn_one rfl (c := bodyOf Tryz.f144) mixed tt_ok hK Tryz.func144 (by kernel_rfl) (by kernel_rfl) (Nat.le_of_ble_eq_true (by kernel_rfl)) (by decide) fun x y hxy => by
    obtain ⟨F, hF⟩ := h x y hxy
    exact ⟨[(2, ls144_2 g81 g84 g83 F), (9, ls144_9 g81 g84 g83 F)], LTOK_by (l := [loopOf Tryz.f144 2, loopOf Tryz.f144 9]) (by kernel_rfl) ⟨ls_at (by kernel_rfl) (ok144_2 g81 g84 g83 F hK), ⟨ls_at (by kernel_rfl) (ok144_9 g81 g84 g83 F hK), trivial⟩⟩, (ev144 g81 g84 g83 F x).trans hF⟩
abbrev R82 : Type := Ress [i64]
abbrev G82 : Type := Args [.v (.slice 34 poly), .v i64] → Option R82
abbrev kp82 : List (Nat × List Nat) := [(0, [0, 1]), (1, [0, 1, 5]), (2, [19, 5]), (3, [5]), (4, [4])]
abbrev ct82 (g144 : G144) (g131 : G131) : CTab := [(144, ⟨[.v (.slice 34 poly)], [i64], false, false, 0, g144⟩), (131, ⟨[.v i64, .v i64, .v i64], [.bool], false, false, 0, g131⟩)]
def fn82 (g144 : G144) (g131 : G131) (F : Nat) (x : Args [.v (.slice 34 poly), .v i64]) : Option R82 :=
  match x with
  | (x0, x1, _) => (match (g144 (x0, ())) with | some r6 => (bif decide (r6.1 = (0 : Int)) then (bif decide ((List.length x0) ≤ 9223372036854775807) then (bif decide ((Int.ofNat (List.length x0)) = (0 : Int)) then (bif (bif true then true else false) then (some ((2 : Int), ())) else (some (r6.1, ()))) else (match (g131 (x1, ((0 : Int), ((12 : Int), ())))) with | some r8 => (bif (bif true then (bif false then true else (!r8.1)) else false) then (some ((2 : Int), ())) else (some (r6.1, ()))) | none => none)) else none) else (some (r6.1, ()))) | none => none)
theorem ev82 (g144 : G144) (g131 : G131) (F : Nat) (x : Args [.v (.slice 34 poly), .v i64]) : fnK TT (ct82 g144 g131 ) kp82 [i64] [] (bodyOf Tryz.f82) [.tmp 4] [.v (.slice 34 poly), .v i64] false false x = fn82 g144 g131 F x := by
  obtain ⟨x0, x1, _⟩ := x
  kernel_rfl
theorem ok82 (g144 : G144) (g131 : G131) (hK : KOK Tryz.prog (ct82 g144 g131 )) (cf : G82) (h : ∀ x y, cf x = some y → ∃ F, fn82 g144 g131 F x = some y) : KOne Tryz.prog 82 ⟨[.v (.slice 34 poly), .v i64], [i64], false, false, 0, cf⟩ :=
  fn_one rfl (c := bodyOf Tryz.f82) mixed tt_ok hK Tryz.func82 (by kernel_rfl) (by kernel_rfl) (Nat.le_of_ble_eq_true (by kernel_rfl)) (by decide) fun x y hxy => by
    obtain ⟨F, hF⟩ := h x y hxy
    exact ⟨[], LTOK_by (l := []) (by kernel_rfl) trivial, (ev82 g144 g131 F x).trans hF⟩
def expsB (d : Int) (e : ex.den) : Bool := ((decide (2 ≤ d) || decide (x1 e = 0)) && (decide (3 ≤ d) || decide (x2 e = 0))) && decide (degX e ≤ 12)
theorem e143_1 (a b c : Int) (g : G158) : fn156 g 6 ((1 : Int), (a, b, c, ()), ()) = bif !decide (b = 0) then some (false, ()) else (bif !decide (c = 0) then some (false, ()) else (match g ((a, b, c, ()), ()) with | some r8 => (some (decide (r8.1 ≤ (12 : Int)), ())) | none => none)) := by kernel_rfl
theorem e143_2 (a b c : Int) (g : G158) : fn156 g 6 ((2 : Int), (a, b, c, ()), ()) = (bif !decide (c = 0) then some (false, ()) else (match g ((a, b, c, ()), ()) with | some r8 => (some (decide (r8.1 ≤ (12 : Int)), ())) | none => none)) := by kernel_rfl
theorem e143_3 (a b c : Int) (g : G158) : fn156 g 6 ((3 : Int), (a, b, c, ()), ()) = (match g ((a, b, c, ()), ()) with | some r8 => (some (decide (r8.1 ≤ (12 : Int)), ())) | none => none) := by kernel_rfl
theorem g143 {d : Int} {e : ex.den} (hd : 1 ≤ d ∧ d ≤ 3) (he : okX e) : cf143 (d, e, ()) = some (expsB d e, ()) := by
  obtain ⟨a, b, c, u⟩ := e
  have g : cf158 ((a, b, c, ()), ()) = some (degX (a, b, c, ()), ()) := if_pos he
  rcases (show d = 1 ∨ d = 2 ∨ d = 3 by omega) with rfl | rfl | rfl
  · refine (e143_1 a b c cf158).trans ?_
    rw [g]
    by_cases q1 : b = 0
    · by_cases q2 : c = 0
      · simp [expsB, q1, q2]
      · simp [expsB, q1, q2]
    · simp [expsB, q1]
  · refine (e143_2 a b c cf158).trans ?_
    rw [g]
    by_cases q2 : c = 0
    · simp [expsB, q2]
    · simp [expsB, q2]
  · refine (e143_3 a b c cf158).trans ?_
    rw [g]
    simp [expsB]
def inV (p : Int) (t : term.den) : Bool := decide (1 ≤ nT t) && decide (nT t ≤ p - 1)
def ordB (q : Option ex.den) (e : ex.den) : Bool := match q with | none => true | some e' => decide (keyX e' < keyX e)
def vT (p d : Int) : Option ex.den → List term.den → Bool
  | _, [] => true
  | q, t :: r => ((expsB d t.1 && inV p t) && ordB q t.1) && vT p d (some t.1) r
def vP (x : Po) : Bool := (isP x.1 && (decide ((1 : Int) ≤ x.2.1) && decide (x.2.1 ≤ (3 : Int)))) && vT x.1 x.2.1 none (tms x)
def Ahead (pre : List term.den) (q : Option ex.den) : Prop := (pre = [] ∧ q = none) ∨ ∃ pre' s, pre = pre' ++ [s] ∧ q = some s.1
theorem run119 {p d : Int} (hp : 2 ≤ p ∧ p ≤ 13) (hd : 1 ≤ d ∧ d ≤ 3) {F0 : Nat} : ∀ (r pre : List term.den) (q : Option ex.den) (F : Nat), Ahead pre q → r.length < F → (pre ++ r).length ≤ 2000000 → (∀ t ∈ pre ++ r, okX t.1) →
    iter (fun s k => st81_4 cf82 cf73 cf143 cf147 F0 s k (fun s' => match s' with | ((t1_0, t1_1, t1_2, _), (t3, _), _) => (some (true, ())))) F ((p, d, pre ++ r, ()), (((pre.length : Int), ()), ())) = some (vT p d q r, ())
  | [], pre, q, F, hq, hF, hl, ho => by
    obtain ⟨F, rfl⟩ : ∃ f, F = f + 1 := ⟨F - 1, by simp at hF; omega⟩
    rw [List.append_nil] at hl ⊢
    simp only [iter, st81_4]
    simp (disch := omega) only [dln_t, cond_true, ofn, dlt_f, cond_false]
    rfl
  | t :: r, pre, q, F, hq, hF, hl, ho => by
    obtain ⟨F, rfl⟩ : ∃ f, F = f + 1 := ⟨F - 1, by simp at hF; omega⟩
    have l1 : pre.length < (pre ++ t :: r).length := by simp
    have g1 : ∀ dd, (pre ++ t :: r).getD pre.length dd = t := fun dd => by rw [List.getD_eq_getElem?_getD, List.getElem?_append_right (Nat.le_refl _)]; simp
    have ot := ho t (by simp)
    have g := g143 (d := d) hd ot
    have g2 : cf73 (nT t, (1 : Int), p - 1, ()) = some (inV p t, ()) := rfl
    have hw : w6 (p - 1) = p - 1 := w6_id (by omega) (by omega)
    have ih := run119 hp hd (F0 := F0) r (pre ++ [t]) (some t.1) F (.inr ⟨pre, t, rfl, rfl⟩) (by simp at hF; omega) (by simpa using hl) (by simpa using ho)
    simp only [List.append_assoc, List.singleton_append, List.length_append, List.length_singleton] at ih
    simp only [iter, st81_4]
    simp (disch := omega) only [dln_t, cond_true, ofn, dlt_t, ib_t, tn_cast, w6_id (x := (pre.length : Int) + 1), hw]
    show (match cf143 (d, ((pre ++ t :: r).getD pre.length (Ty.dflt term)).1, ()) with | some r17 => _ | none => none) = _
    rw [g1, g]
    simp only [vT]
    cases h1 : expsB d t.1 with
    | false => rfl
    | true =>
      simp only [Bool.not_true, cond_false, Bool.true_and]
      show (bif !(inV p t) then _ else _) = _
      cases h2 : inV p t with
      | false => rfl
      | true =>
        simp only [Bool.not_true, cond_false, Bool.true_and]
        rcases hq with ⟨rfl, rfl⟩ | ⟨pre', s, rfl, rfl⟩
        · show (bif decide ((0 : Int) < ((([] : List term.den).length : Nat) : Int)) then _ else _) = _
          rw [dlt_f (by simp)]
          simp only [cond_false, ordB, Bool.true_and]
          exact ih
        · have hlen : (pre' ++ [s]).length = pre'.length + 1 := by simp
          have g0 : ∀ dd, (pre' ++ [s] ++ t :: r).getD pre'.length dd = s := fun dd => by rw [List.append_assoc, List.getD_eq_getElem?_getD, List.getElem?_append_right (Nat.le_refl _)]; simp
          have os := ho s (by simp)
          have g3 : cf147 (s.1, t.1, ()) = some (decide (keyX s.1 < keyX t.1), ()) := if_pos ⟨os, ot⟩
          have hwm : w6 (((pre' ++ [s]).length : Int) - 1) = (pre'.length : Int) := by rw [hlen]; exact (w6_id (by omega) (by simp at hl; omega)).trans (by omega)
          rw [dlt_t (by rw [hlen]; omega), cond_true, hwm, ib_t (by omega) (by simp at hl ⊢; omega), cond_true]
          show (match cf147 (((pre' ++ [s] ++ t :: r).getD pre'.length (Ty.dflt term)).1, t.1, ()) with | some r19 => _ | none => none) = _
          rw [g0, g3]
          simp only [ordB]
          cases h3 : decide (keyX s.1 < keyX t.1) with
          | false => rfl
          | true =>
            simp only [Bool.not_true, cond_false, cond_true, Bool.true_and]
            exact ih
open Classical in
noncomputable def cf119 : G81 := fun x => if okTs2 (tms x.1) then some (vP x.1, ()) else none
where okTs2 (l : List term.den) : Prop := l.length ≤ 2000000 ∧ ∀ t ∈ l, okX t.1
theorem k119 : KOne Tryz.prog 81 ⟨[.v poly], [.bool], false, false, 0, cf119⟩ := ok81 _ _ _ _ (.cons k82 (.cons k73 (.cons k143 (.cons k147 .nil)))) cf119 fun x y h => by
  obtain ⟨⟨p, d, l, u⟩, _⟩ := x
  change List term.den at l
  change Int at p
  change Int at d
  simp only [cf119] at h
  split at h
  · rename_i hc
    injection h with h; subst h
    obtain ⟨h1, h2⟩ := hc
    have h1 : l.length ≤ 2000000 := h1
    refine ⟨l.length + 1, ?_⟩
    simp only [fn81]
    rw [show cf82 (p, ()) = some (isP p, ()) from rfl, show cf73 (d, (1 : Int), (3 : Int), ()) = some (decide (1 ≤ d) && decide (d ≤ 3), ()) from rfl]
    show _ = some ((isP p && (decide (1 ≤ d) && decide (d ≤ 3))) && vT p d none l, ())
    cases hP : isP p with
    | false => rfl
    | true =>
      have hp : 2 ≤ p ∧ p ≤ 13 := by simp only [isP, Bool.or_eq_true, decide_eq_true_eq] at hP; omega
      cases hd : (decide (1 ≤ d) && decide (d ≤ 3)) with
      | false => rfl
      | true =>
        have hd' := hd
        simp only [Bool.and_eq_true, decide_eq_true_eq] at hd'
        simp only [Bool.not_true, cond_false, Bool.true_and, ru81_4]
        exact run119 hp hd' l [] none (l.length + 1) (.inl ⟨rfl, rfl⟩) (by omega) h1 h2
  · cases h
theorem in160 {F0 F : Nat} {p d : Int} {tt : List term.den} {a b c v : Int} {l : List term.den} {n i : Int} {kx : ShVal sh91_9 → Option R91} (hd : 1 ≤ d ∧ d ≤ 3) :
    iter (fun s k => st91_9 cf82 cf87 cf151 cf159 F0 s k kx) (F + 4) ((p, d, tt, ()), (((a, b, c, ()), v, ()), ((d, ()), ((l, ()), ((n, ()), ((i, ()), ())))))) =
    bif (decide (2 ≤ d) || decide (b = 0)) && (decide (3 ≤ d) || decide (c = 0)) then kx ((p, d, tt, ()), (((a, b, c, ()), v, ()), (((3 : Int), ()), ((l, ()), ((n, ()), ((i, ()), ())))))) else some (false, ()) := by
  have e1 : ∀ d0 : Int, iter (fun s k => st91_9 cf82 cf87 cf151 cf159 F0 s k kx) (F + 4) ((p, d0, tt, ()), (((a, b, c, ()), v, ()), (((1 : Int), ()), ((l, ()), ((n, ()), ((i, ()), ())))))) = bif !decide (b = 0) then some (false, ()) else (bif !decide (c = 0) then some (false, ()) else kx ((p, d0, tt, ()), (((a, b, c, ()), v, ()), (((3 : Int), ()), ((l, ()), ((n, ()), ((i, ()), ()))))))) := fun d0 => by kernel_rfl
  have e2 : ∀ d0 : Int, iter (fun s k => st91_9 cf82 cf87 cf151 cf159 F0 s k kx) (F + 4) ((p, d0, tt, ()), (((a, b, c, ()), v, ()), (((2 : Int), ()), ((l, ()), ((n, ()), ((i, ()), ())))))) = (bif !decide (c = 0) then some (false, ()) else kx ((p, d0, tt, ()), (((a, b, c, ()), v, ()), (((3 : Int), ()), ((l, ()), ((n, ()), ((i, ()), ()))))))) := fun d0 => by kernel_rfl
  have e3 : ∀ d0 : Int, iter (fun s k => st91_9 cf82 cf87 cf151 cf159 F0 s k kx) (F + 4) ((p, d0, tt, ()), (((a, b, c, ()), v, ()), (((3 : Int), ()), ((l, ()), ((n, ()), ((i, ()), ())))))) = kx ((p, d0, tt, ()), (((a, b, c, ()), v, ()), (((3 : Int), ()), ((l, ()), ((n, ()), ((i, ()), ())))))) := fun d0 => by kernel_rfl
  rcases (show d = 1 ∨ d = 2 ∨ d = 3 by omega) with rfl | rfl | rfl
  · rw [e1]
    by_cases q1 : b = 0 <;> by_cases q2 : c = 0 <;> simp [q1, q2]
  · rw [e2]
    by_cases q2 : c = 0 <;> simp [q2]
  · rw [e3]; simp
end Go.Proofs.YtmdpmnjnpnjppaaGreatEv
