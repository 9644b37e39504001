/- The program's operations on plain typed data, that the machine does the same, what the functions come to, and what they give (part 6). No condition. -/
import Derived.Test.YtmdpmnjnpnjppaaEA4205
set_option linter.unusedVariables false
set_option linter.unusedSimpArgs false
namespace Go.Proofs.YtmdpmnjnpnjppaaEv
open Go Go.RowKit
abbrev R122 : Type := Ress [(.slice 26 (.slice 2 i64))]
abbrev G122 : Type := Args [.v i64, .v i64, .v mat] → Option R122
abbrev kp122 : List (Nat × List Nat) := [(0, [1, 5, 0]), (1, [1, 7, 5, 0]), (2, [1, 7, 5, 8, 0]), (3, [15, 0, 8, 5, 7, 1]), (5, [9, 0, 8, 5, 7, 1]), (6, [10, 9, 0, 8, 5, 7, 1]), (7, [21, 9, 10, 0, 8, 5, 7, 1]), (9, [11, 9, 10, 0, 8, 5, 7, 1]), (10, [32, 11, 9, 10, 0, 8, 5, 7, 1]), (11, [9, 11, 10, 0, 8, 5, 7, 1]), (12, [10, 9, 0, 8, 5, 7, 1]), (8, [10, 9, 0, 8, 5, 7, 1]), (13, [8, 1, 7, 5, 0]), (4, [1, 7, 5, 8, 0]), (14, [6])]
abbrev ct122 (g41 : G41) : CTab := [(41, ⟨[.v i64, .v i64], [i64], false, false, 0, g41⟩)]
abbrev kr122 : Env → Option R122 := endK TT [.tmp 6] [(.slice 26 (.slice 2 i64))] true false
abbrev sh122_7 : Shape := [(0, vv i64), (1, vv i64), (5, bb mat), (7, vr 26 (.slice 2 i64) 113 false), (8, vv i64), (9, vr 2 i64 145 false), (10, vv i64)]
def st122_7 (g41 : G41) (F : Nat) (s : ShVal sh122_7) (k kx : ShVal sh122_7 → Option R122) : Option R122 :=
  match s with
  | ((t0, _), (t1, _), (t5, _), (t7, _), (t8, _), (t9, _), (t10, _), _) => (bif decide (t10 < t1) then (bif ib t8 (Int.ofNat 3) then (bif ib t10 (Int.ofNat 3) then (bif decide (t8 = t10) then (match (g41 (t0, ((w6 ((w6 (tget (0 : Int) 3 (tget (Ty.dflt (.arr 3 (.int .u8))) 3 t5 (tn t8)) (tn t10))) - (1 : Int))), ()))) with | some r26 => (bif (growOk (List.length t9) (List.length (r26.1 :: []))) then k ((t0, ()), ((t1, ()), ((t5, ()), ((t7, ()), ((t8, ()), (((t9 ++ (r26.1 :: [])), ()), (((w6 (t10 + (1 : Int))), ()), ()))))))) else none) | none => none) else (bif (growOk (List.length t9) (List.length ((w6 (tget (0 : Int) 3 (tget (Ty.dflt (.arr 3 (.int .u8))) 3 t5 (tn t8)) (tn t10))) :: []))) then k ((t0, ()), ((t1, ()), ((t5, ()), ((t7, ()), ((t8, ()), (((t9 ++ ((w6 (tget (0 : Int) 3 (tget (Ty.dflt (.arr 3 (.int .u8))) 3 t5 (tn t8)) (tn t10))) :: [])), ()), (((w6 (t10 + (1 : Int))), ()), ()))))))) else none)) else none) else none) else kx ((t0, ()), ((t1, ()), ((t5, ()), ((t7, ()), ((t8, ()), ((t9, ()), ((t10, ()), ()))))))))
def ru122_7 (g41 : G41) (F : Nat) (s : ShVal sh122_7) (kx : ShVal sh122_7 → Option R122) : Option R122 := iter (fun s k => st122_7 g41 F s k kx) F s
abbrev ls122_7 (g41 : G41) (F : Nat) : LS R122 := ⟨sh122_7, 2, ru122_7 g41 F⟩
abbrev sh122_3 : Shape := [(0, vv i64), (1, vv i64), (5, bb mat), (7, vr 26 (.slice 2 i64) 113 false), (8, vv i64)]
def st122_3 (g41 : G41) (F : Nat) (s : ShVal sh122_3) (k kx : ShVal sh122_3 → Option R122) : Option R122 :=
  match s with
  | ((t0, _), (t1, _), (t5, _), (t7, _), (t8, _), _) => (bif decide (t8 < t1) then (ru122_7 g41 F ((t0, ()), ((t1, ()), ((t5, ()), ((t7, ()), ((t8, ()), (([], ()), (((0 : Int), ()), ()))))))) (fun s' => match s' with | ((t0, _), (t1, _), (t5, _), (t7, _), (t8, _), (t9, _), (t10, _), _) => (bif (growOk (List.length t7) (List.length (t9 :: []))) then k ((t0, ()), ((t1, ()), ((t5, ()), (((t7 ++ (t9 :: [])), ()), (((w6 (t8 + (1 : Int))), ()), ()))))) else none))) else kx ((t0, ()), ((t1, ()), ((t5, ()), ((t7, ()), ((t8, ()), ()))))))
def ru122_3 (g41 : G41) (F : Nat) (s : ShVal sh122_3) (kx : ShVal sh122_3 → Option R122) : Option R122 := iter (fun s k => st122_3 g41 F s k kx) F s
abbrev ls122_3 (g41 : G41) (F : Nat) : LS R122 := ⟨sh122_3, 0, ru122_3 g41 F⟩
def fn122 (g41 : G41) (F : Nat) (x : Args [.v i64, .v i64, .v mat]) : Option R122 :=
  match x with
  | (x0, x1, x2, _) => (ru122_3 g41 F ((x0, ()), ((x1, ()), ((x2, ()), (([], ()), (((0 : Int), ()), ()))))) (fun s' => match s' with | ((t0, _), (t1, _), (t5, _), (t7, _), (t8, _), _) => (some (t7, ()))))
theorem ev122_7 (g41 : G41) (F : Nat) (s : ShVal sh122_7) (k kx : ShVal sh122_7 → Option R122) : evL TT (ct122 g41 ) kp122 [] (loopOf Try.f122 7) (envOf sh122_7 s) (fitK sh122_7 k) (fun j e => bif Nat.beq j 2 then fitK sh122_7 kx e else none) kr122 = st122_7 g41 F s k kx := by
  obtain ⟨⟨t0, _⟩, ⟨t1, _⟩, ⟨t5, _⟩, ⟨t7, _⟩, ⟨t8, _⟩, ⟨t9, _⟩, ⟨t10, _⟩, _⟩ := s
  kernel_rfl
theorem ok122_7 (g41 : G41) (F : Nat) (hK : KOK Try.prog (ct122 g41 )) : LSOK Try.prog ⟨46, false, undef⟩ (ls122_7 g41 F) (loopOf Try.f122 7) kr122 :=
  loop_ok (st122_7 g41 F) mixed tt_ok hK (by kernel_rfl) (LTOK_by (l := []) (by kernel_rfl) trivial) (ev122_7 g41 F)
theorem ev122_3 (g41 : G41) (F : Nat) (s : ShVal sh122_3) (k kx : ShVal sh122_3 → Option R122) : evL TT (ct122 g41 ) kp122 [(7, ls122_7 g41 F)] (loopOf Try.f122 3) (envOf sh122_3 s) (fitK sh122_3 k) (fun j e => bif Nat.beq j 0 then fitK sh122_3 kx e else none) kr122 = st122_3 g41 F s k kx := by
  obtain ⟨⟨t0, _⟩, ⟨t1, _⟩, ⟨t5, _⟩, ⟨t7, _⟩, ⟨t8, _⟩, _⟩ := s
  kernel_rfl
theorem ok122_3 (g41 : G41) (F : Nat) (hK : KOK Try.prog (ct122 g41 )) : LSOK Try.prog ⟨46, false, undef⟩ (ls122_3 g41 F) (loopOf Try.f122 3) kr122 :=
  loop_ok (st122_3 g41 F) mixed tt_ok hK (by kernel_rfl) (LTOK_by (l := [loopOf Try.f122 7]) (by kernel_rfl) ⟨ls_at (by kernel_rfl) (ok122_7 g41 F hK), trivial⟩) (ev122_3 g41 F)
theorem ev122 (g41 : G41) (F : Nat) (x : Args [.v i64, .v i64, .v mat]) : fnK TT (ct122 g41 ) kp122 [(.slice 26 (.slice 2 i64))] [(3, ls122_3 g41 F)] (bodyOf Try.f122) [.tmp 6] [.v i64, .v i64, .v mat] true false x = fn122 g41 F x := by
  obtain ⟨x0, x1, x2, _⟩ := x
  kernel_rfl
theorem ok122 (g41 : G41) (hK : KOK Try.prog (ct122 g41 )) (cf : G122) (h : ∀ x y, cf x = some y → ∃ F, fn122 g41 F x = some y) : KOne Try.prog 122 ⟨[.v i64, .v i64, .v mat], [(.slice 26 (.slice 2 i64))], true, false, 0, cf⟩ :=
  fn_one rfl (c := bodyOf Try.f122) mixed tt_ok hK Try.func122 (by kernel_rfl) (by kernel_rfl) (Nat.le_of_ble_eq_true (by kernel_rfl)) (by decide) fun x y hxy => by
    obtain ⟨F, hF⟩ := h x y hxy
    exact ⟨[(3, ls122_3 g41 F)], LTOK_by (l := [loopOf Try.f122 3]) (by kernel_rfl) ⟨ls_at (by kernel_rfl) (ok122_3 g41 F hK), trivial⟩, (ev122 g41 F x).trans hF⟩
abbrev R99 : Type := Ress [.bool]
abbrev G99 : Type := Args [.v i64, .v i64, .v mat] → Option R99
abbrev kp99 : List (Nat × List Nat) := [(0, [0, 1, 5]), (1, [6])]
abbrev ct99 (g122 : G122) (g121 : G121) : CTab := [(122, ⟨[.v i64, .v i64, .v mat], [(.slice 26 (.slice 2 i64))], true, false, 0, g122⟩), (121, ⟨[.v i64, .v (.slice 26 (.slice 2 i64))], [(.slice 26 (.slice 2 i64))], false, false, 0, g121⟩)]
def fn99 (g122 : G122) (g121 : G121) (F : Nat) (x : Args [.v i64, .v i64, .v mat]) : Option R99 :=
  match x with
  | (x0, x1, x2, _) => (match (g122 (x0, (x1, (x2, ())))) with | some r7 => (match (g121 (x0, (r7.1, ()))) with | some r8 => (bif decide ((List.length r8.1) ≤ 9223372036854775807) then (some (decide ((Int.ofNat (List.length r8.1)) = (1 : Int)), ())) else none) | none => none) | none => none)
theorem ev99 (g122 : G122) (g121 : G121) (F : Nat) (x : Args [.v i64, .v i64, .v mat]) : fnK TT (ct99 g122 g121 ) kp99 [.bool] [] (bodyOf Try.f99) [.tmp 6] [.v i64, .v i64, .v mat] false false x = fn99 g122 g121 F x := by
  obtain ⟨x0, x1, x2, _⟩ := x
  kernel_rfl
theorem ok99 (g122 : G122) (g121 : G121) (hK : KOK Try.prog (ct99 g122 g121 )) (cf : G99) (h : ∀ x y, cf x = some y → ∃ F, fn99 g122 g121 F x = some y) : KOne Try.prog 99 ⟨[.v i64, .v i64, .v mat], [.bool], false, false, 0, cf⟩ :=
  fn_one rfl (c := bodyOf Try.f99) mixed tt_ok hK Try.func99 (by kernel_rfl) (by kernel_rfl) (Nat.le_of_ble_eq_true (by kernel_rfl)) (by decide) fun x y hxy => by
    obtain ⟨F, hF⟩ := h x y hxy
    exact ⟨[], LTOK_by (l := []) (by kernel_rfl) trivial, (ev99 g122 g121 F x).trans hF⟩
abbrev R127 : Type := Ress [(.slice 26 (.slice 2 i64))]
abbrev G127 : Type := Args [.v i64, .v i64, .v mat] → Option R127
abbrev kp127 : List (Nat × List Nat) := [(0, [0, 5, 1]), (1, [7, 0, 5, 1]), (2, [13, 7, 0, 5, 1, 12]), (3, [14, 5, 7, 13, 0, 1, 12]), (4, [5, 8, 7, 13, 0, 1, 12]), (5, [5, 8, 9, 7, 13, 0, 1, 12]), (6, [19, 5, 8, 9, 7, 13, 0, 1, 12, 18]), (7, [20, 19, 5, 8, 9, 7, 13, 0, 1, 12, 18]), (8, [10, 19, 5, 8, 9, 7, 13, 0, 1, 12, 18]), (9, [19, 5, 8, 9, 7, 13, 0, 1, 12, 18]), (10, [19, 5, 8, 9, 7, 13, 0, 1, 12, 18]), (11, [7, 9, 13, 0, 5, 1, 12]), (12, [13, 7, 0, 5, 1, 12]), (13, [13, 7, 0, 5, 1, 12]), (14, [6])]
abbrev ct127 : CTab := []
abbrev kr127 : Env → Option R127 := endK TT [.tmp 6] [(.slice 26 (.slice 2 i64))] true false
abbrev sh127_7 : Shape := [(0, vv i64), (1, vv i64), (5, bb mat), (7, vr 26 (.slice 2 i64) 113 false), (8, vv i64), (9, vr 2 i64 145 false), (12, vv i64), (13, vv i64), (18, vv i64), (19, vv i64)]
def st127_7 (F : Nat) (s : ShVal sh127_7) (k kx : ShVal sh127_7 → Option R127) : Option R127 :=
  match s with
  | ((t0, _), (t1, _), (t5, _), (t7, _), (t8, _), (t9, _), (t12, _), (t13, _), (t18, _), (t19, _), _) => (bif decide (t19 < t18) then (bif ib t8 (Int.ofNat 3) then (bif ib t19 (Int.ofNat 3) then (bif ib t19 (Int.ofNat (List.length t9)) then k ((t0, ()), ((t1, ()), ((t5, ()), ((t7, ()), ((t8, ()), (((List.set t9 (tn t19) (w6 (tget (0 : Int) 3 (tget (Ty.dflt (.arr 3 (.int .u8))) 3 t5 (tn t8)) (tn t19)))), ()), ((t12, ()), ((t13, ()), ((t18, ()), (((w6 (t19 + (1 : Int))), ()), ())))))))))) else none) else none) else none) else kx ((t0, ()), ((t1, ()), ((t5, ()), ((t7, ()), ((t8, ()), ((t9, ()), ((t12, ()), ((t13, ()), ((t18, ()), ((t19, ()), ())))))))))))
def ru127_7 (F : Nat) (s : ShVal sh127_7) (kx : ShVal sh127_7 → Option R127) : Option R127 := iter (fun s k => st127_7 F s k kx) F s
abbrev ls127_7 (F : Nat) : LS R127 := ⟨sh127_7, 2, ru127_7 F⟩
abbrev sh127_3 : Shape := [(0, vv i64), (1, vv i64), (5, bb mat), (7, vr 26 (.slice 2 i64) 113 false), (12, vv i64), (13, vv i64)]
def st127_3 (F : Nat) (s : ShVal sh127_3) (k kx : ShVal sh127_3 → Option R127) : Option R127 :=
  match s with
  | ((t0, _), (t1, _), (t5, _), (t7, _), (t12, _), (t13, _), _) => (bif decide (t13 < t12) then (bif ((decide ((0 : Int) ≤ t1) && decide (t1 ≤ (1099511627776 : Int))) && decide (t1 = t1)) then (ru127_7 F ((t0, ()), ((t1, ()), ((t5, ()), ((t7, ()), ((t13, ()), (((List.replicate (tn t1) (0 : Int)), ()), ((t12, ()), ((t13, ()), ((t1, ()), (((0 : Int), ()), ())))))))))) (fun s' => match s' with | ((t0, _), (t1, _), (t5, _), (t7, _), (t8, _), (t9, _), (t12, _), (t13, _), (t18, _), (t19, _), _) => (bif ib t8 (Int.ofNat (List.length t9)) then (bif (!decide (t0 = (0 : Int))) then (bif ib t8 (Int.ofNat (List.length t9)) then (bif (growOk (List.length t7) (List.length ((List.set t9 (tn t8) (Int.tmod (w6 ((w6 ((List.getD t9 (tn t8) (0 : Int)) + t0)) - (1 : Int))) t0)) :: []))) then k ((t0, ()), ((t1, ()), ((t5, ()), (((t7 ++ ((List.set t9 (tn t8) (Int.tmod (w6 ((w6 ((List.getD t9 (tn t8) (0 : Int)) + t0)) - (1 : Int))) t0)) :: [])), ()), ((t12, ()), (((w6 (t13 + (1 : Int))), ()), ())))))) else none) else none) else none) else none))) else none) else kx ((t0, ()), ((t1, ()), ((t5, ()), ((t7, ()), ((t12, ()), ((t13, ()), ())))))))
def ru127_3 (F : Nat) (s : ShVal sh127_3) (kx : ShVal sh127_3 → Option R127) : Option R127 := iter (fun s k => st127_3 F s k kx) F s
abbrev ls127_3 (F : Nat) : LS R127 := ⟨sh127_3, 0, ru127_3 F⟩
def fn127 (F : Nat) (x : Args [.v i64, .v i64, .v mat]) : Option R127 :=
  match x with
  | (x0, x1, x2, _) => (ru127_3 F ((x0, ()), ((x1, ()), ((x2, ()), (([], ()), ((x1, ()), (((0 : Int), ()), ())))))) (fun s' => match s' with | ((t0, _), (t1, _), (t5, _), (t7, _), (t12, _), (t13, _), _) => (some (t7, ()))))
theorem ev127_7 (F : Nat) (s : ShVal sh127_7) (k kx : ShVal sh127_7 → Option R127) : evL TT (ct127 ) kp127 [] (loopOf Try.f127 7) (envOf sh127_7 s) (fitK sh127_7 k) (fun j e => bif Nat.beq j 2 then fitK sh127_7 kx e else none) kr127 = st127_7 F s k kx := by
  obtain ⟨⟨t0, _⟩, ⟨t1, _⟩, ⟨t5, _⟩, ⟨t7, _⟩, ⟨t8, _⟩, ⟨t9, _⟩, ⟨t12, _⟩, ⟨t13, _⟩, ⟨t18, _⟩, ⟨t19, _⟩, _⟩ := s
  kernel_rfl
theorem ok127_7 (F : Nat) (hK : KOK Try.prog (ct127 )) : LSOK Try.prog ⟨50, false, undef⟩ (ls127_7 F) (loopOf Try.f127 7) kr127 :=
  loop_ok (st127_7 F) mixed tt_ok hK (by kernel_rfl) (LTOK_by (l := []) (by kernel_rfl) trivial) (ev127_7 F)
theorem ev127_3 (F : Nat) (s : ShVal sh127_3) (k kx : ShVal sh127_3 → Option R127) : evL TT (ct127 ) kp127 [(7, ls127_7 F)] (loopOf Try.f127 3) (envOf sh127_3 s) (fitK sh127_3 k) (fun j e => bif Nat.beq j 0 then fitK sh127_3 kx e else none) kr127 = st127_3 F s k kx := by
  obtain ⟨⟨t0, _⟩, ⟨t1, _⟩, ⟨t5, _⟩, ⟨t7, _⟩, ⟨t12, _⟩, ⟨t13, _⟩, _⟩ := s
  kernel_rfl
theorem ok127_3 (F : Nat) (hK : KOK Try.prog (ct127 )) : LSOK Try.prog ⟨50, false, undef⟩ (ls127_3 F) (loopOf Try.f127 3) kr127 :=
  loop_ok (st127_3 F) mixed tt_ok hK (by kernel_rfl) (LTOK_by (l := [loopOf Try.f127 7]) (by kernel_rfl) ⟨ls_at (by kernel_rfl) (ok127_7 F hK), trivial⟩) (ev127_3 F)
theorem ev127 (F : Nat) (x : Args [.v i64, .v i64, .v mat]) : fnK TT (ct127 ) kp127 [(.slice 26 (.slice 2 i64))] [(3, ls127_3 F)] (bodyOf Try.f127) [.tmp 6] [.v i64, .v i64, .v mat] true false x = fn127 F x := by
  obtain ⟨x0, x1, x2, _⟩ := x
  kernel_rfl
theorem ok127 (hK : KOK Try.prog (ct127 )) (cf : G127) (h : ∀ x y, cf x = some y → ∃ F, fn127 F x = some y) : KOne Try.prog 127 ⟨[.v i64, .v i64, .v mat], [(.slice 26 (.slice 2 i64))], true, false, 0, cf⟩ :=
  fn_one rfl (c := bodyOf Try.f127) mixed tt_ok hK Try.func127 (by kernel_rfl) (by kernel_rfl) (Nat.le_of_ble_eq_true (by kernel_rfl)) (by decide) fun x y hxy => by
    obtain ⟨F, hF⟩ := h x y hxy
    exact ⟨[(3, ls127_3 F)], LTOK_by (l := [loopOf Try.f127 3]) (by kernel_rfl) ⟨ls_at (by kernel_rfl) (ok127_3 F hK), trivial⟩, (ev127 F x).trans hF⟩
abbrev R105 : Type := Ress [(.slice 2 i64)]
abbrev G105 : Type := Args [.v i64, .v i64, .v mat] → Option R105
abbrev kp105 : List (Nat × List Nat) := [(0, [0, 1, 5]), (1, [7]), (2, [16, 7]), (3, [6]), (4, [6])]
abbrev ct105 (g127 : G127) (g126 : G126) : CTab := [(127, ⟨[.v i64, .v i64, .v mat], [(.slice 26 (.slice 2 i64))], true, false, 0, g127⟩), (126, ⟨[.v i64, .v (.slice 26 (.slice 2 i64))], [(.slice 26 (.slice 2 i64))], true, false, 0, g126⟩)]
def fn105 (g127 : G127) (g126 : G126) (F : Nat) (x : Args [.v i64, .v i64, .v mat]) : Option R105 :=
  match x with
  | (x0, x1, x2, _) => (match (g127 (x0, (x1, (x2, ())))) with | some r7 => (match (g126 (x0, (r7.1, ()))) with | some r8 => (bif decide ((List.length r8.1) ≤ 9223372036854775807) then (bif (!decide ((Int.ofNat (List.length r8.1)) = (1 : Int))) then (some ([], ())) else (bif ib (0 : Int) (Int.ofNat (List.length r8.1)) then (bif (((!true) || ((!false) && true)) && ((!true) || ((!(List.isEmpty (List.getD r8.1 (tn (0 : Int)) []))) && true))) then (some ((List.getD r8.1 (tn (0 : Int)) []), ())) else none) else none)) else none) | none => none) | none => none)
theorem ev105 (g127 : G127) (g126 : G126) (F : Nat) (x : Args [.v i64, .v i64, .v mat]) : fnK TT (ct105 g127 g126 ) kp105 [(.slice 2 i64)] [] (bodyOf Try.f105) [.tmp 6] [.v i64, .v i64, .v mat] true true x = fn105 g127 g126 F x := by
  obtain ⟨x0, x1, x2, _⟩ := x
  kernel_rfl
theorem ok105 (g127 : G127) (g126 : G126) (hK : KOK Try.prog (ct105 g127 g126 )) (cf : G105) (h : ∀ x y, cf x = some y → ∃ F, fn105 g127 g126 F x = some y) : KOne Try.prog 105 ⟨[.v i64, .v i64, .v mat], [(.slice 2 i64)], true, true, 0, cf⟩ :=
  fn_one rfl (c := bodyOf Try.f105) mixed tt_ok hK Try.func105 (by kernel_rfl) (by kernel_rfl) (Nat.le_of_ble_eq_true (by kernel_rfl)) (by decide) fun x y hxy => by
    obtain ⟨F, hF⟩ := h x y hxy
    exact ⟨[], LTOK_by (l := []) (by kernel_rfl) trivial, (ev105 g127 g126 F x).trans hF⟩
def chE (p : Int) (g : Mat) (i j : Nat) : Int := if i = j then (me g i j - 1) % p else me g i j
def chRow (p : Int) (n : Nat) (g : Mat) (i : Nat) : List Int := (List.range n).map (chE p g i)
def chRows (p : Int) (n : Nat) (g : Mat) : List (List Int) := (List.range n).map (chRow p n g)
theorem chRows_len {p : Int} {n : Nat} {g : Mat} : (chRows p n g).length = n := by simp [chRows]
theorem range_snoc (f : Nat → Int) (j : Nat) : (List.range (j + 1)).map f = (List.range j).map f ++ [f j] := by simp [List.range_succ]
theorem range_snocL (f : Nat → List Int) (j : Nat) : (List.range (j + 1)).map f = (List.range j).map f ++ [f j] := by simp [List.range_succ]
theorem in109 {p : Int} {n i : Nat} {g : Mat} (hp : 2 ≤ p ∧ p ≤ 13) (hn : n ≤ 3) (hi : i < n) (hg : okM g = true) {F0 F : Nat} (hF : n < F) {out : List (List Int)} {kx : ShVal sh122_7 → Option R122} :
    iter (fun s k => st122_7 cf74 F0 s k kx) F ((p, ()), (((n : Int), ()), ((g, ()), ((out, ()), (((i : Int), ()), (([], ()), (((0 : Int), ()), ()))))))) =
      kx ((p, ()), (((n : Int), ()), ((g, ()), ((out, ()), (((i : Int), ()), ((chRow p n g i, ()), (((n : Int), ()), ()))))))) := by
  have key := iter_run (step := fun s k => st122_7 cf74 F0 s k kx) (r := kx ((p, ()), (((n : Int), ()), ((g, ()), ((out, ()), (((i : Int), ()), ((chRow p n g i, ()), (((n : Int), ()), ())))))))) n F
    (fun j => ((p, ()), (((n : Int), ()), ((g, ()), ((out, ()), (((i : Int), ()), (((List.range j).map (chE p g i), ()), (((j : Int), ()), ())))))))) hF (fun j hj k => ?_) (fun k => ?_)
  · exact key
  · have hm := me_rng hg i j
    have em : tget (0 : Int) 3 (tget (Ty.dflt (.arr 3 (.int .u8))) 3 g i) j = me g i j := rfl
    have ll : ((List.range j).map (chE p g i)).length = j := by simp
    have wi : w6 ((j : Int) + 1) = ((j + 1 : Nat) : Int) := by rw [w6_id (by omega) (by omega)]; rfl
    have w1 : w6 (me g i j) = me g i j := w6_id (by omega) (by omega)
    have i3 : ib (i : Int) (Int.ofNat 3) = true := ib_t (by omega) (by simp; omega)
    have j3 : ib (j : Int) (Int.ofNat 3) = true := ib_t (by omega) (by simp; omega)
    rw [range_snoc]
    by_cases q : i = j
    · subst q
      have g74 : cf74 (p, w6 (me g i i - 1), ()) = some (chE p g i i, ()) := by
        rw [w6_id (by omega) (by omega), g74_ok (by omega), chE, if_pos rfl]
      generalize (List.range i).map (chE p g i) = L at *
      simp (disch := omega) only [st122_7, dlt_t, cond_true, i3, tn_cast, em, w1, decide_true, g74, grow_t, ll, List.length_singleton, wi]
    · have e1 : chE p g i j = me g i j := if_neg q
      rw [e1]
      generalize (List.range j).map (chE p g i) = L at *
      simp (disch := omega) only [st122_7, dlt_t, cond_true, i3, j3, tn_cast, em, w1, deq_f, cond_false, grow_t, ll, List.length_singleton, wi]
  · show _ = kx ((p, ()), (((n : Int), ()), ((g, ()), ((out, ()), (((i : Int), ()), ((chRow p n g i, ()), (((n : Int), ()), ())))))))
    have e : chRow p n g i = (List.range n).map (chE p g i) := rfl
    rw [e]
    simp (disch := omega) only [st122_7, dlt_f, cond_false]
theorem run109 {p : Int} {n : Nat} {g : Mat} (hp : 2 ≤ p ∧ p ≤ 13) (hn : n ≤ 3) (hg : okM g = true) : fn122 cf74 5 (p, (n : Int), g, ()) = some (chRows p n g, ()) := by
  simp only [fn122, ru122_3]
  have key := iter_run (step := fun s k => st122_3 cf74 5 s k (fun s' => match s' with | ((t0, _), (t1, _), (t5, _), (t7, _), (t8, _), _) => (some (t7, ())))) (r := some (chRows p n g, ())) n 5
    (fun i => ((p, ()), (((n : Int), ()), ((g, ()), (((List.range i).map (chRow p n g), ()), (((i : Int), ()), ())))))) (by omega) (fun i hi k => ?_) (fun k => ?_)
  · exact key
  · have ll : ((List.range i).map (chRow p n g)).length = i := by simp
    have wi : w6 ((i : Int) + 1) = ((i + 1 : Nat) : Int) := by rw [w6_id (by omega) (by omega)]; rfl
    rw [range_snocL]
    generalize (List.range i).map (chRow p n g) = L at *
    simp (disch := omega) only [st122_3, dlt_t, cond_true, ru122_7]
    rw [in109 hp hn hi hg (by omega)]
    simp (disch := omega) only [grow_t, ll, List.length_singleton, cond_true, wi]
  · have e : chRows p n g = (List.range n).map (chRow p n g) := rfl
    rw [e]
    simp (disch := omega) only [st122_3, dlt_f, cond_false]
noncomputable def cf109 : G122 := by
  classical exact fun x => if ∃ n : Nat, x.2.1 = (n : Int) ∧ n ≤ 3 ∧ (2 ≤ x.1 ∧ x.1 ≤ 13) ∧ okM x.2.2.1 = true then some (chRows x.1 (tn x.2.1) x.2.2.1, ()) else none
theorem k109 : KOne Try.prog 122 ⟨[.v i64, .v i64, .v mat], [.slice 26 (.slice 2 i64)], true, false, 0, cf109⟩ := ok122 _ (.cons k74 .nil) cf109 fun x y h => by
  obtain ⟨p, n, g, _⟩ := x
  simp only [cf109] at h
  split at h
  · rename_i hc
    obtain ⟨m, rfl, h1, h2, h3⟩ := hc
    injection h with h; subst h
    exact ⟨5, run109 h2 h1 h3⟩
  · cases h
theorem g109_ok {p : Int} {n : Nat} {g : Mat} (hp : 2 ≤ p ∧ p ≤ 13) (hn : n ≤ 3) (hg : okM g = true) : cf109 (p, (n : Int), g, ()) = some (chRows p n g, ()) := if_pos ⟨n, rfl, hn, hp, hg⟩
theorem in112 {p : Int} {n i : Nat} {g : Mat} (hn : n ≤ 3) (hi : i < n) (hg : okM g = true) {F0 F : Nat} (hF : n < F) {out : List (List Int)} {kx : ShVal sh127_7 → Option R127} :
    iter (fun s k => st127_7 F0 s k kx) F ((p, ()), (((n : Int), ()), ((g, ()), ((out, ()), (((i : Int), ()), ((List.replicate n 0, ()), (((n : Int), ()), (((i : Int), ()), (((n : Int), ()), (((0 : Int), ()), ())))))))))) =
      kx ((p, ()), (((n : Int), ()), ((g, ()), ((out, ()), (((i : Int), ()), (((List.range n).map (me g i), ()), (((n : Int), ()), (((i : Int), ()), (((n : Int), ()), (((n : Int), ()), ())))))))))) := by
  have hlm : ((List.range n).map (me g i)).length = (List.replicate n (0 : Int)).length := by simp
  have key := iter_run (step := fun s k => st127_7 F0 s k kx) (r := kx ((p, ()), (((n : Int), ()), ((g, ()), ((out, ()), (((i : Int), ()), (((List.range n).map (me g i), ()), (((n : Int), ()), (((i : Int), ()), (((n : Int), ()), (((n : Int), ()), ()))))))))))) n F
    (fun j => ((p, ()), (((n : Int), ()), ((g, ()), ((out, ()), (((i : Int), ()), (((((List.range n).map (me g i)).take j ++ (List.replicate n (0 : Int)).drop j), ()), (((n : Int), ()), (((i : Int), ()), (((n : Int), ()), (((j : Int), ()), ()))))))))))) hF (fun j hj k => ?_) (fun k => ?_)
  · exact key
  · have hm := me_rng hg i j
    have em : tget (0 : Int) 3 (tget (Ty.dflt (.arr 3 (.int .u8))) 3 g i) j = me g i j := rfl
    have l1 := split_len (i := j) hlm (by simp; omega)
    have s1 := split_set (i := j) hlm (by simp; omega)
    have ee : el ((List.range n).map (me g i)) j = me g i j := by simp [el, List.getD_eq_getElem?_getD, hj]
    have wi : w6 ((j : Int) + 1) = ((j + 1 : Nat) : Int) := by rw [w6_id (by omega) (by omega)]; rfl
    have w1 : w6 (me g i j) = me g i j := w6_id (by omega) (by omega)
    have i3 : ib (i : Int) (Int.ofNat 3) = true := ib_t (by omega) (by simp; omega)
    have j3 : ib (j : Int) (Int.ofNat 3) = true := ib_t (by omega) (by simp; omega)
    have l2 : ((List.range n).map (me g i)).length = n := by simp
    rw [ee] at s1
    rw [← s1]
    generalize ((List.range n).map (me g i)).take j ++ (List.replicate n (0 : Int)).drop j = L at *
    simp (disch := omega) only [st127_7, dlt_t, cond_true, i3, j3, tn_cast, em, w1, ib_t, ofn, wi]
  · rw [show ((List.range n).map (me g i)).take n ++ (List.replicate n (0 : Int)).drop n = (List.range n).map (me g i) by
      have : ((List.range n).map (me g i)).length = n := by simp
      rw [List.drop_eq_nil_of_le (by simp), List.append_nil]
      rw [List.take_of_length_le (by omega)]]
    simp (disch := omega) only [st127_7, dlt_f, cond_false]
theorem range_set {n i : Nat} {f : Nat → Int} {x : Int} (hi : i < n) : ((List.range n).map f).set i x = (List.range n).map fun j => if i = j then x else f j := by
  apply List.ext_getElem?
  intro j
  rw [List.getElem?_set]
  by_cases q : i = j
  · subst q; simp [hi]
  · rw [if_neg q]
    simp only [List.getElem?_map, List.getElem?_range]
    by_cases h : j < n
    · simp [h, q]
    · simp [h]
theorem run112 {p : Int} {n : Nat} {g : Mat} (hp : 2 ≤ p ∧ p ≤ 13) (hn : n ≤ 3) (hg : okM g = true) : fn127 5 (p, (n : Int), g, ()) = some (chRows p n g, ()) := by
  simp only [fn127, ru127_3]
  have key := iter_run (step := fun s k => st127_3 5 s k (fun s' => match s' with | ((t0, _), (t1, _), (t5, _), (t7, _), (t12, _), (t13, _), _) => (some (t7, ())))) (r := some (chRows p n g, ())) n 5
    (fun i => ((p, ()), (((n : Int), ()), ((g, ()), (((List.range i).map (chRow p n g), ()), (((n : Int), ()), (((i : Int), ()), ()))))))) (by omega) (fun i hi k => ?_) (fun k => ?_)
  · exact key
  · have ll : ((List.range i).map (chRow p n g)).length = i := by simp
    have wi : w6 ((i : Int) + 1) = ((i + 1 : Nat) : Int) := by rw [w6_id (by omega) (by omega)]; rfl
    have hm := me_rng hg i i
    have e1 : (List.range n).map (me g i) = (List.range n).map (me g i) := rfl
    have ge : ((List.range n).map (me g i)).getD i 0 = me g i i := by simp [List.getD_eq_getElem?_getD, hi]
    have er : ((List.range n).map (me g i)).set i ((me g i i - 1) % p) = chRow p n g i := by
      rw [range_set hi]
      refine List.map_congr_left fun j _ => ?_
      by_cases q : i = j
      · subst q; simp [chE]
      · simp [chE, q]
    have et : Int.tmod (w6 (w6 (me g i i + p) - 1)) p = (me g i i - 1) % p := by
      rw [w6_id (x := me g i i + p) (by omega) (by omega), w6_id (by omega) (by omega), Int.tmod_eq_emod_of_nonneg (by omega)]
      rw [show me g i i + p - 1 = me g i i - 1 + p by omega, Int.add_emod_right]
    have lm : ((List.range n).map (me g i)).length = n := by simp
    rw [range_snocL]
    generalize (List.range i).map (chRow p n g) = L at *
    simp (disch := omega) only [st127_3, dlt_t, dle_t, decide_true, Bool.and_self, Bool.true_and, cond_true, ru127_7, tn_cast]
    rw [in112 hn hi hg (by omega)]
    simp (disch := omega) only [ofn, lm, ib_t, cond_true, deq_f, Bool.not_false, tn_cast, ge, et, er, grow_t, ll, List.length_singleton, wi]
  · have e : chRows p n g = (List.range n).map (chRow p n g) := rfl
    rw [e]
    simp (disch := omega) only [st127_3, dlt_f, cond_false]
noncomputable def cf112 : G127 := by
  classical exact fun x => if ∃ n : Nat, x.2.1 = (n : Int) ∧ n ≤ 3 ∧ (2 ≤ x.1 ∧ x.1 ≤ 13) ∧ okM x.2.2.1 = true then some (chRows x.1 (tn x.2.1) x.2.2.1, ()) else none
theorem k112 : KOne Try.prog 127 ⟨[.v i64, .v i64, .v mat], [.slice 26 (.slice 2 i64)], true, false, 0, cf112⟩ := ok127 .nil cf112 fun x y h => by
  obtain ⟨p, n, g, _⟩ := x
  simp only [cf112] at h
  split at h
  · rename_i hc
    obtain ⟨m, rfl, h1, h2, h3⟩ := hc
    injection h with h; subst h
    exact ⟨5, run112 h2 h1 h3⟩
  · cases h
theorem g112_ok {p : Int} {n : Nat} {g : Mat} (hp : 2 ≤ p ∧ p ≤ 13) (hn : n ≤ 3) (hg : okM g = true) : cf112 (p, (n : Int), g, ()) = some (chRows p n g, ()) := if_pos ⟨n, rfl, hn, hp, hg⟩
theorem matB_is {p n : Int} {g : Mat} (h : matB p n g = true) : isP p = true ∧ ∃ k : Nat, n = (k : Int) ∧ 1 ≤ k ∧ k ≤ 3 ∧ rngB p k g = true ∧ ¬ detN k (me g) % p = 0 := by
  simp only [matB, Bool.and_eq_true] at h
  have hn := inR_cases h.2.1
  refine ⟨h.1, n.toNat, by omega, by omega, by omega, ?_, ?_⟩
  · have := h.2.2.1
    rwa [show ((n.toNat : Nat) : Int) = n by omega]
  · have := h.2.2.2
    simpa using this
theorem me_lt {p n : Int} {g : Mat} (hr : rngB p n g = true) {i j : Nat} (hi : i < 3) (hj : j < 3) : me g i j < p := by
  obtain ⟨⟨a, b, c⟩, ⟨d, e, f⟩, u, v, x⟩ := rng_lt hr
  rcases (show i = 0 ∨ i = 1 ∨ i = 2 by omega) with rfl | rfl | rfl <;> rcases (show j = 0 ∨ j = 1 ∨ j = 2 by omega) with rfl | rfl | rfl <;> assumption
theorem can_range {p : Int} {m : Nat} {f : Nat → Int} (hp : 0 < p) (h : ∀ i, i < m → 0 ≤ f i ∧ f i < p) : Can p m ((List.range m).map f) := by
  refine ⟨by simp, fun i => ?_⟩
  by_cases q : i < m
  · have : el ((List.range m).map f) i = f i := by simp [el, List.getD_eq_getElem?_getD, q]
    rw [this]; exact h i q
  · rw [el_ge (by simp; omega)]; omega
theorem chRows_can {p : Int} {n : Nat} {g : Mat} (hp : 2 ≤ p) (hg : okM g = true) (hn : n ≤ 3) {q : Int} (hr : rngB p q g = true) : ∀ r ∈ chRows p n g, Can p n r := by
  intro r h
  obtain ⟨i, hi, rfl⟩ := List.mem_map.1 h
  have hi := List.mem_range.1 hi
  refine can_range (by omega) fun j hj => ?_
  have h1 := me_rng hg i j
  have h2 := me_lt hr (i := i) (j := j) (by omega) (by omega)
  unfold chE
  split
  · exact md_rng (by omega)
  · omega
noncomputable def cf94 : G99 := fn99 cf109 cf108 0
theorem k94 : KOne Try.prog 99 ⟨[.v i64, .v i64, .v mat], [.bool], false, false, 0, cf94⟩ := ok99 _ _ (.cons k109 (.cons k108 .nil)) cf94 fun x y h => ⟨0, h⟩
def echM (p : Int) (n : Nat) (g : Mat) : List (List Int) := ech p (chRows p n g)
theorem echM_len {p : Int} {n : Nat} {g : Mat} : (echM p n g).length ≤ n := by have := ech_len (p := p) (rows := chRows p n g); rwa [chRows_len] at this
theorem g94_ok {p : Int} {n : Nat} {g : Mat} (hg : okM g = true) (hP : isP p = true) (hn : n ≤ 3) {q : Int} (hr : rngB p q g = true) : cf94 (p, (n : Int), g, ()) = some (decide ((echM p n g).length = 1), ()) := by
  have hp := isP_pos hP
  have g1 := g109_ok (p := p) (by omega) hn hg
  have g2 := g108_ok hP (chRows_can (by omega) hg hn hr) (by omega) (by rw [chRows_len]; omega)
  have hl := echM_len (p := p) (n := n) (g := g)
  simp only [cf94, fn99, g1, g2]
  unfold echM at hl ⊢
  simp (disch := omega) only [dln_t, cond_true, ofn]
  congr 2
  apply decide_eq_decide.2
  omega
def rootL (p : Int) (n : Nat) (g : Mat) : List Int := if (echM p n g).length = 1 then (echM p n g).getD 0 [] else []
noncomputable def cf95 : G105 := fn105 cf112 cf145 0
theorem k95 : KOne Try.prog 105 ⟨[.v i64, .v i64, .v mat], [.slice 2 i64], true, true, 0, cf95⟩ := ok105 _ _ (.cons k112 (.cons k145 .nil)) cf95 fun x y h => ⟨0, h⟩
theorem echM_can {p : Int} {n : Nat} {g : Mat} (hP : isP p = true) (hg : okM g = true) (hn : n ≤ 3) {q : Int} (hr : rngB p q g = true) : ∀ r ∈ echM p n g, Can p n r :=
  (ech_RR hP (chRows_can (by have := isP_pos hP; omega) hg hn hr)).can
theorem head_can {p : Int} {n : Nat} {g : Mat} (hP : isP p = true) (hg : okM g = true) (hn : n ≤ 3) {q : Int} (hr : rngB p q g = true) (h : (echM p n g).length = 1) : Can p n ((echM p n g).getD 0 []) := by
  apply echM_can hP hg hn hr
  rw [List.getD_eq_getElem?_getD, List.getElem?_eq_getElem (by omega)]
  exact List.getElem_mem _
theorem g95_ok {p : Int} {n : Nat} {g : Mat} (hg : okM g = true) (hP : isP p = true) (hn : 1 ≤ n ∧ n ≤ 3) {q : Int} (hr : rngB p q g = true) : cf95 (p, (n : Int), g, ()) = some (rootL p n g, ()) := by
  have hp := isP_pos hP
  have g1 := g112_ok (p := p) (by omega) hn.2 hg
  have g2 := g145_ok hP (chRows_can (by omega) hg hn.2 hr) (by omega) (by rw [chRows_len]; omega)
  have hl := echM_len (p := p) (n := n) (g := g)
  simp only [cf95, fn105, g1, g2]
  unfold rootL
  show (bif decide ((echM p n g).length ≤ _) then _ else _) = _
  by_cases h : (echM p n g).length = 1
  · have hc := head_can hP hg hn.2 hr h
    have he : ((echM p n g).getD 0 []).isEmpty = false := by
      have := hc.len
      cases hh : (echM p n g).getD 0 [] with
      | nil => rw [hh] at this; simp at this; omega
      | cons a r => rfl
    have e0 : (ech p (chRows p n g)).length = 1 := h
    have e1 : List.getD (ech p (chRows p n g)) (tn 0) [] = (echM p n g).getD 0 [] := rfl
    simp (disch := omega) only [dln_t, cond_true, ofn, e0, deq_t, decide_true, Bool.not_true, cond_false, ib_t, e1, he, if_pos h]
    rfl
  · have e0 : (ech p (chRows p n g)).length ≠ 1 := h
    simp (disch := omega) only [dln_t, cond_true, ofn, deq_f, Bool.not_false, if_neg h]
theorem root_empty {p : Int} {n : Nat} {g : Mat} (hP : isP p = true) (hg : okM g = true) (hn : 1 ≤ n ∧ n ≤ 3) {q : Int} (hr : rngB p q g = true) : (!(rootL p n g).isEmpty) = decide ((echM p n g).length = 1) := by
  unfold rootL
  by_cases h : (echM p n g).length = 1
  · rw [if_pos h, decide_eq_true h]
    have := (head_can hP hg hn.2 hr h).len
    cases hh : (echM p n g).getD 0 [] with
    | nil => rw [hh] at this; simp at this; omega
    | cons a r => rfl
  · rw [if_neg h, decide_eq_false h]; rfl
open Go Go.RowKit Go.Proofs
abbrev R101 : Type := Ress [i64]
abbrev G101 : Type := Args [.v mat, .v mat] → Option R101
def mcell (g : mat.den) (i j : Nat) : Int := tget (0 : Int) 3 (tget (Ty.dflt (.arr 3 (.int .u8))) 3 g i) j
def rkM (g : mat.den) (i : Nat) : Int := 65536 * mcell g i 0 + 256 * mcell g i 1 + mcell g i 2
def keyM (g : mat.den) : Int := 281474976710656 * rkM g 0 + 16777216 * rkM g 1 + rkM g 2
def sgn (a b : Int) : Int := if a < b then -1 else if b < a then 1 else 0
def cmpM (a b : mat.den) : Int := sgn (keyM a) (keyM b)
theorem rd_mat {h : Mem} {A : mat.den} {cs : List Value} {bs : List Nat} (hr : Rd h mat A cs bs) {i j : Nat} (hi : i < 3) (hj : j < 3) : cs[i * 3 + j]? = some (.int .u8 (mcell A i j)) ∧ (Lit.int .u8 (mcell A i j)).wf = true := by
  obtain ⟨hl, hr⟩ := hr
  obtain ⟨b1, ⟨_, r1⟩, _⟩ := RdL.get hr (tlist_get (Ty.dflt (.arr 3 (.int .u8))) 3 A i hi)
  obtain ⟨b2, r2, _⟩ := RdL.get r1 (tlist_get (0 : Int) 3 (tget (Ty.dflt (.arr 3 (.int .u8))) 3 A i) j hj)
  obtain ⟨e, w, _⟩ := r2
  refine ⟨?_, w⟩
  have := congrArg (fun l => l[0]?) e
  simp only [List.getElem?_take_of_lt (show 0 < (Ty.int IntKind.u8).size from Nat.zero_lt_one), List.getElem?_drop] at this
  rw [List.getElem?_take_of_lt (show j * (Ty.int IntKind.u8).size + 0 < (Ty.arr 3 (Ty.int IntKind.u8)).size by show j * 1 + 0 < 3; omega), List.getElem?_drop] at this
  have e2 : i * (Ty.arr 3 (Ty.int IntKind.u8)).size + (j * (Ty.int IntKind.u8).size + 0) = i * 3 + j := by show i * 3 + (j * 1 + 0) = _; omega
  rw [e2] at this
  exact this
theorem wf_u8 {x : Int} (h : (Lit.int .u8 x).wf = true) : 0 ≤ x ∧ x ≤ 255 := by
  simp [Lit.wf, IntKind.min, IntKind.max, IntKind.bits, IntKind.signed] at h; omega
theorem by8_lt {x y : Int} (hx : 0 ≤ x ∧ x ≤ 255) (hy : 0 ≤ y ∧ y ≤ 255) : x.toNat.toUInt8 < y.toNat.toUInt8 ↔ x < y := by
  rw [UInt8.lt_iff_toNat_lt]
  simp only [Nat.toUInt8, UInt8.toNat_ofNat']
  rw [Nat.mod_eq_of_lt (by omega), Nat.mod_eq_of_lt (by omega)]
  omega
theorem sgn3 {x0 x1 x2 y0 y1 y2 : Int} (a0 : 0 ≤ x0 ∧ x0 ≤ 255) (a1 : 0 ≤ x1 ∧ x1 ≤ 255) (a2 : 0 ≤ x2 ∧ x2 ≤ 255) (b0 : 0 ≤ y0 ∧ y0 ≤ 255) (b1 : 0 ≤ y1 ∧ y1 ≤ 255) (b2 : 0 ≤ y2 ∧ y2 ≤ 255) :
    Lib.compareBytes [x0.toNat.toUInt8, x1.toNat.toUInt8, x2.toNat.toUInt8] [y0.toNat.toUInt8, y1.toNat.toUInt8, y2.toNat.toUInt8] = sgn (65536 * x0 + 256 * x1 + x2) (65536 * y0 + 256 * y1 + y2) := by
  simp only [Lib.compareBytes, by8_lt a0 b0, by8_lt b0 a0, by8_lt a1 b1, by8_lt b1 a1, by8_lt a2 b2, by8_lt b2 a2, sgn]
  split
  · rw [if_pos (by omega)]
  · split
    · rw [if_neg (by omega), if_pos (by omega)]
    · split
      · rw [if_pos (by omega)]
      · split
        · rw [if_neg (by omega), if_pos (by omega)]
        · split
          · rw [if_pos (by omega)]
          · split
            · rw [if_neg (by omega), if_pos (by omega)]
            · rw [if_neg (by omega), if_neg (by omega)]
def At3 (w : World) (b o : Nat) (x : Nat → Int) : Prop := ∃ c e fr, w.heap[b]? = some (.cells c e fr) ∧ ∀ j, j < 3 → c[o + j]? = some (.int .u8 (x j)) ∧ (0 ≤ x j ∧ x j ≤ 255)
theorem run_bytes3 {P : Program} {w : World} {b o cap : Nat} {x : Nat → Int} (h : At3 w b o x) : (Extern.Bytes.bytesOf (.slice (some ⟨b, o, none⟩) 3 cap)).run P w = .ok ⟨#[(x 0).toNat.toUInt8, (x 1).toNat.toUInt8, (x 2).toNat.toUInt8]⟩ w := by
  obtain ⟨c, e, fr, h1, h2⟩ := h
  have ld : ∀ j, j < 3 → (load ⟨b, o + j, none⟩).run P w = .ok (.int .u8 (x j)) w := fun j hj => by
    have := (h2 j hj).1
    have hc : w.cell? ⟨b, o + j, none⟩ = some (.int .u8 (x j)) := by simp [World.cell?, h1, this]
    rw [run_load, hc]
  have l0 := ld 0 (by omega)
  have l1 := ld 1 (by omega)
  have l2 := ld 2 (by omega)
  have a1 : Addr.add ⟨b, o, none⟩ 1 = ⟨b, o + 1, none⟩ := addr_add _ _ _
  have a2 : Addr.add ⟨b, o + 1, none⟩ 1 = ⟨b, o + 2, none⟩ := addr_add _ _ _
  rw [Nat.add_zero] at l0
  simp only [Extern.Bytes.bytesOf, Extern.Bytes.loadBytes, Sem.run_bind, a1, a2, l0, l1, l2, Result.andThen_ok, Sem.run_pure]
  rfl
theorem run_cmp3 {P : Program} {w : World} {b o b' o' : Nat} {x y : Nat → Int} (h : At3 w b o x) (h' : At3 w b' o' y) :
    (Extern.BytealgCompare.compare #[.slice (some ⟨b, o, none⟩) 3 3, .slice (some ⟨b', o', none⟩) 3 3]).run P w = .ok (.int .i64 (sgn (65536 * x 0 + 256 * x 1 + x 2) (65536 * y 0 + 256 * y 1 + y 2))) w := by
  have e1 := run_bytes3 (P := P) (cap := 3) h
  have e2 := run_bytes3 (P := P) (cap := 3) h'
  obtain ⟨_, _, _, _, r⟩ := h
  obtain ⟨_, _, _, _, r'⟩ := h'
  change Sem.run P (do pure (goInt (Extern.BytealgCompare.cmp (← Extern.Bytes.bytesOf (.slice (some ⟨b, o, none⟩) 3 3)) (← Extern.Bytes.bytesOf (.slice (some ⟨b', o', none⟩) 3 3))))) w = _
  simp only [Sem.run_bind, e1, e2, Result.andThen_ok, Sem.run_pure, Lib.cmp_eq, goInt]
  rw [sgn3 (r 0 (by omega)).2 (r 1 (by omega)).2 (r 2 (by omega)).2 (r' 0 (by omega)).2 (r' 1 (by omega)).2 (r' 2 (by omega)).2]
noncomputable def o179 (i : Nat) : Array Oper := match opsIn i (bodyOf Try.f124) with | some x => x | none => #[]
theorem sk179 : Try.f124.body = some (.seq (.region 0 (o179 0) false) (.seq (.region 1 (o179 1) false) .ret)) := by kernel_rfl
theorem run_ext2 {P : Program} {a : Act} {w : World} {o : Oper} {c : Call} {kf : Nat} {x y z : Operand} {fn : Func} {e : Array Value → Sem Value} (hop : o.op = .call c) (hcal : c.callee = .value z) (hz : a.eval z = .func (.func kf) #[] #[]) (hargs : c.args.toList = [x, y])
    (f1 : P.funcs[kf]? = some fn) (f2 : (fn.name == "runtime.NumGoroutine") = false) (f3 : fn.body.isNone = true) (f4 : Extern.findNext fn = none) (f5 : Extern.find fn = some e) {v : Value} (hv : (e #[a.eval x, a.eval y]).run P w = .ok v w) : (execOp a.eval o).run P w = .ok (.value v) w := by
  have hargs : c.args.map a.eval = #[a.eval x, a.eval y] := by apply Array.ext'; simp [hargs]
  simp only [execOp, hop, resolve, hcal, hz, Deferred.ofValue, invoke, Sem.run_bind, Sem.run_pure, Result.andThen_ok, hargs]
  rw [show (#[] ++ #[a.eval x, a.eval y] ++ #[] : Array Value) = #[a.eval x, a.eval y] by simp, run_callFunc_extern f1 f2 f3 f4 f5, hv]
  rfl
theorem q179_0 : ∃ o, (o179 0)[0]? = some o ∧ o.op = .assign (.const (.int .i64 0)) ∧ o.dst = some 4 ∧ o.guard = none := ⟨((o179 0)[0]?).get (by kernel_rfl), (Option.some_get _).symm, by kernel_rfl, by kernel_rfl, by kernel_rfl⟩
theorem q179_1 : ∃ o, (o179 1)[0]? = some o ∧ o.op = .move (.tmp 0) ∧ o.dst = some 5 ∧ o.guard = none := ⟨((o179 1)[0]?).get (by kernel_rfl), (Option.some_get _).symm, by kernel_rfl, by kernel_rfl, by kernel_rfl⟩
theorem q179_2 : ∃ o, (o179 1)[1]? = some o ∧ o.op = .move (.tmp 1) ∧ o.dst = some 6 ∧ o.guard = none := ⟨((o179 1)[1]?).get (by kernel_rfl), (Option.some_get _).symm, by kernel_rfl, by kernel_rfl, by kernel_rfl⟩
noncomputable def o179_3 : Oper := ((o179 1)[2]?).get (by kernel_rfl)
noncomputable def c179_3 : Call := (callOf o179_3).get (by kernel_rfl)
noncomputable def z179_3 : Operand := (valOf c179_3.callee).get (by kernel_rfl)
theorem q179_3 : ∃ o c z, (o179 1)[2]? = some o ∧ o.op = .call c ∧ c.callee = .value z ∧ isF 136 z = true ∧ c.args.toList = [.tmp 5, .tmp 6] ∧ o.dst = some 7 ∧ o.guard = none :=
  ⟨o179_3, c179_3, z179_3, (Option.some_get _).symm, by kernel_rfl, by kernel_rfl, by kernel_rfl, by kernel_rfl, by kernel_rfl, by kernel_rfl⟩
theorem q179_4 : ∃ o, (o179 1)[3]? = some o ∧ o.op = .assign (.tmp 7) ∧ o.dst = some 4 ∧ o.guard = none := ⟨((o179 1)[3]?).get (by kernel_rfl), (Option.some_get _).symm, by kernel_rfl, by kernel_rfl, by kernel_rfl⟩
theorem rg179 : List.range (o179 0).size = [0] ∧ List.range (o179 1).size = [0, 1, 2, 3] := ⟨by kernel_rfl, by kernel_rfl⟩
theorem rs179 : Try.f124.results.toList = [.tmp 4] := by kernel_rfl
theorem nt179 : Try.f124.ntmps = 8 := by kernel_rfl
theorem calls179 {w : World} {b o b' o' : Nat} {x y : Nat → Int} (h : At3 w b o x) (h' : At3 w b' o' y) :
    Calls Try.prog 124 #[.slice (some ⟨b, o, none⟩) 3 3, .slice (some ⟨b', o', none⟩) 3 3] w fun e w' => e = .returned (.int .i64 (sgn (65536 * x 0 + 256 * x 1 + x 2) (65536 * y 0 + 256 * y 1 + y 2))) ∧ w' = w := by
  refine calls_of_wp Try.func124 sk179 ?_
  generalize ha : ({ tmps := _, defers := [] } : Act) = a
  have A0 : AtV 8 (fun s => a.tmps.getD s Go.undef) a := by
    subst ha
    exact ⟨by rw [nt179]; rfl, rfl, fun _ => rfl⟩
  have e0 : a.tmps.getD 0 Go.undef = .slice (some ⟨b, o, none⟩) 3 3 := by subst ha; rw [nt179]; rfl
  have e1 : a.tmps.getD 1 Go.undef = .slice (some ⟨b', o', none⟩) 3 3 := by subst ha; rw [nt179]; rfl
  clear ha
  obtain ⟨o0, o0a, o0b, o0c, o0d⟩ := q179_0
  obtain ⟨o1, o1a, o1b, o1c, o1d⟩ := q179_1
  obtain ⟨o2, o2a, o2b, o2c, o2d⟩ := q179_2
  obtain ⟨o3, c3, z3, o3a, o3b, o3e, o3f, o3g, o3c, o3d⟩ := q179_3
  obtain ⟨o4, o4a, o4b, o4c, o4d⟩ := q179_4
  refine wp_seq (wp_region ?_)
  rw [rg179.1]
  refine wpOps_cons o0a o0d (upon_val (v := .int .i64 0) (w' := w) (by simp only [execOp, o0b, Sem.run_pure]; rfl) ?_)
  rw [o0c]
  have A1 := A0.put (d := 4) (by omega) (.int .i64 0)
  generalize a.put (some 4) (.int .i64 0) = a1 at A1 ⊢
  show Code.wp _ _ _ _ _
  refine wp_seq (wp_region ?_)
  rw [rg179.2]
  refine wpOps_cons o1a o1d (upon_val (v := .slice (some ⟨b, o, none⟩) 3 3) (w' := w) (by simp only [execOp, o1b, show a1.eval (.tmp 0) = _ from A1.ev.trans e0, Sem.run_pure]) ?_)
  rw [o1c]
  have A2 := A1.put (d := 5) (by omega) (.slice (some ⟨b, o, none⟩) 3 3)
  generalize a1.put (some 5) (.slice (some ⟨b, o, none⟩) 3 3) = a2 at A2 ⊢
  refine wpOps_cons o2a o2d (upon_val (v := .slice (some ⟨b', o', none⟩) 3 3) (w' := w) (by simp only [execOp, o2b, show a2.eval (.tmp 1) = _ from A2.ev.trans e1, Sem.run_pure]) ?_)
  rw [o2c]
  have A3 := A2.put (d := 6) (by omega) (.slice (some ⟨b', o', none⟩) 3 3)
  generalize a2.put (some 6) (.slice (some ⟨b', o', none⟩) 3 3) = a3 at A3 ⊢
  have x5 : a3.eval (.tmp 5) = .slice (some ⟨b, o, none⟩) 3 3 := A3.ev
  have x6 : a3.eval (.tmp 6) = .slice (some ⟨b', o', none⟩) 3 3 := A3.ev
  refine wpOps_cons o3a o3d (upon_val (v := .int .i64 (sgn (65536 * x 0 + 256 * x 1 + x 2) (65536 * y 0 + 256 * y 1 + y 2))) (w' := w)
    (run_ext2 o3b o3e (isF_ev o3f a3) o3g Try.func136 (by kernel_rfl) (by kernel_rfl) (by kernel_rfl) (e := Extern.BytealgCompare.compare) (by kernel_rfl) (by rw [x5, x6]; exact run_cmp3 h h')) ?_)
  rw [o3c]
  have A4 := A3.put (d := 7) (by omega) (.int .i64 (sgn (65536 * x 0 + 256 * x 1 + x 2) (65536 * y 0 + 256 * y 1 + y 2)))
  generalize a3.put (some 7) (.int .i64 (sgn (65536 * x 0 + 256 * x 1 + x 2) (65536 * y 0 + 256 * y 1 + y 2))) = a4 at A4 ⊢
  refine wpOps_cons o4a o4d (upon_val (v := .int .i64 (sgn (65536 * x 0 + 256 * x 1 + x 2) (65536 * y 0 + 256 * y 1 + y 2))) (w' := w) (by simp only [execOp, o4b, show a4.eval (.tmp 7) = _ from A4.ev, Sem.run_pure]; rfl) ?_)
  rw [o4c]
  have A5 := A4.put (d := 4) (by omega) (.int .i64 (sgn (65536 * x 0 + 256 * x 1 + x 2) (65536 * y 0 + 256 * y 1 + y 2)))
  generalize a4.put (some 4) (.int .i64 (sgn (65536 * x 0 + 256 * x 1 + x 2) (65536 * y 0 + 256 * y 1 + y 2))) = a5 at A5 ⊢
  show Code.wp _ _ _ _ _
  refine wp_ret ?_
  have u4 : a5.tmps.getD 4 Go.undef = .int .i64 (sgn (65536 * x 0 + 256 * x 1 + x 2) (65536 * y 0 + 256 * y 1 + y 2)) := A5.ev
  have hres : (Try.f124.results.toList.mapM (resOne a5.tmps)).run Try.prog w = .ok [.int .i64 (sgn (65536 * x 0 + 256 * x 1 + x 2) (65536 * y 0 + 256 * y 1 + y 2))] w := by rw [rs179, ← u4]; rfl
  exact ⟨A5.df, _, results_run hres, rfl, rfl⟩
noncomputable def o162 (i : Nat) : Array Oper := match opsIn i (bodyOf Try.f101) with | some x => x | none => #[]
noncomputable def in162 : Code := .seq (.region 3 (o162 3) false) (.seq (.region 4 (o162 4) true) (.seq (.region 5 (o162 5) false) (.cond (.tmp 18) (.seq (.region 6 (o162 6) false) .ret) .skip)))
noncomputable def body162 : Code := .seq (.region 2 (o162 2) false) (.seq (.cond (.tmp 8) .skip (.exit 0)) (.seq (.block 1 in162) (.region 7 (o162 7) false)))
noncomputable def end162 : Code := .seq (.region 8 (o162 8) false) .ret
theorem sk162 : Try.f101.body = some (.seq (.region 0 (o162 0) false) (.seq (.seq (.region 1 (o162 1) false) (.block 0 (.loop body162))) end162)) := by kernel_rfl
theorem q162_0 : ∃ o, (o162 4)[0]? = some o ∧ o.op = .move (.tmp 5) ∧ o.dst = some 10 ∧ o.guard = none := ⟨((o162 4)[0]?).get (by kernel_rfl), (Option.some_get _).symm, by kernel_rfl, by kernel_rfl, by kernel_rfl⟩
theorem q162_1 : ∃ o, (o162 4)[1]? = some o ∧ o.op = .indexAddr 67 (.tmp 2) (.tmp 10) ∧ o.dst = some 11 ∧ o.guard = none := ⟨((o162 4)[1]?).get (by kernel_rfl), (Option.some_get _).symm, by kernel_rfl, by kernel_rfl, by kernel_rfl⟩
theorem q162_2 : ∃ o, (o162 4)[2]? = some o ∧ o.op = .slice 65 (.tmp 11) none none none ∧ o.dst = some 12 ∧ o.guard = none := ⟨((o162 4)[2]?).get (by kernel_rfl), (Option.some_get _).symm, by kernel_rfl, by kernel_rfl, by kernel_rfl⟩
theorem q162_3 : ∃ o, (o162 4)[3]? = some o ∧ o.op = .move (.tmp 5) ∧ o.dst = some 13 ∧ o.guard = none := ⟨((o162 4)[3]?).get (by kernel_rfl), (Option.some_get _).symm, by kernel_rfl, by kernel_rfl, by kernel_rfl⟩
theorem q162_4 : ∃ o, (o162 4)[4]? = some o ∧ o.op = .indexAddr 67 (.tmp 3) (.tmp 13) ∧ o.dst = some 14 ∧ o.guard = none := ⟨((o162 4)[4]?).get (by kernel_rfl), (Option.some_get _).symm, by kernel_rfl, by kernel_rfl, by kernel_rfl⟩
theorem q162_5 : ∃ o, (o162 4)[5]? = some o ∧ o.op = .slice 65 (.tmp 14) none none none ∧ o.dst = some 15 ∧ o.guard = none := ⟨((o162 4)[5]?).get (by kernel_rfl), (Option.some_get _).symm, by kernel_rfl, by kernel_rfl, by kernel_rfl⟩
theorem q162_7 : ∃ o, (o162 4)[7]? = some o ∧ o.op = .assign (.tmp 16) ∧ o.dst = some 6 ∧ o.guard = none := ⟨((o162 4)[7]?).get (by kernel_rfl), (Option.some_get _).symm, by kernel_rfl, by kernel_rfl, by kernel_rfl⟩
noncomputable def o162_6 : Oper := ((o162 4)[6]?).get (by kernel_rfl)
noncomputable def c162_6 : Call := (callOf o162_6).get (by kernel_rfl)
noncomputable def z162_6 : Operand := (valOf c162_6.callee).get (by kernel_rfl)
theorem q162_6 : ∃ o c z, (o162 4)[6]? = some o ∧ o.op = .call c ∧ c.callee = .value z ∧ isF 124 z = true ∧ c.args.toList = [.tmp 12, .tmp 15] ∧ o.dst = some 16 ∧ o.guard = none :=
  ⟨o162_6, c162_6, z162_6, (Option.some_get _).symm, by kernel_rfl, by kernel_rfl, by kernel_rfl, by kernel_rfl, by kernel_rfl, by kernel_rfl⟩
def E162 (A B : mat.den) (i : Int) : Env := [(2, .box false [.fz mat 0 false A]), (3, .box false [.fz mat 0 false B]), (7, intE .i64 i)]
def E162b (A B : mat.den) (i : Int) : Env := [(2, .box false [.fz mat 0 false A]), (3, .box false [.fz mat 0 false B]), (5, intE .i64 i), (7, intE .i64 i)]
def E162c (A B : mat.den) (i r : Int) : Env := [(2, .box false [.fz mat 0 false A]), (3, .box false [.fz mat 0 false B]), (6, intE .i64 r), (7, intE .i64 i)]
theorem e162a (A B : mat.den) : evL TT [] [] [] (.region 0 (o162 0) false) (initEnv 0 [.v mat, .v mat] (A, B, ())) (fun e => some (keepK [2, 3] e)) (fun _ _ => none) (fun _ => none) =
    some [(2, .box false [.fz mat 0 false A]), (3, .box false [.fz mat 0 false B])] := by kernel_rfl
theorem e162b (A B : mat.den) : evL TT [] [] [] (.region 1 (o162 1) false) [(2, .box false [.fz mat 0 false A]), (3, .box false [.fz mat 0 false B])] (fun e => some (keepK [2, 3, 7] e)) (fun _ _ => none) (fun _ => none) =
    some (E162 A B 0) := by kernel_rfl
theorem e162c (A B : mat.den) (i : Int) : evL TT [] [] [] (.region 2 (o162 2) false) (E162 A B i) (fun e => some (keepK [2, 3, 7, 8] e)) (fun _ _ => none) (fun _ => none) =
    some (E162 A B i ++ [(8, boolE (decide (i < 3)))]) := by kernel_rfl
theorem e162d (A B : mat.den) (i : Int) : evL TT [] [] [] (.region 3 (o162 3) false) (E162 A B i ++ [(8, boolE true)]) (fun e => some (keepK [2, 3, 5, 7] e)) (fun _ _ => none) (fun _ => none) =
    some (E162b A B i) := by kernel_rfl
theorem e162e (A B : mat.den) (i r : Int) : evL TT [] [] [] (.region 5 (o162 5) false) (E162c A B i r) (fun e => some (keepK [2, 3, 6, 7, 18] e)) (fun _ _ => none) (fun _ => none) =
    some (E162c A B i r ++ [(18, boolE (!decide (r = 0)))]) := by kernel_rfl
theorem e162f (A B : mat.den) (i r : Int) : evL TT [] [] [] (.region 7 (o162 7) false) (E162c A B i r ++ [(18, boolE false)]) (fun e => some (keepK [2, 3, 7] e)) (fun _ _ => none) (fun _ => none) =
    some (E162 A B (IntKind.i64.wrap (i + 1))) := by kernel_rfl
theorem e162g (A B : mat.den) (i r : Int) : evL TT [] [] [] (.seq (.region 6 (o162 6) false) .ret) (E162c A B i r ++ [(18, boolE true)]) (fun _ => none) (fun _ _ => none) (endK TT [.tmp 4] [i64] false false) = some (r, ()) := by kernel_rfl
theorem e162h (A B : mat.den) (i : Int) : evL TT [] [] [] end162 (E162 A B i ++ [(8, boolE false)]) (endK TT [.tmp 4] [i64] false false) (fun _ _ => none) (endK TT [.tmp 4] [i64] false false) = some ((0 : Int), ()) := by kernel_rfl
theorem oc162 (i : Nat) (hi : i = 0 ∨ i = 1 ∨ i = 2 ∨ i = 3 ∨ i = 5 ∨ i = 7) : okCode ⟨21, false, undef⟩ (.region i (o162 i) false) = true := by
  rcases hi with rfl | rfl | rfl | rfl | rfl | rfl <;> kernel_rfl
theorem nt162 : Try.f101.ntmps = 21 := by kernel_rfl
theorem rs162 : Try.f101.results.toList = [.tmp 4] := by kernel_rfl
theorem run_idx {P : Program} {T : TTab} {t : TypeId} {n : Nat} {u : Ty} (hT : TOK P T) (k : TyOK P T t (.arr n u)) {b o : Nat} {i : Int} (hi : 0 ≤ i ∧ i < n) (w : World) :
    (Instr.indexAt t (.pointer (some ⟨b, o, none⟩)) (.int .i64 i)).run P w = .ok (.pointer (some ⟨b, o + i.toNat * u.size, none⟩)) w := by
  obtain ⟨e', hu, hte, hz, hn1⟩ := k.und
  have asInt : (asIntOf (.int .i64 i)).run P w = .ok (.i64, i) w := rfl
  simp only [Instr.indexAt, Sem.run_bind, asInt, Result.andThen_ok, run_underlying hu, run_sureAddr, Sem.run_pure, sizeOf_of (hT _ _ hte), if_pos hi]
  rw [addr_add]
theorem run_cut {P : Program} {T : TTab} {t : TypeId} {n : Nat} {u : Ty} (hT : TOK P T) (k : TyOK P T t (.arr n u)) {b o : Nat} (w : World) :
    (Instr.sliceAt t (.pointer (some ⟨b, o, none⟩)) none none none).run P w = .ok (.slice (some ⟨b, o, none⟩) n n) w := by
  obtain ⟨e', hu, hte, hz, hn1⟩ := k.und
  have h0 : (Instr.sliceBounds false n n none none none).run P w = .ok (0, n, n) w := by
    simp [Instr.sliceBounds]
  simp only [Instr.sliceAt, Sem.run_bind, Result.andThen_ok, run_underlying hu, run_sureAddr, Sem.run_pure, sizeOf_of (hT _ _ hte), h0]
  split
  · rfl
  · rw [addr_add]; simp
theorem cell3 {g : Gh} {w : World} {s : Nat} {A : mat.den} {v : Value} (h : EntR g w.heap s (.box false [.fz mat 0 false A]) v) : ∃ b, v = .pointer (some ⟨b, 0, none⟩) ∧ ∀ i, i < 3 → ∀ n, At3 { w with drawn := n } b (i * 3) (fun j => mcell A i j) := by
  obtain ⟨b, c, e, fr, bs, h1, h2, ⟨b1, b2, ⟨h3, _⟩, _, _⟩, _⟩ := h
  refine ⟨b, h1, fun i hi n => ⟨c, e, fr, h2, fun j hj => ?_⟩⟩
  obtain ⟨q, w⟩ := rd_mat h3 hi hj
  have hlt : i * 3 + j < 9 := by omega
  rw [List.getElem?_take_of_lt (show i * 3 + j < (Leaf.fz mat 0 false A).ty.size from hlt)] at q
  exact ⟨by simpa using q, wf_u8 w⟩
theorem reg162 {w0 w : World} {W : Nat → Prop} {g : Gh} {A B : mat.den} {i : Nat} {a : Act} {Q : Exit → Act → World → Prop} (hi : i < 3) (st : St ⟨21, false, undef⟩ w0 W g (E162b A B i).get a w) (hQ : ∀ c a d v w, Q (.panic c) (a.put d v) w → Q (.panic c) a w)
    (hk : ∀ a' w', St ⟨21, false, undef⟩ w0 W g (E162c A B i (sgn (rkM A i) (rkM B i))).get a' w' → Q .normal a' w') : (Code.region 4 (o162 4) true).wp Try.prog Q a w := by
  have k27 := tt_ok 67 mat (by kernel_rfl)
  have k22 := tt_ok 65 ex (by kernel_rfl)
  obtain ⟨b1, p1, c1⟩ := cell3 (st.ent 2)
  obtain ⟨b2, p2, c2⟩ := cell3 (st.ent 3)
  have p5 : a.tmps.getD 5 Go.undef = .int .i64 (i : Int) := (asI_inv (st.ent 5) rfl).1
  obtain ⟨o0, o0a, o0b, o0c, o0d⟩ := q162_0
  obtain ⟨o1, o1a, o1b, o1c, o1d⟩ := q162_1
  obtain ⟨o2, o2a, o2b, o2c, o2d⟩ := q162_2
  obtain ⟨o3, o3a, o3b, o3c, o3d⟩ := q162_3
  obtain ⟨o4, o4a, o4b, o4c, o4d⟩ := q162_4
  obtain ⟨o5, o5a, o5b, o5c, o5d⟩ := q162_5
  obtain ⟨o6, c6, z6, o6a, o6b, o6e, o6f, o6g, o6c, o6d⟩ := q162_6
  obtain ⟨o7, o7a, o7b, o7c, o7d⟩ := q162_7
  have st' : St ⟨21, false, undef⟩ w0 W g (E162b A B i).get a { w with drawn := w.drawn + 1 } := ⟨st.inv, st.ent, st.sz, st.df, st.os, ⟨st.tape.tape, Nat.le_trans st.tape.dr (Nat.le_succ _)⟩, st.output⟩
  have c1 := c1 i hi (w.drawn + 1)
  have c2 := c2 i hi (w.drawn + 1)
  have A0 : AtV 21 (fun s => a.tmps.getD s Go.undef) a := ⟨st.sz.1, st.df, fun _ => rfl⟩
  refine wp_region_any mixed ?_
  rw [show (o162 4).size = 8 by kernel_rfl]
  clear st
  generalize hw : ({ w with drawn := w.drawn + 1 } : World) = w1 at st' c1 c2 ⊢
  clear hw
  have wanted : ∀ {o : Oper} {f : Nat → Option Bool}, o.guard = none → Region.wanted o f = true := fun h => by simp [Region.wanted, h]
  refine wpAny_take (i := 0) (v := .int .i64 i) o0a (by kernel_rfl) (by kernel_rfl) (by kernel_rfl) (fun c a w h => hQ c _ _ _ w h) (.inl ⟨wanted o0d, fun w => by simp only [execOp, o0b, show a.eval (.tmp 5) = _ from A0.ev.trans p5, Sem.run_pure]⟩) ?_
  rw [o0c]
  have A1 := A0.put (d := 10) (by omega) (.int .i64 i)
  have s1 := st'.passed (d := 10) (v := .int .i64 i) ⟨by decide, fun q => (by cases q)⟩ rfl
  generalize a.put (some 10) (.int .i64 i) = a1 at A1 s1 ⊢
  refine wpAny_take (i := 1) (v := .pointer (some ⟨b1, i * 3, none⟩)) o1a (by kernel_rfl) (by kernel_rfl) (by kernel_rfl) (fun c a w h => hQ c _ _ _ w h) (.inl ⟨wanted o1d, fun w => by
    have e1 : a1.eval (.tmp 2) = .pointer (some ⟨b1, 0, none⟩) := A1.ev.trans p1
    have e2 : a1.eval (.tmp 10) = .int .i64 i := A1.ev
    simp only [execOp, o1b, e1, e2, Sem.run_bind, run_idx tt_ok k27 (show (0 : Int) ≤ (i : Int) ∧ (i : Int) < (3 : Nat) by omega), Result.andThen_ok, Sem.run_pure]
    rw [show 0 + (i : Int).toNat * ex.size = i * 3 by show 0 + (i : Int).toNat * 3 = i * 3; simp]⟩) ?_
  rw [o1c]
  have A2 := A1.put (d := 11) (by omega) (.pointer (some ⟨b1, i * 3, none⟩))
  have s2 := s1.passed (d := 11) (v := .pointer (some ⟨b1, i * 3, none⟩)) ⟨by decide, fun q => (by cases q)⟩ rfl
  generalize a1.put (some 11) (.pointer (some ⟨b1, i * 3, none⟩)) = a2 at A2 s2 ⊢
  refine wpAny_take (i := 2) (v := .slice (some ⟨b1, i * 3, none⟩) 3 3) o2a (by kernel_rfl) (by kernel_rfl) (by kernel_rfl) (fun c a w h => hQ c _ _ _ w h) (.inl ⟨wanted o2d, fun w => by
    have e1 : a2.eval (.tmp 11) = .pointer (some ⟨b1, i * 3, none⟩) := A2.ev
    simp only [execOp, o2b, e1, Option.map_none, Sem.run_bind, run_cut tt_ok k22, Result.andThen_ok, Sem.run_pure]⟩) ?_
  rw [o2c]
  have A3 := A2.put (d := 12) (by omega) (.slice (some ⟨b1, i * 3, none⟩) 3 3)
  have s3 := s2.passed (d := 12) (v := .slice (some ⟨b1, i * 3, none⟩) 3 3) ⟨by decide, fun q => (by cases q)⟩ rfl
  generalize a2.put (some 12) (.slice (some ⟨b1, i * 3, none⟩) 3 3) = a3 at A3 s3 ⊢
  refine wpAny_take (i := 3) (v := .int .i64 i) o3a (by kernel_rfl) (by kernel_rfl) (by kernel_rfl) (fun c a w h => hQ c _ _ _ w h) (.inl ⟨wanted o3d, fun w => by simp only [execOp, o3b, show a3.eval (.tmp 5) = _ from A3.ev.trans p5, Sem.run_pure]⟩) ?_
  rw [o3c]
  have A4 := A3.put (d := 13) (by omega) (.int .i64 i)
  have s4 := s3.passed (d := 13) (v := .int .i64 i) ⟨by decide, fun q => (by cases q)⟩ rfl
  generalize a3.put (some 13) (.int .i64 i) = a4 at A4 s4 ⊢
  refine wpAny_take (i := 4) (v := .pointer (some ⟨b2, i * 3, none⟩)) o4a (by kernel_rfl) (by kernel_rfl) (by kernel_rfl) (fun c a w h => hQ c _ _ _ w h) (.inl ⟨wanted o4d, fun w => by
    have e1 : a4.eval (.tmp 3) = .pointer (some ⟨b2, 0, none⟩) := A4.ev.trans p2
    have e2 : a4.eval (.tmp 13) = .int .i64 i := A4.ev
    simp only [execOp, o4b, e1, e2, Sem.run_bind, run_idx tt_ok k27 (show (0 : Int) ≤ (i : Int) ∧ (i : Int) < (3 : Nat) by omega), Result.andThen_ok, Sem.run_pure]
    rw [show 0 + (i : Int).toNat * ex.size = i * 3 by show 0 + (i : Int).toNat * 3 = i * 3; simp]⟩) ?_
  rw [o4c]
  have A5 := A4.put (d := 14) (by omega) (.pointer (some ⟨b2, i * 3, none⟩))
  have s5 := s4.passed (d := 14) (v := .pointer (some ⟨b2, i * 3, none⟩)) ⟨by decide, fun q => (by cases q)⟩ rfl
  generalize a4.put (some 14) (.pointer (some ⟨b2, i * 3, none⟩)) = a5 at A5 s5 ⊢
  refine wpAny_take (i := 5) (v := .slice (some ⟨b2, i * 3, none⟩) 3 3) o5a (by kernel_rfl) (by kernel_rfl) (by kernel_rfl) (fun c a w h => hQ c _ _ _ w h) (.inl ⟨wanted o5d, fun w => by
    have e1 : a5.eval (.tmp 14) = .pointer (some ⟨b2, i * 3, none⟩) := A5.ev
    simp only [execOp, o5b, e1, Option.map_none, Sem.run_bind, run_cut tt_ok k22, Result.andThen_ok, Sem.run_pure]⟩) ?_
  rw [o5c]
  have A6 := A5.put (d := 15) (by omega) (.slice (some ⟨b2, i * 3, none⟩) 3 3)
  have s6 := s5.passed (d := 15) (v := .slice (some ⟨b2, i * 3, none⟩) 3 3) ⟨by decide, fun q => (by cases q)⟩ rfl
  generalize a5.put (some 15) (.slice (some ⟨b2, i * 3, none⟩) 3 3) = a6 at A6 s6 ⊢
  refine wpAny_all (rs := [6]) (by kernel_rfl) (by simp) fun j hj => ?_
  rw [List.mem_singleton] at hj; subst hj
  have e12 : a6.eval (.tmp 12) = .slice (some ⟨b1, i * 3, none⟩) 3 3 := A6.ev
  have e15 : a6.eval (.tmp 15) = .slice (some ⟨b2, i * 3, none⟩) 3 3 := A6.ev
  unfold wpOp
  simp only [o6a]
  rw [wanted o6d]
  refine .inl ?_
  unfold Oper.wp
  rw [run_enter2 o6b o6e (isF_ev o6f a6) o6g Try.func124 (by decide) rfl]
  simp only [Oper.upon]
  rw [e12, e15]
  refine (calls179 c1 c2).mono ?_
  rintro e w' ⟨rfl, rfl⟩
  show wpAny _ _ _ _ _ _ (a6.put o6.dst _) _
  rw [o6c, show sgn (65536 * mcell A i 0 + 256 * mcell A i 1 + mcell A i 2) (65536 * mcell B i 0 + 256 * mcell B i 1 + mcell B i 2) = sgn (rkM A i) (rkM B i) from rfl]
  generalize hr : sgn (rkM A i) (rkM B i) = r
  have hrw : (Lit.int .i64 r).wf = true := by
    rw [← hr]; unfold sgn; split
    · rfl
    · split <;> rfl
  have A7 := A6.put (d := 16) (by omega) (.int .i64 r)
  have s7 := s6.passed (d := 16) (v := .int .i64 r) ⟨by decide, fun q => (by cases q)⟩ rfl
  generalize a6.put (some 16) (.int .i64 r) = a7 at A7 s7 ⊢
  refine wpAny_take (i := 7) (v := .int .i64 r) o7a (by kernel_rfl) (by kernel_rfl) (by kernel_rfl) (fun c a w h => hQ c _ _ _ w h) (.inl ⟨wanted o7d, fun w => by simp only [execOp, o7b, show a7.eval (.tmp 16) = _ from A7.ev, Sem.run_pure]; rfl⟩) ?_
  rw [o7c]
  have s8 := s7.putA (d := 6) (v := .int .i64 r) ⟨by decide, fun q => (by cases q)⟩ (intE_sound hrw)
  refine wpAny_done (by kernel_rfl) (hk _ _ ?_) _
  rw [hr]
  exact s8.kill fun s => match s with
    | 0 | 1 | 2 | 3 | 4 | 6 | 7 => .inl rfl
    | 5 => .inr rfl
    | s + 8 => .inl rfl
theorem keyM_eq {A B : mat.den} (h : ∀ j, j < 3 → rkM A j = rkM B j) : cmpM A B = 0 := by
  unfold cmpM sgn keyM
  rw [h 0 (by omega), h 1 (by omega), h 2 (by omega)]
  simp
def okMc (g : mat.den) : Prop := ∀ i j, 0 ≤ mcell g i j ∧ mcell g i j ≤ 255
theorem rkM_rng {g : mat.den} (h : okMc g) (i : Nat) : 0 ≤ rkM g i ∧ rkM g i ≤ 16777215 := by
  have := h i 0; have := h i 1; have := h i 2; unfold rkM; omega
theorem keyM_at {A B : mat.den} (ha : okMc A) (hb : okMc B) {i : Nat} (hi : i < 3) (h : ∀ j, j < i → rkM A j = rkM B j) (hne : sgn (rkM A i) (rkM B i) ≠ 0) : cmpM A B = sgn (rkM A i) (rkM B i) := by
  have r0 := rkM_rng ha 0; have r1 := rkM_rng ha 1; have r2 := rkM_rng ha 2
  have t0 := rkM_rng hb 0; have t1 := rkM_rng hb 1; have t2 := rkM_rng hb 2
  have : i = 0 ∨ i = 1 ∨ i = 2 := by omega
  rcases this with rfl | rfl | rfl
  · unfold cmpM sgn keyM at *
    split at hne
    · rename_i q; rw [if_pos q, if_pos (by omega)]
    · split at hne
      · rename_i q q'; rw [if_neg q, if_pos q', if_neg (by omega), if_pos (by omega)]
      · exact absurd rfl hne
  · have e0 := h 0 (by omega)
    unfold cmpM sgn keyM at *
    split at hne
    · rename_i q; rw [if_pos q, if_pos (by omega)]
    · split at hne
      · rename_i q q'; rw [if_neg q, if_pos q', if_neg (by omega), if_pos (by omega)]
      · exact absurd rfl hne
  · have e0 := h 0 (by omega)
    have e1 := h 1 (by omega)
    unfold cmpM sgn keyM at *
    split at hne
    · rename_i q; rw [if_pos q, if_pos (by omega)]
    · split at hne
      · rename_i q q'; rw [if_neg q, if_pos q', if_neg (by omega), if_pos (by omega)]
      · exact absurd rfl hne
theorem sgn_zero {a b : Int} (h : sgn a b = 0) : a = b := by
  unfold sgn at h
  split at h
  · cases h
  · split at h
    · cases h
    · omega
open Classical in
noncomputable def cf162 : G101 := fun x => if okMc x.1 ∧ okMc x.2.1 then some (cmpM x.1 x.2.1, ()) else none
theorem k162 : KOne Try.prog 101 ⟨[.v mat, .v mat], [i64], false, false, 0, cf162⟩ := by
  refine ⟨fun _ => ?_, fun q => (by cases q), fun q => (by cases q), Try.f101, Try.func101, by decide, rfl⟩
  intro x y hxy w vs ba hv
  obtain ⟨A, B, _⟩ := x
  change mat.den at A
  change mat.den at B
  simp only [cf162] at hxy
  split at hxy
  case isFalse => cases hxy
  rename_i hc
  injection hxy with hxy; subst hxy
  obtain ⟨hA, hB⟩ := hc
  have st0 := init_St (n := 21) hv (by decide)
  rw [← nt162] at st0
  refine calls_of_wp Try.func101 sk162 (wp_seq ?_)
  rw [nt162] at st0 ⊢
  refine ev_wp (A := fun b => b ∈ ba) (ks := [2, 3]) mixed tt_ok KOK.nil (fun b hb => (by cases hb)) (oc162 0 (by simp)) trivial (e162a A B) st0 rfl fun a1 w1 g1 st1 A1 => ?_
  show Code.wp _ _ _ _ _
  refine wp_seq (wp_seq (ev_wp (A := fun b => b ∈ ba) (ks := [2, 3, 7]) mixed tt_ok KOK.nil (fun b hb => (by cases hb)) (oc162 1 (by simp)) trivial (e162b A B) st1 A1 fun a2 w2 g2 st2 A2 => ?_))
  show Code.wp _ _ _ _ _
  refine wp_block (wp_loop (fun a' w' => ∃ (i : Nat) (g : Gh), i ≤ 3 ∧ St ⟨21, false, undef⟩ w (fun _ => False) g (E162 A B i).get a' w' ∧ g.al = (fun b => b ∈ ba) ∧ ∀ j, j < i → rkM A j = rkM B j) (fun a' _ => match a'.tmps.getD 7 undef with | .int _ i => (3 - i).toNat | _ => 0) ⟨0, g2, by omega, st2, A2, fun j hj => by omega⟩ fun a3 w3 hI => ?_)
  obtain ⟨i, g3, hi, st3, A3, hr⟩ := hI
  have m3 : a3.tmps.getD 7 Go.undef = .int .i64 (i : Int) := (asI_inv (st3.ent 7) rfl).1
  rw [m3]
  refine wp_seq (ev_wp (A := fun b => b ∈ ba) (ks := [2, 3, 7, 8]) mixed tt_ok KOK.nil (fun b hb => (by cases hb)) (oc162 2 (by simp)) trivial (e162c A B i) st3 A3 fun a4 w4 g4 st4 A4 => ?_)
  show Code.wp _ _ _ _ _
  have t8 : a4.eval (.tmp 8) = .bool (decide ((i : Int) < 3)) := bool_at (st4.ent 8)
  refine wp_seq (wp_cond (t := decide ((i : Int) < 3)) t8 ?_)
  by_cases h3 : (i : Int) < 3
  · have h3' : i < 3 := by omega
    rw [decide_eq_true h3] at st4 ⊢
    refine wp_skip ?_
    show Code.wp _ _ _ _ _
    refine wp_seq (wp_block (wp_seq (ev_wp (A := fun b => b ∈ ba) (ks := [2, 3, 5, 7]) mixed tt_ok KOK.nil (fun b hb => (by cases hb)) (oc162 3 (by simp)) trivial (e162d A B i) st4 A4 fun a5 w5 g5 st5 A5 => ?_)))
    show Code.wp _ _ _ _ _
    refine wp_seq (reg162 h3' st5 (fun c a d v w h => by cases d <;> exact h) fun a6 w6 st6 => ?_)
    show Code.wp _ _ _ _ _
    refine wp_seq (ev_wp (A := fun b => b ∈ ba) (ks := [2, 3, 6, 7, 18]) mixed tt_ok KOK.nil (fun b hb => (by cases hb)) (oc162 5 (by simp)) trivial (e162e A B i (sgn (rkM A i) (rkM B i))) st6 A5 fun a7 w7 g7 st7 A7 => ?_)
    show Code.wp _ _ _ _ _
    have t18 : a7.eval (.tmp 18) = .bool (!decide (sgn (rkM A i) (rkM B i) = 0)) := bool_at (st7.ent 18)
    refine wp_cond (t := !decide (sgn (rkM A i) (rkM B i) = 0)) t18 ?_
    by_cases hz : sgn (rkM A i) (rkM B i) = 0
    · rw [decide_eq_true hz] at st7 ⊢
      refine wp_skip ?_
      show Code.wp _ _ _ _ _
      refine ev_wp (A := fun b => b ∈ ba) (ks := [2, 3, 7]) mixed tt_ok KOK.nil (fun b hb => (by cases hb)) (oc162 7 (by simp)) trivial (e162f A B i (sgn (rkM A i) (rkM B i))) st7 A7 fun a8 w8 g8 st8 A8 => ?_
      have hwr : IntKind.i64.wrap ((i : Int) + 1) = ((i + 1 : Nat) : Int) := by
        have : i = 0 ∨ i = 1 ∨ i = 2 := by omega
        rcases this with rfl | rfl | rfl <;> rfl
      rw [hwr] at st8
      have m8 : a8.tmps.getD 7 Go.undef = .int .i64 ((i + 1 : Nat) : Int) := (asI_inv (st8.ent 7) rfl).1
      refine ⟨⟨i + 1, g8, by omega, st8, A8, fun j hj => ?_⟩, ?_⟩
      · rcases Nat.lt_or_ge j i with q | q
        · exact hr j q
        · have : j = i := by omega
          subst this; exact sgn_zero hz
      · rw [m8]; simp only; omega
    · rw [decide_eq_false hz] at st7 ⊢
      have hres := keyM_at hA hB h3' hr hz
      rw [hres]
      exact evL_sound (T := TT) (K := []) (H := []) (LT := ([] : LTab R101)) (A := fun b => b ∈ ba) (W := fun _ => False) (y := (sgn (rkM A i) (rkM B i), ())) (kn := fun _ => none) (kx := fun _ _ => none) (kr := endK TT [.tmp 4] [i64] false false) mixed tt_ok KOK.nil (fun b hb => (by cases hb)) (by kernel_rfl) (by exact ⟨trivial, trivial⟩) (e162g A B i _) st7 A7
        (fun _ _ _ _ q => (by cases q)) (fun _ _ _ _ _ q => (by cases q)) (fun env' a' w' g' q1 q2 q3 => After_of (C := ⟨[.v mat, .v mat], [i64], false, false, 0, cf162⟩) tt_ok q2 q3 (by rw [rs162]; exact q1))
  · have h3' : i = 3 := by omega
    subst h3'
    rw [decide_eq_false h3] at st4 ⊢
    refine wp_exit ?_
    show Code.wp _ _ _ _ _
    rw [keyM_eq hr]
    exact evL_sound (T := TT) (K := []) (H := []) (LT := ([] : LTab R101)) (A := fun b => b ∈ ba) (W := fun _ => False) (y := ((0 : Int), ())) (kn := endK TT [.tmp 4] [i64] false false) (kx := fun _ _ => none) (kr := endK TT [.tmp 4] [i64] false false) mixed tt_ok KOK.nil (fun b hb => (by cases hb)) (by kernel_rfl) (by exact ⟨trivial, trivial⟩) (e162h A B _) st4 A4
      (fun env' a' w' g' q1 q2 q3 => After_of (C := ⟨[.v mat, .v mat], [i64], false, false, 0, cf162⟩) tt_ok q2 q3 (by rw [rs162]; exact q1)) (fun _ _ _ _ _ q => (by cases q)) (fun env' a' w' g' q1 q2 q3 => After_of (C := ⟨[.v mat, .v mat], [i64], false, false, 0, cf162⟩) tt_ok q2 q3 (by rw [rs162]; exact q1))
abbrev R75 : Type := Ress [mat]
abbrev G75 : Type := Args [.v i64] → Option R75
abbrev kp75 : List (Nat × List Nat) := [(0, [2, 0]), (1, [3, 2, 0]), (2, [4, 3, 2, 0]), (3, [8, 4, 3, 2, 0]), (5, [4, 3, 2, 0]), (4, [4, 3, 2, 0]), (6, [2])]
abbrev ct75 : CTab := []
abbrev kr75 : Env → Option R75 := endK TT [.cell 2 67] [mat] false false
abbrev sh75_3 : Shape := [(0, vv i64), (2, bb mat), (3, bb mat), (4, vv i64)]
def st75_3 (F : Nat) (s : ShVal sh75_3) (k kx : ShVal sh75_3 → Option R75) : Option R75 :=
  match s with
  | ((t0, _), (t2, _), (t3, _), (t4, _), _) => (bif decide (t4 < t0) then (bif ib t4 (Int.ofNat 3) then (bif ib t4 (Int.ofNat 3) then k ((t0, ()), ((t2, ()), (((tset (tset (1 : Int) 3 (tget (Ty.dflt (.arr 3 (.int .u8))) 3 t3 (tn t4)) (tn t4)) 3 t3 (tn t4)), ()), (((w6 (t4 + (1 : Int))), ()), ())))) else none) else none) else kx ((t0, ()), ((t2, ()), ((t3, ()), ((t4, ()), ())))))
def ru75_3 (F : Nat) (s : ShVal sh75_3) (kx : ShVal sh75_3 → Option R75) : Option R75 := iter (fun s k => st75_3 F s k kx) F s
abbrev ls75_3 (F : Nat) : LS R75 := ⟨sh75_3, 0, ru75_3 F⟩
def fn75 (F : Nat) (x : Args [.v i64]) : Option R75 :=
  match x with
  | (x0, _) => (ru75_3 F ((x0, ()), (((Ty.dflt (.arr 3 (.arr 3 (.int .u8)))), ()), (((tup (Prod Int (Prod Int (Prod Int Unit))) (Ty.dflt (.arr 3 (.int .u8))) 3), ()), (((0 : Int), ()), ())))) (fun s' => match s' with | ((t0, _), (t2, _), (t3, _), (t4, _), _) => (some (t3, ()))))
theorem ev75_3 (F : Nat) (s : ShVal sh75_3) (k kx : ShVal sh75_3 → Option R75) : evL TT (ct75 ) kp75 [] (loopOf Try.f75 3) (envOf sh75_3 s) (fitK sh75_3 k) (fun j e => bif Nat.beq j 0 then fitK sh75_3 kx e else none) kr75 = st75_3 F s k kx := by
  obtain ⟨⟨t0, _⟩, ⟨t2, _⟩, ⟨t3, _⟩, ⟨t4, _⟩, _⟩ := s
  kernel_rfl
theorem ok75_3 (F : Nat) (hK : KOK Try.prog (ct75 )) : LSOK Try.prog ⟨16, false, undef⟩ (ls75_3 F) (loopOf Try.f75 3) kr75 :=
  loop_ok (st75_3 F) mixed tt_ok hK (by kernel_rfl) (LTOK_by (l := []) (by kernel_rfl) trivial) (ev75_3 F)
theorem ev75 (F : Nat) (x : Args [.v i64]) : fnK TT (ct75 ) kp75 [mat] [(3, ls75_3 F)] (bodyOf Try.f75) [.cell 2 67] [.v i64] false false x = fn75 F x := by
  obtain ⟨x0, _⟩ := x
  kernel_rfl
theorem ok75 (hK : KOK Try.prog (ct75 )) (cf : G75) (h : ∀ x y, cf x = some y → ∃ F, fn75 F x = some y) : KOne Try.prog 75 ⟨[.v i64], [mat], false, false, 0, cf⟩ :=
  fn_one rfl (c := bodyOf Try.f75) mixed tt_ok hK Try.func75 (by kernel_rfl) (by kernel_rfl) (Nat.le_of_ble_eq_true (by kernel_rfl)) (by decide) fun x y hxy => by
    obtain ⟨F, hF⟩ := h x y hxy
    exact ⟨[(3, ls75_3 F)], LTOK_by (l := [loopOf Try.f75 3]) (by kernel_rfl) ⟨ls_at (by kernel_rfl) (ok75_3 F hK), trivial⟩, (ev75 F x).trans hF⟩
abbrev R74 : Type := Ress [mat]
abbrev G74 : Type := Args [.v i64, .v i64, .v mat, .v mat] → Option R74
abbrev kp74 : List (Nat × List Nat) := [(0, [7, 6, 0, 1, 8]), (1, [7, 6, 0, 9, 1, 8]), (2, [7, 6, 10, 0, 9, 1, 8]), (3, [17, 1, 9, 0, 10, 6, 7, 8]), (5, [1, 9, 0, 10, 6, 11, 7, 8]), (6, [22, 7, 11, 6, 10, 1, 9, 0, 8]), (8, [7, 11, 6, 10, 12, 1, 9, 0, 8]), (9, [13, 7, 11, 6, 10, 12, 1, 9, 0, 8]), (10, [27, 12, 13, 7, 11, 6, 10, 1, 9, 0, 8]), (12, [13, 7, 11, 6, 10, 12, 1, 9, 0, 8]), (11, [13, 7, 11, 6, 10, 12, 1, 9, 0, 8]), (13, [11, 1, 9, 0, 10, 6, 7, 8]), (7, [1, 9, 0, 10, 6, 11, 7, 8]), (4, [7, 6, 10, 0, 9, 1, 8]), (14, [8])]
abbrev ct74 : CTab := []
abbrev kr74 : Env → Option R74 := endK TT [.cell 8 67] [mat] false false
abbrev sh74_10 : Shape := [(0, vv i64), (1, vv i64), (6, bb mat), (7, bb mat), (8, bb mat), (9, bb mat), (10, vv i64), (11, vv i64), (12, vv i64), (13, vv i64)]
def st74_10 (F : Nat) (s : ShVal sh74_10) (k kx : ShVal sh74_10 → Option R74) : Option R74 :=
  match s with
  | ((t0, _), (t1, _), (t6, _), (t7, _), (t8, _), (t9, _), (t10, _), (t11, _), (t12, _), (t13, _), _) => (bif decide (t13 < t1) then (bif ib t10 (Int.ofNat 3) then (bif ib t13 (Int.ofNat 3) then (bif ib t13 (Int.ofNat 3) then (bif ib t11 (Int.ofNat 3) then k ((t0, ()), ((t1, ()), ((t6, ()), ((t7, ()), ((t8, ()), ((t9, ()), ((t10, ()), ((t11, ()), (((w6 (t12 + (w6 ((w6 (tget (0 : Int) 3 (tget (Ty.dflt (.arr 3 (.int .u8))) 3 t6 (tn t10)) (tn t13))) * (w6 (tget (0 : Int) 3 (tget (Ty.dflt (.arr 3 (.int .u8))) 3 t7 (tn t13)) (tn t11))))))), ()), (((w6 (t13 + (1 : Int))), ()), ())))))))))) else none) else none) else none) else none) else kx ((t0, ()), ((t1, ()), ((t6, ()), ((t7, ()), ((t8, ()), ((t9, ()), ((t10, ()), ((t11, ()), ((t12, ()), ((t13, ()), ())))))))))))
def ru74_10 (F : Nat) (s : ShVal sh74_10) (kx : ShVal sh74_10 → Option R74) : Option R74 := iter (fun s k => st74_10 F s k kx) F s
abbrev ls74_10 (F : Nat) : LS R74 := ⟨sh74_10, 4, ru74_10 F⟩
abbrev sh74_6 : Shape := [(0, vv i64), (1, vv i64), (6, bb mat), (7, bb mat), (8, bb mat), (9, bb mat), (10, vv i64), (11, vv i64)]
def st74_6 (F : Nat) (s : ShVal sh74_6) (k kx : ShVal sh74_6 → Option R74) : Option R74 :=
  match s with
  | ((t0, _), (t1, _), (t6, _), (t7, _), (t8, _), (t9, _), (t10, _), (t11, _), _) => (bif decide (t11 < t1) then (ru74_10 F ((t0, ()), ((t1, ()), ((t6, ()), ((t7, ()), ((t8, ()), ((t9, ()), ((t10, ()), ((t11, ()), (((0 : Int), ()), (((0 : Int), ()), ())))))))))) (fun s' => match s' with | ((t0, _), (t1, _), (t6, _), (t7, _), (t8, _), (t9, _), (t10, _), (t11, _), (t12, _), (t13, _), _) => (bif (!decide (t0 = (0 : Int))) then (bif ib t10 (Int.ofNat 3) then (bif ib t11 (Int.ofNat 3) then k ((t0, ()), ((t1, ()), ((t6, ()), ((t7, ()), ((t8, ()), (((tset (tset (w8 (Int.tmod t12 t0)) 3 (tget (Ty.dflt (.arr 3 (.int .u8))) 3 t9 (tn t10)) (tn t11)) 3 t9 (tn t10)), ()), ((t10, ()), (((w6 (t11 + (1 : Int))), ()), ())))))))) else none) else none) else none))) else kx ((t0, ()), ((t1, ()), ((t6, ()), ((t7, ()), ((t8, ()), ((t9, ()), ((t10, ()), ((t11, ()), ())))))))))
def ru74_6 (F : Nat) (s : ShVal sh74_6) (kx : ShVal sh74_6 → Option R74) : Option R74 := iter (fun s k => st74_6 F s k kx) F s
abbrev ls74_6 (F : Nat) : LS R74 := ⟨sh74_6, 2, ru74_6 F⟩
abbrev sh74_3 : Shape := [(0, vv i64), (1, vv i64), (6, bb mat), (7, bb mat), (8, bb mat), (9, bb mat), (10, vv i64)]
def st74_3 (F : Nat) (s : ShVal sh74_3) (k kx : ShVal sh74_3 → Option R74) : Option R74 :=
  match s with
  | ((t0, _), (t1, _), (t6, _), (t7, _), (t8, _), (t9, _), (t10, _), _) => (bif decide (t10 < t1) then (ru74_6 F ((t0, ()), ((t1, ()), ((t6, ()), ((t7, ()), ((t8, ()), ((t9, ()), ((t10, ()), (((0 : Int), ()), ())))))))) (fun s' => match s' with | ((t0, _), (t1, _), (t6, _), (t7, _), (t8, _), (t9, _), (t10, _), (t11, _), _) => k ((t0, ()), ((t1, ()), ((t6, ()), ((t7, ()), ((t8, ()), ((t9, ()), (((w6 (t10 + (1 : Int))), ()), ()))))))))) else kx ((t0, ()), ((t1, ()), ((t6, ()), ((t7, ()), ((t8, ()), ((t9, ()), ((t10, ()), ()))))))))
def ru74_3 (F : Nat) (s : ShVal sh74_3) (kx : ShVal sh74_3 → Option R74) : Option R74 := iter (fun s k => st74_3 F s k kx) F s
abbrev ls74_3 (F : Nat) : LS R74 := ⟨sh74_3, 0, ru74_3 F⟩
def fn74 (F : Nat) (x : Args [.v i64, .v i64, .v mat, .v mat]) : Option R74 :=
  match x with
  | (x0, x1, x2, x3, _) => (ru74_3 F ((x0, ()), ((x1, ()), ((x2, ()), ((x3, ()), (((Ty.dflt (.arr 3 (.arr 3 (.int .u8)))), ()), (((tup (Prod Int (Prod Int (Prod Int Unit))) (Ty.dflt (.arr 3 (.int .u8))) 3), ()), (((0 : Int), ()), ()))))))) (fun s' => match s' with | ((t0, _), (t1, _), (t6, _), (t7, _), (t8, _), (t9, _), (t10, _), _) => (some (t9, ()))))
theorem ev74_10 (F : Nat) (s : ShVal sh74_10) (k kx : ShVal sh74_10 → Option R74) : evL TT (ct74 ) kp74 [] (loopOf Try.f74 10) (envOf sh74_10 s) (fitK sh74_10 k) (fun j e => bif Nat.beq j 4 then fitK sh74_10 kx e else none) kr74 = st74_10 F s k kx := by
  obtain ⟨⟨t0, _⟩, ⟨t1, _⟩, ⟨t6, _⟩, ⟨t7, _⟩, ⟨t8, _⟩, ⟨t9, _⟩, ⟨t10, _⟩, ⟨t11, _⟩, ⟨t12, _⟩, ⟨t13, _⟩, _⟩ := s
  kernel_rfl
theorem ok74_10 (F : Nat) (hK : KOK Try.prog (ct74 )) : LSOK Try.prog ⟨54, false, undef⟩ (ls74_10 F) (loopOf Try.f74 10) kr74 :=
  loop_ok (st74_10 F) mixed tt_ok hK (by kernel_rfl) (LTOK_by (l := []) (by kernel_rfl) trivial) (ev74_10 F)
theorem ev74_6 (F : Nat) (s : ShVal sh74_6) (k kx : ShVal sh74_6 → Option R74) : evL TT (ct74 ) kp74 [(10, ls74_10 F)] (loopOf Try.f74 6) (envOf sh74_6 s) (fitK sh74_6 k) (fun j e => bif Nat.beq j 2 then fitK sh74_6 kx e else none) kr74 = st74_6 F s k kx := by
  obtain ⟨⟨t0, _⟩, ⟨t1, _⟩, ⟨t6, _⟩, ⟨t7, _⟩, ⟨t8, _⟩, ⟨t9, _⟩, ⟨t10, _⟩, ⟨t11, _⟩, _⟩ := s
  kernel_rfl
theorem ok74_6 (F : Nat) (hK : KOK Try.prog (ct74 )) : LSOK Try.prog ⟨54, false, undef⟩ (ls74_6 F) (loopOf Try.f74 6) kr74 :=
  loop_ok (st74_6 F) mixed tt_ok hK (by kernel_rfl) (LTOK_by (l := [loopOf Try.f74 10]) (by kernel_rfl) ⟨ls_at (by kernel_rfl) (ok74_10 F hK), trivial⟩) (ev74_6 F)
theorem ev74_3 (F : Nat) (s : ShVal sh74_3) (k kx : ShVal sh74_3 → Option R74) : evL TT (ct74 ) kp74 [(6, ls74_6 F)] (loopOf Try.f74 3) (envOf sh74_3 s) (fitK sh74_3 k) (fun j e => bif Nat.beq j 0 then fitK sh74_3 kx e else none) kr74 = st74_3 F s k kx := by
  obtain ⟨⟨t0, _⟩, ⟨t1, _⟩, ⟨t6, _⟩, ⟨t7, _⟩, ⟨t8, _⟩, ⟨t9, _⟩, ⟨t10, _⟩, _⟩ := s
  kernel_rfl
theorem ok74_3 (F : Nat) (hK : KOK Try.prog (ct74 )) : LSOK Try.prog ⟨54, false, undef⟩ (ls74_3 F) (loopOf Try.f74 3) kr74 :=
  loop_ok (st74_3 F) mixed tt_ok hK (by kernel_rfl) (LTOK_by (l := [loopOf Try.f74 6]) (by kernel_rfl) ⟨ls_at (by kernel_rfl) (ok74_6 F hK), trivial⟩) (ev74_3 F)
theorem ev74 (F : Nat) (x : Args [.v i64, .v i64, .v mat, .v mat]) : fnK TT (ct74 ) kp74 [mat] [(3, ls74_3 F)] (bodyOf Try.f74) [.cell 8 67] [.v i64, .v i64, .v mat, .v mat] false false x = fn74 F x := by
  obtain ⟨x0, x1, x2, x3, _⟩ := x
  kernel_rfl
theorem ok74 (hK : KOK Try.prog (ct74 )) (cf : G74) (h : ∀ x y, cf x = some y → ∃ F, fn74 F x = some y) : KOne Try.prog 74 ⟨[.v i64, .v i64, .v mat, .v mat], [mat], false, false, 0, cf⟩ :=
  fn_one rfl (c := bodyOf Try.f74) mixed tt_ok hK Try.func74 (by kernel_rfl) (by kernel_rfl) (Nat.le_of_ble_eq_true (by kernel_rfl)) (by decide) fun x y hxy => by
    obtain ⟨F, hF⟩ := h x y hxy
    exact ⟨[(3, ls74_3 F)], LTOK_by (l := [loopOf Try.f74 3]) (by kernel_rfl) ⟨ls_at (by kernel_rfl) (ok74_3 F hK), trivial⟩, (ev74 F x).trans hF⟩
abbrev R72 : Type := Ress [.bool]
abbrev G72 : Type := Args [.v mat, .v mat] → Option R72
abbrev kp72 : List (Nat × List Nat) := [(0, [2, 3]), (1, [2, 5, 3]), (2, [8, 3, 5, 2]), (4, [3, 6, 5, 2]), (5, [12, 2, 5, 6, 3]), (7, [25, 2, 5, 6, 3]), (8, [4]), (6, [3, 6, 5, 2]), (3, [2, 5, 3]), (9, [4])]
abbrev ct72 : CTab := []
abbrev kr72 : Env → Option R72 := endK TT [.tmp 4] [.bool] false false
abbrev sh72_5 : Shape := [(2, bb mat), (3, bb mat), (5, vv i64), (6, vv i64)]
def st72_5 (F : Nat) (s : ShVal sh72_5) (k kx : ShVal sh72_5 → Option R72) : Option R72 :=
  match s with
  | ((t2, _), (t3, _), (t5, _), (t6, _), _) => (bif decide (t6 < (3 : Int)) then (bif ib t5 (Int.ofNat 3) then (bif ib t6 (Int.ofNat 3) then (bif ib t5 (Int.ofNat 3) then (bif ib t6 (Int.ofNat 3) then (bif (!decide ((tget (0 : Int) 3 (tget (Ty.dflt (.arr 3 (.int .u8))) 3 t2 (tn t5)) (tn t6)) = (tget (0 : Int) 3 (tget (Ty.dflt (.arr 3 (.int .u8))) 3 t3 (tn t5)) (tn t6)))) then (bif ib t5 (Int.ofNat 3) then (bif ib t6 (Int.ofNat 3) then (bif ib t5 (Int.ofNat 3) then (bif ib t6 (Int.ofNat 3) then (some (decide ((tget (0 : Int) 3 (tget (Ty.dflt (.arr 3 (.int .u8))) 3 t2 (tn t5)) (tn t6)) < (tget (0 : Int) 3 (tget (Ty.dflt (.arr 3 (.int .u8))) 3 t3 (tn t5)) (tn t6))), ())) else none) else none) else none) else none) else k ((t2, ()), ((t3, ()), ((t5, ()), (((w6 (t6 + (1 : Int))), ()), ()))))) else none) else none) else none) else none) else kx ((t2, ()), ((t3, ()), ((t5, ()), ((t6, ()), ())))))
def ru72_5 (F : Nat) (s : ShVal sh72_5) (kx : ShVal sh72_5 → Option R72) : Option R72 := iter (fun s k => st72_5 F s k kx) F s
abbrev ls72_5 (F : Nat) : LS R72 := ⟨sh72_5, 2, ru72_5 F⟩
abbrev sh72_2 : Shape := [(2, bb mat), (3, bb mat), (5, vv i64)]
def st72_2 (F : Nat) (s : ShVal sh72_2) (k kx : ShVal sh72_2 → Option R72) : Option R72 :=
  match s with
  | ((t2, _), (t3, _), (t5, _), _) => (bif decide (t5 < (3 : Int)) then (ru72_5 F ((t2, ()), ((t3, ()), ((t5, ()), (((0 : Int), ()), ())))) (fun s' => match s' with | ((t2, _), (t3, _), (t5, _), (t6, _), _) => k ((t2, ()), ((t3, ()), (((w6 (t5 + (1 : Int))), ()), ()))))) else kx ((t2, ()), ((t3, ()), ((t5, ()), ()))))
def ru72_2 (F : Nat) (s : ShVal sh72_2) (kx : ShVal sh72_2 → Option R72) : Option R72 := iter (fun s k => st72_2 F s k kx) F s
abbrev ls72_2 (F : Nat) : LS R72 := ⟨sh72_2, 0, ru72_2 F⟩
def fn72 (F : Nat) (x : Args [.v mat, .v mat]) : Option R72 :=
  match x with
  | (x0, x1, _) => (ru72_2 F ((x0, ()), ((x1, ()), (((0 : Int), ()), ()))) (fun s' => match s' with | ((t2, _), (t3, _), (t5, _), _) => (some (false, ()))))
theorem ev72_5 (F : Nat) (s : ShVal sh72_5) (k kx : ShVal sh72_5 → Option R72) : evL TT (ct72 ) kp72 [] (loopOf Try.f72 5) (envOf sh72_5 s) (fitK sh72_5 k) (fun j e => bif Nat.beq j 2 then fitK sh72_5 kx e else none) kr72 = st72_5 F s k kx := by
  obtain ⟨⟨t2, _⟩, ⟨t3, _⟩, ⟨t5, _⟩, ⟨t6, _⟩, _⟩ := s
  kernel_rfl
theorem ok72_5 (F : Nat) (hK : KOK Try.prog (ct72 )) : LSOK Try.prog ⟨37, false, undef⟩ (ls72_5 F) (loopOf Try.f72 5) kr72 :=
  loop_ok (st72_5 F) mixed tt_ok hK (by kernel_rfl) (LTOK_by (l := []) (by kernel_rfl) trivial) (ev72_5 F)
theorem ev72_2 (F : Nat) (s : ShVal sh72_2) (k kx : ShVal sh72_2 → Option R72) : evL TT (ct72 ) kp72 [(5, ls72_5 F)] (loopOf Try.f72 2) (envOf sh72_2 s) (fitK sh72_2 k) (fun j e => bif Nat.beq j 0 then fitK sh72_2 kx e else none) kr72 = st72_2 F s k kx := by
  obtain ⟨⟨t2, _⟩, ⟨t3, _⟩, ⟨t5, _⟩, _⟩ := s
  kernel_rfl
theorem ok72_2 (F : Nat) (hK : KOK Try.prog (ct72 )) : LSOK Try.prog ⟨37, false, undef⟩ (ls72_2 F) (loopOf Try.f72 2) kr72 :=
  loop_ok (st72_2 F) mixed tt_ok hK (by kernel_rfl) (LTOK_by (l := [loopOf Try.f72 5]) (by kernel_rfl) ⟨ls_at (by kernel_rfl) (ok72_5 F hK), trivial⟩) (ev72_2 F)
theorem ev72 (F : Nat) (x : Args [.v mat, .v mat]) : fnK TT (ct72 ) kp72 [.bool] [(2, ls72_2 F)] (bodyOf Try.f72) [.tmp 4] [.v mat, .v mat] false false x = fn72 F x := by
  obtain ⟨x0, x1, _⟩ := x
  kernel_rfl
theorem ok72 (hK : KOK Try.prog (ct72 )) (cf : G72) (h : ∀ x y, cf x = some y → ∃ F, fn72 F x = some y) : KOne Try.prog 72 ⟨[.v mat, .v mat], [.bool], false, false, 0, cf⟩ :=
  fn_one rfl (c := bodyOf Try.f72) mixed tt_ok hK Try.func72 (by kernel_rfl) (by kernel_rfl) (Nat.le_of_ble_eq_true (by kernel_rfl)) (by decide) fun x y hxy => by
    obtain ⟨F, hF⟩ := h x y hxy
    exact ⟨[(2, ls72_2 F)], LTOK_by (l := [loopOf Try.f72 2]) (by kernel_rfl) ⟨ls_at (by kernel_rfl) (ok72_2 F hK), trivial⟩, (ev72 F x).trans hF⟩
abbrev R73 : Type := Ress [i64]
abbrev G73 : Type := Args [.v (.slice 67 mat), .v mat] → Option R73
abbrev kp73 : List (Nat × List Nat) := [(0, [3, 0]), (1, [5, 3, 0]), (2, [9, 0, 3, 5]), (4, [17, 0, 3, 5]), (5, [4]), (3, [5, 3, 0]), (6, [4])]
abbrev ct73 : CTab := []
abbrev kr73 : Env → Option R73 := endK TT [.tmp 4] [i64] false false
abbrev sh73_2 : Shape := [(0, .val false [.fz (.slice 67 mat) 0 true]), (3, bb mat), (5, vv i64)]
def st73_2 (F : Nat) (s : ShVal sh73_2) (k kx : ShVal sh73_2 → Option R73) : Option R73 :=
  match s with
  | ((t0, _), (t3, _), (t5, _), _) => (bif decide ((List.length t0) ≤ 9223372036854775807) then (bif decide (t5 < (Int.ofNat (List.length t0))) then (bif ib t5 (Int.ofNat (List.length t0)) then (bif (Ty.eqd (.arr 3 (.arr 3 (.int .u8))) (List.getD t0 (tn t5) (Ty.dflt (.arr 3 (.arr 3 (.int .u8))))) t3) then (some (t5, ())) else k ((t0, ()), ((t3, ()), (((w6 (t5 + (1 : Int))), ()), ())))) else none) else kx ((t0, ()), ((t3, ()), ((t5, ()), ())))) else none)
def ru73_2 (F : Nat) (s : ShVal sh73_2) (kx : ShVal sh73_2 → Option R73) : Option R73 := iter (fun s k => st73_2 F s k kx) F s
abbrev ls73_2 (F : Nat) : LS R73 := ⟨sh73_2, 0, ru73_2 F⟩
def fn73 (F : Nat) (x : Args [.v (.slice 67 mat), .v mat]) : Option R73 :=
  match x with
  | (x0, x1, _) => (ru73_2 F ((x0, ()), ((x1, ()), (((0 : Int), ()), ()))) (fun s' => match s' with | ((t0, _), (t3, _), (t5, _), _) => (some ((-(1 : Int)), ()))))
theorem ev73_2 (F : Nat) (s : ShVal sh73_2) (k kx : ShVal sh73_2 → Option R73) : evL TT (ct73 ) kp73 [] (loopOf Try.f73 2) (envOf sh73_2 s) (fitK sh73_2 k) (fun j e => bif Nat.beq j 0 then fitK sh73_2 kx e else none) kr73 = st73_2 F s k kx := by
  obtain ⟨⟨t0, _⟩, ⟨t3, _⟩, ⟨t5, _⟩, _⟩ := s
  kernel_rfl
theorem ok73_2 (F : Nat) (hK : KOK Try.prog (ct73 )) : LSOK Try.prog ⟨19, false, undef⟩ (ls73_2 F) (loopOf Try.f73 2) kr73 :=
  loop_ok (st73_2 F) mixed tt_ok hK (by kernel_rfl) (LTOK_by (l := []) (by kernel_rfl) trivial) (ev73_2 F)
theorem ev73 (F : Nat) (x : Args [.v (.slice 67 mat), .v mat]) : fnK TT (ct73 ) kp73 [i64] [(2, ls73_2 F)] (bodyOf Try.f73) [.tmp 4] [.v (.slice 67 mat), .v mat] false false x = fn73 F x := by
  obtain ⟨x0, x1, _⟩ := x
  kernel_rfl
theorem ok73 (hK : KOK Try.prog (ct73 )) (cf : G73) (h : ∀ x y, cf x = some y → ∃ F, fn73 F x = some y) : KOne Try.prog 73 ⟨[.v (.slice 67 mat), .v mat], [i64], false, false, 0, cf⟩ :=
  fn_one rfl (c := bodyOf Try.f73) mixed tt_ok hK Try.func73 (by kernel_rfl) (by kernel_rfl) (Nat.le_of_ble_eq_true (by kernel_rfl)) (by decide) fun x y hxy => by
    obtain ⟨F, hF⟩ := h x y hxy
    exact ⟨[(2, ls73_2 F)], LTOK_by (l := [loopOf Try.f73 2]) (by kernel_rfl) ⟨ls_at (by kernel_rfl) (ok73_2 F hK), trivial⟩, (ev73 F x).trans hF⟩
abbrev R38 : Type := Ress [.bool]
abbrev G38 : Type := Args [.v (.pair i64 (.pair i64 (.pair (.slice 67 mat) .unit)))] → Option R38
abbrev kp38 : List (Nat × List Nat) := [(0, [1]), (1, [27, 1]), (2, [2]), (3, [3, 1]), (4, [32, 1, 3]), (6, [64, 1, 3]), (7, [2]), (5, [3, 1]), (8, [4, 1]), (9, [69, 1, 4]), (11, [5, 1, 4]), (12, [76, 4, 1, 5]), (14, [97, 4, 1, 5]), (15, [2]), (13, [5, 1, 4]), (10, [4, 1]), (16, [2])]
abbrev ct38 (g70 : G70) (g39 : G39) (g74 : G74) (g73 : G73) (g75 : G75) (g72 : G72) (g71 : G71) : CTab := [(70, ⟨[.v i64], [.bool], false, false, 0, g70⟩), (39, ⟨[.v i64, .v i64, .v i64], [.bool], false, false, 0, g39⟩), (74, ⟨[.v i64, .v i64, .v mat, .v mat], [mat], false, false, 0, g74⟩), (73, ⟨[.v (.slice 67 mat), .v mat], [i64], false, false, 0, g73⟩), (75, ⟨[.v i64], [mat], false, false, 0, g75⟩), (72, ⟨[.v mat, .v mat], [.bool], false, false, 0, g72⟩), (71, ⟨[.v i64, .v i64, .v mat], [.bool], false, false, 0, g71⟩)]
abbrev kr38 : Env → Option R38 := endK TT [.tmp 2] [.bool] false false
abbrev sh38_4 : Shape := [(1, .box false [.fz i64 0 false, .fz i64 0 false, .fz (.slice 67 mat) 0 true]), (3, vv i64)]
def st38_4 (g70 : G70) (g39 : G39) (g74 : G74) (g73 : G73) (g75 : G75) (g72 : G72) (g71 : G71) (F : Nat) (s : ShVal sh38_4) (k kx : ShVal sh38_4 → Option R38) : Option R38 :=
  match s with
  | ((t1_0, t1_1, t1_2, _), (t3, _), _) => (bif decide ((List.length t1_2) ≤ 9223372036854775807) then (bif decide (t3 < (Int.ofNat (List.length t1_2))) then (bif ib t3 (Int.ofNat (List.length t1_2)) then (match (g71 (t1_0, (t1_1, ((List.getD t1_2 (tn t3) (Ty.dflt (.arr 3 (.arr 3 (.int .u8))))), ())))) with | some r19 => (bif (!r19.1) then (some (false, ())) else (bif decide ((0 : Int) < t3) then (bif ib (w6 (t3 - (1 : Int))) (Int.ofNat (List.length t1_2)) then (bif ib t3 (Int.ofNat (List.length t1_2)) then (match (g72 ((List.getD t1_2 (tn (w6 (t3 - (1 : Int)))) (Ty.dflt (.arr 3 (.arr 3 (.int .u8))))), ((List.getD t1_2 (tn t3) (Ty.dflt (.arr 3 (.arr 3 (.int .u8))))), ()))) with | some r20 => (bif (bif false then true else (bif true then (!r20.1) else false)) then (some (false, ())) else k ((t1_0, (t1_1, (t1_2, ()))), (((w6 (t3 + (1 : Int))), ()), ()))) | none => none) else none) else none) else (bif (bif false then true else false) then (some (false, ())) else k ((t1_0, (t1_1, (t1_2, ()))), (((w6 (t3 + (1 : Int))), ()), ()))))) | none => none) else none) else kx ((t1_0, (t1_1, (t1_2, ()))), ((t3, ()), ()))) else none)
def ru38_4 (g70 : G70) (g39 : G39) (g74 : G74) (g73 : G73) (g75 : G75) (g72 : G72) (g71 : G71) (F : Nat) (s : ShVal sh38_4) (kx : ShVal sh38_4 → Option R38) : Option R38 := iter (fun s k => st38_4 g70 g39 g74 g73 g75 g72 g71 F s k kx) F s
abbrev ls38_4 (g70 : G70) (g39 : G39) (g74 : G74) (g73 : G73) (g75 : G75) (g72 : G72) (g71 : G71) (F : Nat) : LS R38 := ⟨sh38_4, 0, ru38_4 g70 g39 g74 g73 g75 g72 g71 F⟩
abbrev sh38_12 : Shape := [(1, .box false [.fz i64 0 false, .fz i64 0 false, .fz (.slice 67 mat) 0 true]), (4, vv i64), (5, vv i64)]
def st38_12 (g70 : G70) (g39 : G39) (g74 : G74) (g73 : G73) (g75 : G75) (g72 : G72) (g71 : G71) (F : Nat) (s : ShVal sh38_12) (k kx : ShVal sh38_12 → Option R38) : Option R38 :=
  match s with
  | ((t1_0, t1_1, t1_2, _), (t4, _), (t5, _), _) => (bif decide ((List.length t1_2) ≤ 9223372036854775807) then (bif decide (t5 < (Int.ofNat (List.length t1_2))) then (bif ib t4 (Int.ofNat (List.length t1_2)) then (bif ib t5 (Int.ofNat (List.length t1_2)) then (match (g74 (t1_0, (t1_1, ((List.getD t1_2 (tn t4) (Ty.dflt (.arr 3 (.arr 3 (.int .u8))))), ((List.getD t1_2 (tn t5) (Ty.dflt (.arr 3 (.arr 3 (.int .u8))))), ()))))) with | some r31 => (match (g73 (t1_2, (r31.1, ()))) with | some r32 => (bif decide (r32.1 < (0 : Int)) then (some (false, ())) else k ((t1_0, (t1_1, (t1_2, ()))), ((t4, ()), (((w6 (t5 + (1 : Int))), ()), ())))) | none => none) | none => none) else none) else none) else kx ((t1_0, (t1_1, (t1_2, ()))), ((t4, ()), ((t5, ()), ())))) else none)
def ru38_12 (g70 : G70) (g39 : G39) (g74 : G74) (g73 : G73) (g75 : G75) (g72 : G72) (g71 : G71) (F : Nat) (s : ShVal sh38_12) (kx : ShVal sh38_12 → Option R38) : Option R38 := iter (fun s k => st38_12 g70 g39 g74 g73 g75 g72 g71 F s k kx) F s
abbrev ls38_12 (g70 : G70) (g39 : G39) (g74 : G74) (g73 : G73) (g75 : G75) (g72 : G72) (g71 : G71) (F : Nat) : LS R38 := ⟨sh38_12, 4, ru38_12 g70 g39 g74 g73 g75 g72 g71 F⟩
abbrev sh38_9 : Shape := [(1, .box false [.fz i64 0 false, .fz i64 0 false, .fz (.slice 67 mat) 0 true]), (4, vv i64)]
def st38_9 (g70 : G70) (g39 : G39) (g74 : G74) (g73 : G73) (g75 : G75) (g72 : G72) (g71 : G71) (F : Nat) (s : ShVal sh38_9) (k kx : ShVal sh38_9 → Option R38) : Option R38 :=
  match s with
  | ((t1_0, t1_1, t1_2, _), (t4, _), _) => (bif decide ((List.length t1_2) ≤ 9223372036854775807) then (bif decide (t4 < (Int.ofNat (List.length t1_2))) then (ru38_12 g70 g39 g74 g73 g75 g72 g71 F ((t1_0, (t1_1, (t1_2, ()))), ((t4, ()), (((0 : Int), ()), ()))) (fun s' => match s' with | ((t1_0, t1_1, t1_2, _), (t4, _), (t5, _), _) => k ((t1_0, (t1_1, (t1_2, ()))), (((w6 (t4 + (1 : Int))), ()), ())))) else kx ((t1_0, (t1_1, (t1_2, ()))), ((t4, ()), ()))) else none)
def ru38_9 (g70 : G70) (g39 : G39) (g74 : G74) (g73 : G73) (g75 : G75) (g72 : G72) (g71 : G71) (F : Nat) (s : ShVal sh38_9) (kx : ShVal sh38_9 → Option R38) : Option R38 := iter (fun s k => st38_9 g70 g39 g74 g73 g75 g72 g71 F s k kx) F s
abbrev ls38_9 (g70 : G70) (g39 : G39) (g74 : G74) (g73 : G73) (g75 : G75) (g72 : G72) (g71 : G71) (F : Nat) : LS R38 := ⟨sh38_9, 2, ru38_9 g70 g39 g74 g73 g75 g72 g71 F⟩
def fn38 (g70 : G70) (g39 : G39) (g74 : G74) (g73 : G73) (g75 : G75) (g72 : G72) (g71 : G71) (F : Nat) (x : Args [.v (.pair i64 (.pair i64 (.pair (.slice 67 mat) .unit)))]) : Option R38 :=
  match x with
  | (x0, _) => (match (g70 (x0.1, ())) with | some r10 => (bif (!r10.1) then (some (false, ())) else (match (g39 (x0.2.1, ((1 : Int), ((3 : Int), ())))) with | some r11 => (bif (bif false then true else (!r11.1)) then (some (false, ())) else (bif decide ((List.length x0.2.2.1) ≤ 9223372036854775807) then (bif (bif false then true else decide ((Int.ofNat (List.length x0.2.2.1)) < (1 : Int))) then (some (false, ())) else (bif decide ((List.length x0.2.2.1) ≤ 9223372036854775807) then (bif (bif false then true else decide ((48 : Int) < (Int.ofNat (List.length x0.2.2.1)))) then (some (false, ())) else (ru38_4 g70 g39 g74 g73 g75 g72 g71 F ((x0.1, (x0.2.1, (x0.2.2.1, ()))), (((0 : Int), ()), ())) (fun s' => match s' with | ((t1_0, t1_1, t1_2, _), (t3, _), _) => (ru38_9 g70 g39 g74 g73 g75 g72 g71 F ((t1_0, (t1_1, (t1_2, ()))), (((0 : Int), ()), ())) (fun s' => match s' with | ((t1_0, t1_1, t1_2, _), (t4, _), _) => (match (g75 (t1_1, ())) with | some r23 => (match (g73 (t1_2, (r23.1, ()))) with | some r24 => (some (decide ((0 : Int) ≤ r24.1), ())) | none => none) | none => none)))))) else none)) else none)) | none => none)) | none => none)
theorem ev38_4 (g70 : G70) (g39 : G39) (g74 : G74) (g73 : G73) (g75 : G75) (g72 : G72) (g71 : G71) (F : Nat) (s : ShVal sh38_4) (k kx : ShVal sh38_4 → Option R38) : evL TT (ct38 g70 g39 g74 g73 g75 g72 g71 ) kp38 [] (loopOf Try.f38 4) (envOf sh38_4 s) (fitK sh38_4 k) (fun j e => bif Nat.beq j 0 then fitK sh38_4 kx e else none) kr38 = st38_4 g70 g39 g74 g73 g75 g72 g71 F s k kx := by
  obtain ⟨⟨t1_0, t1_1, t1_2, _⟩, ⟨t3, _⟩, _⟩ := s
  kernel_rfl
theorem ok38_4 (g70 : G70) (g39 : G39) (g74 : G74) (g73 : G73) (g75 : G75) (g72 : G72) (g71 : G71) (F : Nat) (hK : KOK Try.prog (ct38 g70 g39 g74 g73 g75 g72 g71 )) : LSOK Try.prog ⟨105, false, undef⟩ (ls38_4 g70 g39 g74 g73 g75 g72 g71 F) (loopOf Try.f38 4) kr38 :=
  loop_ok (st38_4 g70 g39 g74 g73 g75 g72 g71 F) mixed tt_ok hK (by kernel_rfl) (LTOK_by (l := []) (by kernel_rfl) trivial) (ev38_4 g70 g39 g74 g73 g75 g72 g71 F)
theorem ev38_12 (g70 : G70) (g39 : G39) (g74 : G74) (g73 : G73) (g75 : G75) (g72 : G72) (g71 : G71) (F : Nat) (s : ShVal sh38_12) (k kx : ShVal sh38_12 → Option R38) : evL TT (ct38 g70 g39 g74 g73 g75 g72 g71 ) kp38 [] (loopOf Try.f38 12) (envOf sh38_12 s) (fitK sh38_12 k) (fun j e => bif Nat.beq j 4 then fitK sh38_12 kx e else none) kr38 = st38_12 g70 g39 g74 g73 g75 g72 g71 F s k kx := by
  obtain ⟨⟨t1_0, t1_1, t1_2, _⟩, ⟨t4, _⟩, ⟨t5, _⟩, _⟩ := s
  kernel_rfl
theorem ok38_12 (g70 : G70) (g39 : G39) (g74 : G74) (g73 : G73) (g75 : G75) (g72 : G72) (g71 : G71) (F : Nat) (hK : KOK Try.prog (ct38 g70 g39 g74 g73 g75 g72 g71 )) : LSOK Try.prog ⟨105, false, undef⟩ (ls38_12 g70 g39 g74 g73 g75 g72 g71 F) (loopOf Try.f38 12) kr38 :=
  loop_ok (st38_12 g70 g39 g74 g73 g75 g72 g71 F) mixed tt_ok hK (by kernel_rfl) (LTOK_by (l := []) (by kernel_rfl) trivial) (ev38_12 g70 g39 g74 g73 g75 g72 g71 F)
theorem ev38_9 (g70 : G70) (g39 : G39) (g74 : G74) (g73 : G73) (g75 : G75) (g72 : G72) (g71 : G71) (F : Nat) (s : ShVal sh38_9) (k kx : ShVal sh38_9 → Option R38) : evL TT (ct38 g70 g39 g74 g73 g75 g72 g71 ) kp38 [(12, ls38_12 g70 g39 g74 g73 g75 g72 g71 F)] (loopOf Try.f38 9) (envOf sh38_9 s) (fitK sh38_9 k) (fun j e => bif Nat.beq j 2 then fitK sh38_9 kx e else none) kr38 = st38_9 g70 g39 g74 g73 g75 g72 g71 F s k kx := by
  obtain ⟨⟨t1_0, t1_1, t1_2, _⟩, ⟨t4, _⟩, _⟩ := s
  kernel_rfl
theorem ok38_9 (g70 : G70) (g39 : G39) (g74 : G74) (g73 : G73) (g75 : G75) (g72 : G72) (g71 : G71) (F : Nat) (hK : KOK Try.prog (ct38 g70 g39 g74 g73 g75 g72 g71 )) : LSOK Try.prog ⟨105, false, undef⟩ (ls38_9 g70 g39 g74 g73 g75 g72 g71 F) (loopOf Try.f38 9) kr38 :=
  loop_ok (st38_9 g70 g39 g74 g73 g75 g72 g71 F) mixed tt_ok hK (by kernel_rfl) (LTOK_by (l := [loopOf Try.f38 12]) (by kernel_rfl) ⟨ls_at (by kernel_rfl) (ok38_12 g70 g39 g74 g73 g75 g72 g71 F hK), trivial⟩) (ev38_9 g70 g39 g74 g73 g75 g72 g71 F)
theorem ev38 (g70 : G70) (g39 : G39) (g74 : G74) (g73 : G73) (g75 : G75) (g72 : G72) (g71 : G71) (F : Nat) (x : Args [.v (.pair i64 (.pair i64 (.pair (.slice 67 mat) .unit)))]) : fnK TT (ct38 g70 g39 g74 g73 g75 g72 g71 ) kp38 [.bool] [(4, ls38_4 g70 g39 g74 g73 g75 g72 g71 F), (9, ls38_9 g70 g39 g74 g73 g75 g72 g71 F)] (bodyOf Try.f38) [.tmp 2] [.v (.pair i64 (.pair i64 (.pair (.slice 67 mat) .unit)))] false false x = fn38 g70 g39 g74 g73 g75 g72 g71 F x := by
  obtain ⟨x0, _⟩ := x
  kernel_rfl
theorem ok38 (g70 : G70) (g39 : G39) (g74 : G74) (g73 : G73) (g75 : G75) (g72 : G72) (g71 : G71) (hK : KOK Try.prog (ct38 g70 g39 g74 g73 g75 g72 g71 )) (cf : G38) (h : ∀ x y, cf x = some y → ∃ F, fn38 g70 g39 g74 g73 g75 g72 g71 F x = some y) : KOne Try.prog 38 ⟨[.v (.pair i64 (.pair i64 (.pair (.slice 67 mat) .unit)))], [.bool], false, false, 0, cf⟩ :=
  fn_one rfl (c := bodyOf Try.f38) mixed tt_ok hK Try.func38 (by kernel_rfl) (by kernel_rfl) (Nat.le_of_ble_eq_true (by kernel_rfl)) (by decide) fun x y hxy => by
    obtain ⟨F, hF⟩ := h x y hxy
    exact ⟨[(4, ls38_4 g70 g39 g74 g73 g75 g72 g71 F), (9, ls38_9 g70 g39 g74 g73 g75 g72 g71 F)], LTOK_by (l := [loopOf Try.f38 4, loopOf Try.f38 9]) (by kernel_rfl) ⟨ls_at (by kernel_rfl) (ok38_4 g70 g39 g74 g73 g75 g72 g71 F hK), ⟨ls_at (by kernel_rfl) (ok38_9 g70 g39 g74 g73 g75 g72 g71 F hK), trivial⟩⟩, (ev38 g70 g39 g74 g73 g75 g72 g71 F x).trans hF⟩
abbrev R64 : Type := Ress [(.slice 2 i64)]
abbrev G64 : Type := Args [.v (.pair i64 (.pair i64 (.pair (.slice 67 mat) .unit)))] → Option R64
abbrev kp64 : List (Nat × List Nat) := [(0, [1]), (1, [3, 1]), (2, [4, 3, 1]), (3, [10, 3, 4, 1]), (5, [22, 3, 4, 1]), (6, [4, 3, 1]), (4, [4, 3, 1]), (7, [2])]
abbrev ct64 (g99 : G99) : CTab := [(99, ⟨[.v i64, .v i64, .v mat], [.bool], false, false, 0, g99⟩)]
abbrev kr64 : Env → Option R64 := endK TT [.tmp 2] [(.slice 2 i64)] true false
abbrev sh64_3 : Shape := [(1, .box false [.fz i64 0 false, .fz i64 0 false, .fz (.slice 67 mat) 0 true]), (3, vr 2 i64 49 false), (4, vv i64)]
def st64_3 (g99 : G99) (F : Nat) (s : ShVal sh64_3) (k kx : ShVal sh64_3 → Option R64) : Option R64 :=
  match s with
  | ((t1_0, t1_1, t1_2, _), (t3, _), (t4, _), _) => (bif decide ((List.length t1_2) ≤ 9223372036854775807) then (bif decide (t4 < (Int.ofNat (List.length t1_2))) then (bif ib t4 (Int.ofNat (List.length t1_2)) then (match (g99 (t1_0, (t1_1, ((List.getD t1_2 (tn t4) (Ty.dflt (.arr 3 (.arr 3 (.int .u8))))), ())))) with | some r12 => (bif r12.1 then (bif (growOk (List.length t3) (List.length (t4 :: []))) then k ((t1_0, (t1_1, (t1_2, ()))), (((t3 ++ (t4 :: [])), ()), (((w6 (t4 + (1 : Int))), ()), ()))) else none) else k ((t1_0, (t1_1, (t1_2, ()))), ((t3, ()), (((w6 (t4 + (1 : Int))), ()), ())))) | none => none) else none) else kx ((t1_0, (t1_1, (t1_2, ()))), ((t3, ()), ((t4, ()), ())))) else none)
def ru64_3 (g99 : G99) (F : Nat) (s : ShVal sh64_3) (kx : ShVal sh64_3 → Option R64) : Option R64 := iter (fun s k => st64_3 g99 F s k kx) F s
abbrev ls64_3 (g99 : G99) (F : Nat) : LS R64 := ⟨sh64_3, 0, ru64_3 g99 F⟩
def fn64 (g99 : G99) (F : Nat) (x : Args [.v (.pair i64 (.pair i64 (.pair (.slice 67 mat) .unit)))]) : Option R64 :=
  match x with
  | (x0, _) => (ru64_3 g99 F ((x0.1, (x0.2.1, (x0.2.2.1, ()))), (([], ()), (((0 : Int), ()), ()))) (fun s' => match s' with | ((t1_0, t1_1, t1_2, _), (t3, _), (t4, _), _) => (some (t3, ()))))
theorem ev64_3 (g99 : G99) (F : Nat) (s : ShVal sh64_3) (k kx : ShVal sh64_3 → Option R64) : evL TT (ct64 g99 ) kp64 [] (loopOf Try.f64 3) (envOf sh64_3 s) (fitK sh64_3 k) (fun j e => bif Nat.beq j 0 then fitK sh64_3 kx e else none) kr64 = st64_3 g99 F s k kx := by
  obtain ⟨⟨t1_0, t1_1, t1_2, _⟩, ⟨t3, _⟩, ⟨t4, _⟩, _⟩ := s
  kernel_rfl
theorem ok64_3 (g99 : G99) (F : Nat) (hK : KOK Try.prog (ct64 g99 )) : LSOK Try.prog ⟨28, false, undef⟩ (ls64_3 g99 F) (loopOf Try.f64 3) kr64 :=
  loop_ok (st64_3 g99 F) mixed tt_ok hK (by kernel_rfl) (LTOK_by (l := []) (by kernel_rfl) trivial) (ev64_3 g99 F)
theorem ev64 (g99 : G99) (F : Nat) (x : Args [.v (.pair i64 (.pair i64 (.pair (.slice 67 mat) .unit)))]) : fnK TT (ct64 g99 ) kp64 [(.slice 2 i64)] [(3, ls64_3 g99 F)] (bodyOf Try.f64) [.tmp 2] [.v (.pair i64 (.pair i64 (.pair (.slice 67 mat) .unit)))] true false x = fn64 g99 F x := by
  obtain ⟨x0, _⟩ := x
  kernel_rfl
theorem ok64 (g99 : G99) (hK : KOK Try.prog (ct64 g99 )) (cf : G64) (h : ∀ x y, cf x = some y → ∃ F, fn64 g99 F x = some y) : KOne Try.prog 64 ⟨[.v (.pair i64 (.pair i64 (.pair (.slice 67 mat) .unit)))], [(.slice 2 i64)], true, false, 0, cf⟩ :=
  fn_one rfl (c := bodyOf Try.f64) mixed tt_ok hK Try.func64 (by kernel_rfl) (by kernel_rfl) (Nat.le_of_ble_eq_true (by kernel_rfl)) (by decide) fun x y hxy => by
    obtain ⟨F, hF⟩ := h x y hxy
    exact ⟨[(3, ls64_3 g99 F)], LTOK_by (l := [loopOf Try.f64 3]) (by kernel_rfl) ⟨ls_at (by kernel_rfl) (ok64_3 g99 F hK), trivial⟩, (ev64 g99 F x).trans hF⟩
abbrev R104 : Type := Ress [mat]
abbrev G104 : Type := Args [.v i64] → Option R104
abbrev kp104 : List (Nat × List Nat) := [(0, [0, 2]), (1, [0, 3, 2]), (2, [7, 3, 2, 6]), (3, [8, 7, 3, 2, 6]), (4, [4, 7, 3, 2, 6]), (5, [7, 3, 2, 6]), (6, [7, 3, 2, 6]), (7, [2])]
abbrev ct104 : CTab := []
abbrev kr104 : Env → Option R104 := endK TT [.cell 2 67] [mat] false false
abbrev sh104_3 : Shape := [(2, bb mat), (3, bb mat), (6, vv i64), (7, vv i64)]
def st104_3 (F : Nat) (s : ShVal sh104_3) (k kx : ShVal sh104_3 → Option R104) : Option R104 :=
  match s with
  | ((t2, _), (t3, _), (t6, _), (t7, _), _) => (bif decide (t7 < t6) then (bif ib t7 (Int.ofNat 3) then (bif ib t7 (Int.ofNat 3) then k ((t2, ()), (((tset (tset (1 : Int) 3 (tget (Ty.dflt (.arr 3 (.int .u8))) 3 t3 (tn t7)) (tn t7)) 3 t3 (tn t7)), ()), ((t6, ()), (((w6 (t7 + (1 : Int))), ()), ())))) else none) else none) else kx ((t2, ()), ((t3, ()), ((t6, ()), ((t7, ()), ())))))
def ru104_3 (F : Nat) (s : ShVal sh104_3) (kx : ShVal sh104_3 → Option R104) : Option R104 := iter (fun s k => st104_3 F s k kx) F s
abbrev ls104_3 (F : Nat) : LS R104 := ⟨sh104_3, 0, ru104_3 F⟩
def fn104 (F : Nat) (x : Args [.v i64]) : Option R104 :=
  match x with
  | (x0, _) => (ru104_3 F (((Ty.dflt (.arr 3 (.arr 3 (.int .u8)))), ()), (((tup (Prod Int (Prod Int (Prod Int Unit))) (Ty.dflt (.arr 3 (.int .u8))) 3), ()), ((x0, ()), (((0 : Int), ()), ())))) (fun s' => match s' with | ((t2, _), (t3, _), (t6, _), (t7, _), _) => (some (t3, ()))))
theorem ev104_3 (F : Nat) (s : ShVal sh104_3) (k kx : ShVal sh104_3 → Option R104) : evL TT (ct104 ) kp104 [] (loopOf Try.f104 3) (envOf sh104_3 s) (fitK sh104_3 k) (fun j e => bif Nat.beq j 0 then fitK sh104_3 kx e else none) kr104 = st104_3 F s k kx := by
  obtain ⟨⟨t2, _⟩, ⟨t3, _⟩, ⟨t6, _⟩, ⟨t7, _⟩, _⟩ := s
  kernel_rfl
theorem ok104_3 (F : Nat) (hK : KOK Try.prog (ct104 )) : LSOK Try.prog ⟨16, false, undef⟩ (ls104_3 F) (loopOf Try.f104 3) kr104 :=
  loop_ok (st104_3 F) mixed tt_ok hK (by kernel_rfl) (LTOK_by (l := []) (by kernel_rfl) trivial) (ev104_3 F)
theorem ev104 (F : Nat) (x : Args [.v i64]) : fnK TT (ct104 ) kp104 [mat] [(3, ls104_3 F)] (bodyOf Try.f104) [.cell 2 67] [.v i64] false false x = fn104 F x := by
  obtain ⟨x0, _⟩ := x
  kernel_rfl
theorem ok104 (hK : KOK Try.prog (ct104 )) (cf : G104) (h : ∀ x y, cf x = some y → ∃ F, fn104 F x = some y) : KOne Try.prog 104 ⟨[.v i64], [mat], false, false, 0, cf⟩ :=
  fn_one rfl (c := bodyOf Try.f104) mixed tt_ok hK Try.func104 (by kernel_rfl) (by kernel_rfl) (Nat.le_of_ble_eq_true (by kernel_rfl)) (by decide) fun x y hxy => by
    obtain ⟨F, hF⟩ := h x y hxy
    exact ⟨[(3, ls104_3 F)], LTOK_by (l := [loopOf Try.f104 3]) (by kernel_rfl) ⟨ls_at (by kernel_rfl) (ok104_3 F hK), trivial⟩, (ev104 F x).trans hF⟩
abbrev R103 : Type := Ress [mat]
abbrev G103 : Type := Args [.v i64, .v i64, .v mat, .v mat] → Option R103
abbrev kp103 : List (Nat × List Nat) := [(0, [1, 7, 6, 0, 8]), (1, [1, 7, 6, 0, 9, 8]), (2, [16, 1, 7, 6, 0, 9, 8, 15]), (3, [17, 9, 0, 6, 7, 1, 16, 8, 15]), (4, [9, 0, 10, 6, 7, 1, 16, 8, 15]), (5, [20, 9, 0, 10, 6, 7, 1, 16, 8, 15, 19]), (6, [21, 7, 6, 10, 20, 9, 0, 1, 16, 8, 15, 19]), (7, [7, 11, 6, 10, 20, 9, 0, 1, 16, 8, 15, 19]), (8, [7, 11, 6, 10, 12, 20, 9, 0, 1, 16, 8, 15, 19]), (9, [24, 7, 11, 6, 10, 12, 20, 9, 0, 1, 16, 8, 15, 19, 23]), (10, [25, 12, 24, 7, 11, 6, 10, 20, 9, 0, 1, 16, 8, 15, 19, 23]), (11, [12, 13, 24, 7, 11, 6, 10, 20, 9, 0, 1, 16, 8, 15, 19, 23]), (12, [24, 7, 11, 6, 10, 12, 20, 9, 0, 1, 16, 8, 15, 19, 23]), (13, [24, 7, 11, 6, 10, 12, 20, 9, 0, 1, 16, 8, 15, 19, 23]), (14, [20, 9, 0, 10, 6, 7, 1, 16, 8, 15, 19]), (15, [20, 9, 0, 10, 6, 7, 1, 16, 8, 15, 19]), (16, [16, 1, 7, 6, 0, 9, 8, 15]), (17, [8])]
abbrev ct103 : CTab := []
abbrev kr103 : Env → Option R103 := endK TT [.cell 8 67] [mat] false false
abbrev sh103_10 : Shape := [(0, vv i64), (1, vv i64), (6, bb mat), (7, bb mat), (8, bb mat), (9, bb mat), (10, vv i64), (11, vv i64), (12, vv i64), (15, vv i64), (16, vv i64), (19, vv i64), (20, vv i64), (23, vv i64), (24, vv i64)]
def st103_10 (F : Nat) (s : ShVal sh103_10) (k kx : ShVal sh103_10 → Option R103) : Option R103 :=
  match s with
  | ((t0, _), (t1, _), (t6, _), (t7, _), (t8, _), (t9, _), (t10, _), (t11, _), (t12, _), (t15, _), (t16, _), (t19, _), (t20, _), (t23, _), (t24, _), _) => (bif decide (t24 < t23) then (bif ib t10 (Int.ofNat 3) then (bif ib t24 (Int.ofNat 3) then (bif ib t24 (Int.ofNat 3) then (bif ib t11 (Int.ofNat 3) then k ((t0, ()), ((t1, ()), ((t6, ()), ((t7, ()), ((t8, ()), ((t9, ()), ((t10, ()), ((t11, ()), (((w6 (t12 + (w6 ((w6 (tget (0 : Int) 3 (tget (Ty.dflt (.arr 3 (.int .u8))) 3 t6 (tn t10)) (tn t24))) * (w6 (tget (0 : Int) 3 (tget (Ty.dflt (.arr 3 (.int .u8))) 3 t7 (tn t24)) (tn t11))))))), ()), ((t15, ()), ((t16, ()), ((t19, ()), ((t20, ()), ((t23, ()), (((w6 (t24 + (1 : Int))), ()), ()))))))))))))))) else none) else none) else none) else none) else kx ((t0, ()), ((t1, ()), ((t6, ()), ((t7, ()), ((t8, ()), ((t9, ()), ((t10, ()), ((t11, ()), ((t12, ()), ((t15, ()), ((t16, ()), ((t19, ()), ((t20, ()), ((t23, ()), ((t24, ()), ()))))))))))))))))
def ru103_10 (F : Nat) (s : ShVal sh103_10) (kx : ShVal sh103_10 → Option R103) : Option R103 := iter (fun s k => st103_10 F s k kx) F s
abbrev ls103_10 (F : Nat) : LS R103 := ⟨sh103_10, 4, ru103_10 F⟩
abbrev sh103_6 : Shape := [(0, vv i64), (1, vv i64), (6, bb mat), (7, bb mat), (8, bb mat), (9, bb mat), (10, vv i64), (15, vv i64), (16, vv i64), (19, vv i64), (20, vv i64)]
def st103_6 (F : Nat) (s : ShVal sh103_6) (k kx : ShVal sh103_6 → Option R103) : Option R103 :=
  match s with
  | ((t0, _), (t1, _), (t6, _), (t7, _), (t8, _), (t9, _), (t10, _), (t15, _), (t16, _), (t19, _), (t20, _), _) => (bif decide (t20 < t19) then (ru103_10 F ((t0, ()), ((t1, ()), ((t6, ()), ((t7, ()), ((t8, ()), ((t9, ()), ((t10, ()), ((t20, ()), (((0 : Int), ()), ((t15, ()), ((t16, ()), ((t19, ()), ((t20, ()), ((t1, ()), (((0 : Int), ()), ()))))))))))))))) (fun s' => match s' with | ((t0, _), (t1, _), (t6, _), (t7, _), (t8, _), (t9, _), (t10, _), (t11, _), (t12, _), (t15, _), (t16, _), (t19, _), (t20, _), (t23, _), (t24, _), _) => (bif (!decide (t0 = (0 : Int))) then (bif ib t10 (Int.ofNat 3) then (bif ib t11 (Int.ofNat 3) then k ((t0, ()), ((t1, ()), ((t6, ()), ((t7, ()), ((t8, ()), (((tset (tset (w8 (Int.tmod t12 t0)) 3 (tget (Ty.dflt (.arr 3 (.int .u8))) 3 t9 (tn t10)) (tn t11)) 3 t9 (tn t10)), ()), ((t10, ()), ((t15, ()), ((t16, ()), ((t19, ()), (((w6 (t20 + (1 : Int))), ()), ()))))))))))) else none) else none) else none))) else kx ((t0, ()), ((t1, ()), ((t6, ()), ((t7, ()), ((t8, ()), ((t9, ()), ((t10, ()), ((t15, ()), ((t16, ()), ((t19, ()), ((t20, ()), ()))))))))))))
def ru103_6 (F : Nat) (s : ShVal sh103_6) (kx : ShVal sh103_6 → Option R103) : Option R103 := iter (fun s k => st103_6 F s k kx) F s
abbrev ls103_6 (F : Nat) : LS R103 := ⟨sh103_6, 2, ru103_6 F⟩
abbrev sh103_3 : Shape := [(0, vv i64), (1, vv i64), (6, bb mat), (7, bb mat), (8, bb mat), (9, bb mat), (15, vv i64), (16, vv i64)]
def st103_3 (F : Nat) (s : ShVal sh103_3) (k kx : ShVal sh103_3 → Option R103) : Option R103 :=
  match s with
  | ((t0, _), (t1, _), (t6, _), (t7, _), (t8, _), (t9, _), (t15, _), (t16, _), _) => (bif decide (t16 < t15) then (ru103_6 F ((t0, ()), ((t1, ()), ((t6, ()), ((t7, ()), ((t8, ()), ((t9, ()), ((t16, ()), ((t15, ()), ((t16, ()), ((t1, ()), (((0 : Int), ()), ()))))))))))) (fun s' => match s' with | ((t0, _), (t1, _), (t6, _), (t7, _), (t8, _), (t9, _), (t10, _), (t15, _), (t16, _), (t19, _), (t20, _), _) => k ((t0, ()), ((t1, ()), ((t6, ()), ((t7, ()), ((t8, ()), ((t9, ()), ((t15, ()), (((w6 (t16 + (1 : Int))), ()), ())))))))))) else kx ((t0, ()), ((t1, ()), ((t6, ()), ((t7, ()), ((t8, ()), ((t9, ()), ((t15, ()), ((t16, ()), ())))))))))
def ru103_3 (F : Nat) (s : ShVal sh103_3) (kx : ShVal sh103_3 → Option R103) : Option R103 := iter (fun s k => st103_3 F s k kx) F s
abbrev ls103_3 (F : Nat) : LS R103 := ⟨sh103_3, 0, ru103_3 F⟩
def fn103 (F : Nat) (x : Args [.v i64, .v i64, .v mat, .v mat]) : Option R103 :=
  match x with
  | (x0, x1, x2, x3, _) => (ru103_3 F ((x0, ()), ((x1, ()), ((x2, ()), ((x3, ()), (((Ty.dflt (.arr 3 (.arr 3 (.int .u8)))), ()), (((tup (Prod Int (Prod Int (Prod Int Unit))) (Ty.dflt (.arr 3 (.int .u8))) 3), ()), ((x1, ()), (((0 : Int), ()), ())))))))) (fun s' => match s' with | ((t0, _), (t1, _), (t6, _), (t7, _), (t8, _), (t9, _), (t15, _), (t16, _), _) => (some (t9, ()))))
theorem ev103_10 (F : Nat) (s : ShVal sh103_10) (k kx : ShVal sh103_10 → Option R103) : evL TT (ct103 ) kp103 [] (loopOf Try.f103 10) (envOf sh103_10 s) (fitK sh103_10 k) (fun j e => bif Nat.beq j 4 then fitK sh103_10 kx e else none) kr103 = st103_10 F s k kx := by
  obtain ⟨⟨t0, _⟩, ⟨t1, _⟩, ⟨t6, _⟩, ⟨t7, _⟩, ⟨t8, _⟩, ⟨t9, _⟩, ⟨t10, _⟩, ⟨t11, _⟩, ⟨t12, _⟩, ⟨t15, _⟩, ⟨t16, _⟩, ⟨t19, _⟩, ⟨t20, _⟩, ⟨t23, _⟩, ⟨t24, _⟩, _⟩ := s
  kernel_rfl
theorem ok103_10 (F : Nat) (hK : KOK Try.prog (ct103 )) : LSOK Try.prog ⟨54, false, undef⟩ (ls103_10 F) (loopOf Try.f103 10) kr103 :=
  loop_ok (st103_10 F) mixed tt_ok hK (by kernel_rfl) (LTOK_by (l := []) (by kernel_rfl) trivial) (ev103_10 F)
theorem ev103_6 (F : Nat) (s : ShVal sh103_6) (k kx : ShVal sh103_6 → Option R103) : evL TT (ct103 ) kp103 [(10, ls103_10 F)] (loopOf Try.f103 6) (envOf sh103_6 s) (fitK sh103_6 k) (fun j e => bif Nat.beq j 2 then fitK sh103_6 kx e else none) kr103 = st103_6 F s k kx := by
  obtain ⟨⟨t0, _⟩, ⟨t1, _⟩, ⟨t6, _⟩, ⟨t7, _⟩, ⟨t8, _⟩, ⟨t9, _⟩, ⟨t10, _⟩, ⟨t15, _⟩, ⟨t16, _⟩, ⟨t19, _⟩, ⟨t20, _⟩, _⟩ := s
  kernel_rfl
theorem ok103_6 (F : Nat) (hK : KOK Try.prog (ct103 )) : LSOK Try.prog ⟨54, false, undef⟩ (ls103_6 F) (loopOf Try.f103 6) kr103 :=
  loop_ok (st103_6 F) mixed tt_ok hK (by kernel_rfl) (LTOK_by (l := [loopOf Try.f103 10]) (by kernel_rfl) ⟨ls_at (by kernel_rfl) (ok103_10 F hK), trivial⟩) (ev103_6 F)
theorem ev103_3 (F : Nat) (s : ShVal sh103_3) (k kx : ShVal sh103_3 → Option R103) : evL TT (ct103 ) kp103 [(6, ls103_6 F)] (loopOf Try.f103 3) (envOf sh103_3 s) (fitK sh103_3 k) (fun j e => bif Nat.beq j 0 then fitK sh103_3 kx e else none) kr103 = st103_3 F s k kx := by
  obtain ⟨⟨t0, _⟩, ⟨t1, _⟩, ⟨t6, _⟩, ⟨t7, _⟩, ⟨t8, _⟩, ⟨t9, _⟩, ⟨t15, _⟩, ⟨t16, _⟩, _⟩ := s
  kernel_rfl
theorem ok103_3 (F : Nat) (hK : KOK Try.prog (ct103 )) : LSOK Try.prog ⟨54, false, undef⟩ (ls103_3 F) (loopOf Try.f103 3) kr103 :=
  loop_ok (st103_3 F) mixed tt_ok hK (by kernel_rfl) (LTOK_by (l := [loopOf Try.f103 6]) (by kernel_rfl) ⟨ls_at (by kernel_rfl) (ok103_6 F hK), trivial⟩) (ev103_3 F)
theorem ev103 (F : Nat) (x : Args [.v i64, .v i64, .v mat, .v mat]) : fnK TT (ct103 ) kp103 [mat] [(3, ls103_3 F)] (bodyOf Try.f103) [.cell 8 67] [.v i64, .v i64, .v mat, .v mat] false false x = fn103 F x := by
  obtain ⟨x0, x1, x2, x3, _⟩ := x
  kernel_rfl
theorem ok103 (hK : KOK Try.prog (ct103 )) (cf : G103) (h : ∀ x y, cf x = some y → ∃ F, fn103 F x = some y) : KOne Try.prog 103 ⟨[.v i64, .v i64, .v mat, .v mat], [mat], false, false, 0, cf⟩ :=
  fn_one rfl (c := bodyOf Try.f103) mixed tt_ok hK Try.func103 (by kernel_rfl) (by kernel_rfl) (Nat.le_of_ble_eq_true (by kernel_rfl)) (by decide) fun x y hxy => by
    obtain ⟨F, hF⟩ := h x y hxy
    exact ⟨[(3, ls103_3 F)], LTOK_by (l := [loopOf Try.f103 3]) (by kernel_rfl) ⟨ls_at (by kernel_rfl) (ok103_3 F hK), trivial⟩, (ev103 F x).trans hF⟩
abbrev R102 : Type := Ress [.bool]
abbrev G102 : Type := Args [.v (.pair i64 (.pair i64 (.pair (.slice 67 mat) .unit))), .v mat] → Option R102
abbrev kp102 : List (Nat × List Nat) := [(0, [2, 3]), (1, [4])]
abbrev ct102 (g125 : G125) : CTab := [(125, ⟨[.v (.slice 67 mat), .v mat], [.bool], false, false, 0, g125⟩)]
def fn102 (g125 : G125) (F : Nat) (x : Args [.v (.pair i64 (.pair i64 (.pair (.slice 67 mat) .unit))), .v mat]) : Option R102 :=
  match x with
  | (x0, x1, _) => (match (g125 (x0.2.2.1, (x1, ()))) with | some r5 => (some (r5.1, ())) | none => none)
theorem ev102 (g125 : G125) (F : Nat) (x : Args [.v (.pair i64 (.pair i64 (.pair (.slice 67 mat) .unit))), .v mat]) : fnK TT (ct102 g125 ) kp102 [.bool] [] (bodyOf Try.f102) [.tmp 4] [.v (.pair i64 (.pair i64 (.pair (.slice 67 mat) .unit))), .v mat] false false x = fn102 g125 F x := by
  obtain ⟨x0, x1, _⟩ := x
  kernel_rfl
theorem ok102 (g125 : G125) (hK : KOK Try.prog (ct102 g125 )) (cf : G102) (h : ∀ x y, cf x = some y → ∃ F, fn102 g125 F x = some y) : KOne Try.prog 102 ⟨[.v (.pair i64 (.pair i64 (.pair (.slice 67 mat) .unit))), .v mat], [.bool], false, false, 0, cf⟩ :=
  fn_one rfl (c := bodyOf Try.f102) mixed tt_ok hK Try.func102 (by kernel_rfl) (by kernel_rfl) (Nat.le_of_ble_eq_true (by kernel_rfl)) (by decide) fun x y hxy => by
    obtain ⟨F, hF⟩ := h x y hxy
    exact ⟨[], LTOK_by (l := []) (by kernel_rfl) trivial, (ev102 g125 F x).trans hF⟩
abbrev R65 : Type := Ress [.bool]
abbrev G65 : Type := Args [.v (.pair i64 (.pair i64 (.pair (.slice 67 mat) .unit)))] → Option R65
abbrev kp65 : List (Nat × List Nat) := [(0, [1]), (1, [26, 1]), (2, [2]), (3, [1, 30, 28, 29]), (4, [31, 29, 28, 30, 1]), (5, [3, 29, 28, 30, 1, 4]), (6, [47, 29, 28, 30, 1, 4]), (7, [2]), (8, [51, 4, 1, 49, 30, 28, 29, 50]), (9, [52, 50, 29, 28, 30, 49, 1, 4, 51]), (10, [6, 50, 29, 28, 30, 49, 1, 4, 51]), (11, [64, 50, 29, 28, 30, 49, 1, 4, 51]), (12, [2]), (13, [51, 4, 1, 49, 30, 28, 29, 50]), (14, [1, 30, 28, 29]), (15, [2])]
abbrev ct65 (g100 : G100) (g104 : G104) (g103 : G103) (g102 : G102) (g101 : G101) : CTab := [(100, ⟨[.v i64, .v i64, .v (.slice 67 mat)], [.bool], false, false, 0, g100⟩), (104, ⟨[.v i64], [mat], false, false, 0, g104⟩), (103, ⟨[.v i64, .v i64, .v mat, .v mat], [mat], false, false, 0, g103⟩), (102, ⟨[.v (.pair i64 (.pair i64 (.pair (.slice 67 mat) .unit))), .v mat], [.bool], false, false, 0, g102⟩), (101, ⟨[.v mat, .v mat], [i64], false, false, 0, g101⟩)]
abbrev kr65 : Env → Option R65 := endK TT [.tmp 2] [.bool] false false
abbrev sh65_9 : Shape := [(1, .box false [.fz i64 0 false, .fz i64 0 false, .fz (.slice 67 mat) 0 true]), (4, bb mat), (28, .val false [.fz (.slice 67 mat) 0 true]), (29, vv i64), (30, vv i64), (49, .val false [.fz (.slice 67 mat) 0 true]), (50, vv i64), (51, vv i64)]
def st65_9 (g100 : G100) (g104 : G104) (g103 : G103) (g102 : G102) (g101 : G101) (F : Nat) (s : ShVal sh65_9) (k kx : ShVal sh65_9 → Option R65) : Option R65 :=
  match s with
  | ((t1_0, t1_1, t1_2, _), (t4, _), (t28, _), (t29, _), (t30, _), (t49, _), (t50, _), (t51, _), _) => (bif decide (t51 < t50) then (bif ib t51 (Int.ofNat (List.length t49)) then (match (g103 (t1_0, (t1_1, (t4, ((List.getD t49 (tn t51) (Ty.dflt (.arr 3 (.arr 3 (.int .u8))))), ()))))) with | some r34 => (match (g102 ((t1_0, (t1_1, (t1_2, ()))), (r34.1, ()))) with | some r35 => (bif (!r35.1) then (some (false, ())) else k ((t1_0, (t1_1, (t1_2, ()))), ((t4, ()), ((t28, ()), ((t29, ()), ((t30, ()), ((t49, ()), ((t50, ()), (((w6 (t51 + (1 : Int))), ()), ()))))))))) | none => none) | none => none) else none) else kx ((t1_0, (t1_1, (t1_2, ()))), ((t4, ()), ((t28, ()), ((t29, ()), ((t30, ()), ((t49, ()), ((t50, ()), ((t51, ()), ())))))))))
def ru65_9 (g100 : G100) (g104 : G104) (g103 : G103) (g102 : G102) (g101 : G101) (F : Nat) (s : ShVal sh65_9) (kx : ShVal sh65_9 → Option R65) : Option R65 := iter (fun s k => st65_9 g100 g104 g103 g102 g101 F s k kx) F s
abbrev ls65_9 (g100 : G100) (g104 : G104) (g103 : G103) (g102 : G102) (g101 : G101) (F : Nat) : LS R65 := ⟨sh65_9, 2, ru65_9 g100 g104 g103 g102 g101 F⟩
abbrev sh65_4 : Shape := [(1, .box false [.fz i64 0 false, .fz i64 0 false, .fz (.slice 67 mat) 0 true]), (28, .val false [.fz (.slice 67 mat) 0 true]), (29, vv i64), (30, vv i64)]
def st65_4 (g100 : G100) (g104 : G104) (g103 : G103) (g102 : G102) (g101 : G101) (F : Nat) (s : ShVal sh65_4) (k kx : ShVal sh65_4 → Option R65) : Option R65 :=
  match s with
  | ((t1_0, t1_1, t1_2, _), (t28, _), (t29, _), (t30, _), _) => (bif decide (t30 < t29) then (bif ib t30 (Int.ofNat (List.length t28)) then (bif decide ((0 : Int) < t30) then (bif ib (w6 (t30 - (1 : Int))) (Int.ofNat (List.length t1_2)) then (match (g101 ((List.getD t1_2 (tn (w6 (t30 - (1 : Int)))) (Ty.dflt (.arr 3 (.arr 3 (.int .u8))))), ((List.getD t28 (tn t30) (Ty.dflt (.arr 3 (.arr 3 (.int .u8))))), ()))) with | some r19 => (bif (bif true then decide ((0 : Int) ≤ r19.1) else false) then (some (false, ())) else (bif decide ((List.length t1_2) ≤ 9223372036854775807) then (ru65_9 g100 g104 g103 g102 g101 F ((t1_0, (t1_1, (t1_2, ()))), (((List.getD t28 (tn t30) (Ty.dflt (.arr 3 (.arr 3 (.int .u8))))), ()), ((t28, ()), ((t29, ()), ((t30, ()), ((t1_2, ()), (((Int.ofNat (List.length t1_2)), ()), (((0 : Int), ()), ())))))))) (fun s' => match s' with | ((t1_0, t1_1, t1_2, _), (t4, _), (t28, _), (t29, _), (t30, _), (t49, _), (t50, _), (t51, _), _) => k ((t1_0, (t1_1, (t1_2, ()))), ((t28, ()), ((t29, ()), (((w6 (t30 + (1 : Int))), ()), ())))))) else none)) | none => none) else none) else (bif decide ((List.length t1_2) ≤ 9223372036854775807) then (ru65_9 g100 g104 g103 g102 g101 F ((t1_0, (t1_1, (t1_2, ()))), (((List.getD t28 (tn t30) (Ty.dflt (.arr 3 (.arr 3 (.int .u8))))), ()), ((t28, ()), ((t29, ()), ((t30, ()), ((t1_2, ()), (((Int.ofNat (List.length t1_2)), ()), (((0 : Int), ()), ())))))))) (fun s' => match s' with | ((t1_0, t1_1, t1_2, _), (t4, _), (t28, _), (t29, _), (t30, _), (t49, _), (t50, _), (t51, _), _) => k ((t1_0, (t1_1, (t1_2, ()))), ((t28, ()), ((t29, ()), (((w6 (t30 + (1 : Int))), ()), ())))))) else none)) else none) else kx ((t1_0, (t1_1, (t1_2, ()))), ((t28, ()), ((t29, ()), ((t30, ()), ())))))
def ru65_4 (g100 : G100) (g104 : G104) (g103 : G103) (g102 : G102) (g101 : G101) (F : Nat) (s : ShVal sh65_4) (kx : ShVal sh65_4 → Option R65) : Option R65 := iter (fun s k => st65_4 g100 g104 g103 g102 g101 F s k kx) F s
abbrev ls65_4 (g100 : G100) (g104 : G104) (g103 : G103) (g102 : G102) (g101 : G101) (F : Nat) : LS R65 := ⟨sh65_4, 0, ru65_4 g100 g104 g103 g102 g101 F⟩
def fn65 (g100 : G100) (g104 : G104) (g103 : G103) (g102 : G102) (g101 : G101) (F : Nat) (x : Args [.v (.pair i64 (.pair i64 (.pair (.slice 67 mat) .unit)))]) : Option R65 :=
  match x with
  | (x0, _) => (bif decide ((List.length x0.2.2.1) ≤ 9223372036854775807) then (bif decide ((Int.ofNat (List.length x0.2.2.1)) < (1 : Int)) then (some (false, ())) else (bif decide ((List.length x0.2.2.1) ≤ 9223372036854775807) then (bif (bif false then true else decide ((48 : Int) < (Int.ofNat (List.length x0.2.2.1)))) then (some (false, ())) else (match (g100 (x0.1, (x0.2.1, (x0.2.2.1, ())))) with | some r8 => (bif (bif false then true else (!r8.1)) then (some (false, ())) else (bif decide ((List.length x0.2.2.1) ≤ 9223372036854775807) then (ru65_4 g100 g104 g103 g102 g101 F ((x0.1, (x0.2.1, (x0.2.2.1, ()))), ((x0.2.2.1, ()), (((Int.ofNat (List.length x0.2.2.1)), ()), (((0 : Int), ()), ())))) (fun s' => match s' with | ((t1_0, t1_1, t1_2, _), (t28, _), (t29, _), (t30, _), _) => (match (g104 (t1_1, ())) with | some r17 => (match (g102 ((t1_0, (t1_1, (t1_2, ()))), (r17.1, ()))) with | some r18 => (some (r18.1, ())) | none => none) | none => none))) else none)) | none => none)) else none)) else none)
theorem ev65_9 (g100 : G100) (g104 : G104) (g103 : G103) (g102 : G102) (g101 : G101) (F : Nat) (s : ShVal sh65_9) (k kx : ShVal sh65_9 → Option R65) : evL TT (ct65 g100 g104 g103 g102 g101 ) kp65 [] (loopOf Try.f65 9) (envOf sh65_9 s) (fitK sh65_9 k) (fun j e => bif Nat.beq j 2 then fitK sh65_9 kx e else none) kr65 = st65_9 g100 g104 g103 g102 g101 F s k kx := by
  obtain ⟨⟨t1_0, t1_1, t1_2, _⟩, ⟨t4, _⟩, ⟨t28, _⟩, ⟨t29, _⟩, ⟨t30, _⟩, ⟨t49, _⟩, ⟨t50, _⟩, ⟨t51, _⟩, _⟩ := s
  kernel_rfl
theorem ok65_9 (g100 : G100) (g104 : G104) (g103 : G103) (g102 : G102) (g101 : G101) (F : Nat) (hK : KOK Try.prog (ct65 g100 g104 g103 g102 g101 )) : LSOK Try.prog ⟨72, false, undef⟩ (ls65_9 g100 g104 g103 g102 g101 F) (loopOf Try.f65 9) kr65 :=
  loop_ok (st65_9 g100 g104 g103 g102 g101 F) mixed tt_ok hK (by kernel_rfl) (LTOK_by (l := []) (by kernel_rfl) trivial) (ev65_9 g100 g104 g103 g102 g101 F)
theorem ev65_4 (g100 : G100) (g104 : G104) (g103 : G103) (g102 : G102) (g101 : G101) (F : Nat) (s : ShVal sh65_4) (k kx : ShVal sh65_4 → Option R65) : evL TT (ct65 g100 g104 g103 g102 g101 ) kp65 [(9, ls65_9 g100 g104 g103 g102 g101 F)] (loopOf Try.f65 4) (envOf sh65_4 s) (fitK sh65_4 k) (fun j e => bif Nat.beq j 0 then fitK sh65_4 kx e else none) kr65 = st65_4 g100 g104 g103 g102 g101 F s k kx := by
  obtain ⟨⟨t1_0, t1_1, t1_2, _⟩, ⟨t28, _⟩, ⟨t29, _⟩, ⟨t30, _⟩, _⟩ := s
  kernel_rfl
theorem ok65_4 (g100 : G100) (g104 : G104) (g103 : G103) (g102 : G102) (g101 : G101) (F : Nat) (hK : KOK Try.prog (ct65 g100 g104 g103 g102 g101 )) : LSOK Try.prog ⟨72, false, undef⟩ (ls65_4 g100 g104 g103 g102 g101 F) (loopOf Try.f65 4) kr65 :=
  loop_ok (st65_4 g100 g104 g103 g102 g101 F) mixed tt_ok hK (by kernel_rfl) (LTOK_by (l := [loopOf Try.f65 9]) (by kernel_rfl) ⟨ls_at (by kernel_rfl) (ok65_9 g100 g104 g103 g102 g101 F hK), trivial⟩) (ev65_4 g100 g104 g103 g102 g101 F)
theorem ev65 (g100 : G100) (g104 : G104) (g103 : G103) (g102 : G102) (g101 : G101) (F : Nat) (x : Args [.v (.pair i64 (.pair i64 (.pair (.slice 67 mat) .unit)))]) : fnK TT (ct65 g100 g104 g103 g102 g101 ) kp65 [.bool] [(4, ls65_4 g100 g104 g103 g102 g101 F)] (bodyOf Try.f65) [.tmp 2] [.v (.pair i64 (.pair i64 (.pair (.slice 67 mat) .unit)))] false false x = fn65 g100 g104 g103 g102 g101 F x := by
  obtain ⟨x0, _⟩ := x
  kernel_rfl
theorem ok65 (g100 : G100) (g104 : G104) (g103 : G103) (g102 : G102) (g101 : G101) (hK : KOK Try.prog (ct65 g100 g104 g103 g102 g101 )) (cf : G65) (h : ∀ x y, cf x = some y → ∃ F, fn65 g100 g104 g103 g102 g101 F x = some y) : KOne Try.prog 65 ⟨[.v (.pair i64 (.pair i64 (.pair (.slice 67 mat) .unit)))], [.bool], false, false, 0, cf⟩ :=
  fn_one rfl (c := bodyOf Try.f65) mixed tt_ok hK Try.func65 (by kernel_rfl) (by kernel_rfl) (Nat.le_of_ble_eq_true (by kernel_rfl)) (by decide) fun x y hxy => by
    obtain ⟨F, hF⟩ := h x y hxy
    exact ⟨[(4, ls65_4 g100 g104 g103 g102 g101 F)], LTOK_by (l := [loopOf Try.f65 4]) (by kernel_rfl) ⟨ls_at (by kernel_rfl) (ok65_4 g100 g104 g103 g102 g101 F hK), trivial⟩, (ev65 g100 g104 g103 g102 g101 F x).trans hF⟩
abbrev R66 : Type := Ress [(.slice 2 i64)]
abbrev G66 : Type := Args [.v (.pair i64 (.pair i64 (.pair (.slice 67 mat) .unit)))] → Option R66
abbrev kp66 : List (Nat × List Nat) := [(0, [1]), (1, [3, 1]), (2, [10, 3, 1, 8, 9]), (3, [11, 3, 10, 1, 8, 9]), (4, [5, 3, 4, 10, 1, 8, 9]), (5, [21, 3, 4, 10, 1, 8, 9]), (6, [10, 3, 1, 8, 9]), (7, [10, 3, 1, 8, 9]), (8, [2])]
abbrev ct66 (g105 : G105) : CTab := [(105, ⟨[.v i64, .v i64, .v mat], [(.slice 2 i64)], true, true, 0, g105⟩)]
abbrev kr66 : Env → Option R66 := endK TT [.tmp 2] [(.slice 2 i64)] true false
abbrev sh66_3 : Shape := [(1, .box false [.fz i64 0 false, .fz i64 0 false, .fz (.slice 67 mat) 0 true]), (3, vr 2 i64 49 false), (8, .val false [.fz (.slice 67 mat) 0 true]), (9, vv i64), (10, vv i64)]
def st66_3 (g105 : G105) (F : Nat) (s : ShVal sh66_3) (k kx : ShVal sh66_3 → Option R66) : Option R66 :=
  match s with
  | ((t1_0, t1_1, t1_2, _), (t3, _), (t8, _), (t9, _), (t10, _), _) => (bif decide (t10 < t9) then (bif ib t10 (Int.ofNat (List.length t8)) then (match (g105 (t1_0, (t1_1, ((List.getD t8 (tn t10) (Ty.dflt (.arr 3 (.arr 3 (.int .u8))))), ())))) with | some r15 => (bif (!(List.isEmpty r15.1)) then (bif (growOk (List.length t3) (List.length (t10 :: []))) then k ((t1_0, (t1_1, (t1_2, ()))), (((t3 ++ (t10 :: [])), ()), ((t8, ()), ((t9, ()), (((w6 (t10 + (1 : Int))), ()), ()))))) else none) else k ((t1_0, (t1_1, (t1_2, ()))), ((t3, ()), ((t8, ()), ((t9, ()), (((w6 (t10 + (1 : Int))), ()), ())))))) | none => none) else none) else kx ((t1_0, (t1_1, (t1_2, ()))), ((t3, ()), ((t8, ()), ((t9, ()), ((t10, ()), ()))))))
def ru66_3 (g105 : G105) (F : Nat) (s : ShVal sh66_3) (kx : ShVal sh66_3 → Option R66) : Option R66 := iter (fun s k => st66_3 g105 F s k kx) F s
abbrev ls66_3 (g105 : G105) (F : Nat) : LS R66 := ⟨sh66_3, 0, ru66_3 g105 F⟩
def fn66 (g105 : G105) (F : Nat) (x : Args [.v (.pair i64 (.pair i64 (.pair (.slice 67 mat) .unit)))]) : Option R66 :=
  match x with
  | (x0, _) => (bif decide ((List.length x0.2.2.1) ≤ 9223372036854775807) then (ru66_3 g105 F ((x0.1, (x0.2.1, (x0.2.2.1, ()))), (([], ()), ((x0.2.2.1, ()), (((Int.ofNat (List.length x0.2.2.1)), ()), (((0 : Int), ()), ()))))) (fun s' => match s' with | ((t1_0, t1_1, t1_2, _), (t3, _), (t8, _), (t9, _), (t10, _), _) => (some (t3, ())))) else none)
theorem ev66_3 (g105 : G105) (F : Nat) (s : ShVal sh66_3) (k kx : ShVal sh66_3 → Option R66) : evL TT (ct66 g105 ) kp66 [] (loopOf Try.f66 3) (envOf sh66_3 s) (fitK sh66_3 k) (fun j e => bif Nat.beq j 0 then fitK sh66_3 kx e else none) kr66 = st66_3 g105 F s k kx := by
  obtain ⟨⟨t1_0, t1_1, t1_2, _⟩, ⟨t3, _⟩, ⟨t8, _⟩, ⟨t9, _⟩, ⟨t10, _⟩, _⟩ := s
  kernel_rfl
theorem ok66_3 (g105 : G105) (F : Nat) (hK : KOK Try.prog (ct66 g105 )) : LSOK Try.prog ⟨28, false, undef⟩ (ls66_3 g105 F) (loopOf Try.f66 3) kr66 :=
  loop_ok (st66_3 g105 F) mixed tt_ok hK (by kernel_rfl) (LTOK_by (l := []) (by kernel_rfl) trivial) (ev66_3 g105 F)
theorem ev66 (g105 : G105) (F : Nat) (x : Args [.v (.pair i64 (.pair i64 (.pair (.slice 67 mat) .unit)))]) : fnK TT (ct66 g105 ) kp66 [(.slice 2 i64)] [(3, ls66_3 g105 F)] (bodyOf Try.f66) [.tmp 2] [.v (.pair i64 (.pair i64 (.pair (.slice 67 mat) .unit)))] true false x = fn66 g105 F x := by
  obtain ⟨x0, _⟩ := x
  kernel_rfl
theorem ok66 (g105 : G105) (hK : KOK Try.prog (ct66 g105 )) (cf : G66) (h : ∀ x y, cf x = some y → ∃ F, fn66 g105 F x = some y) : KOne Try.prog 66 ⟨[.v (.pair i64 (.pair i64 (.pair (.slice 67 mat) .unit)))], [(.slice 2 i64)], true, false, 0, cf⟩ :=
  fn_one rfl (c := bodyOf Try.f66) mixed tt_ok hK Try.func66 (by kernel_rfl) (by kernel_rfl) (Nat.le_of_ble_eq_true (by kernel_rfl)) (by decide) fun x y hxy => by
    obtain ⟨F, hF⟩ := h x y hxy
    exact ⟨[(3, ls66_3 g105 F)], LTOK_by (l := [loopOf Try.f66 3]) (by kernel_rfl) ⟨ls_at (by kernel_rfl) (ok66_3 g105 F hK), trivial⟩, (ev66 g105 F x).trans hF⟩
theorem iter_all_go {S α : Type} {step : S → (S → Option α) → Option α} {r0 r1 : Option α} {f : Nat → Bool} {N : Nat} {st : Nat → S} (hs : ∀ i, i < N → ∀ k, step (st i) k = bif f i then k (st (i + 1)) else r0) (he : ∀ k, step (st N) k = r1) :
    ∀ (m i F : Nat), i + m = N → m < F → iter step F (st i) = bif (List.range' i m).all f then r1 else r0
  | 0, i, F, hi, hF => by
    obtain ⟨F, rfl⟩ : ∃ n, F = n + 1 := ⟨F - 1, by omega⟩
    have : i = N := by omega
    subst this
    simp only [iter, he, List.range'_zero, List.all_nil, cond_true]
  | m + 1, i, F, hi, hF => by
    obtain ⟨F, rfl⟩ : ∃ n, F = n + 1 := ⟨F - 1, by omega⟩
    simp only [iter]
    rw [hs i (by omega), iter_all_go hs he m (i + 1) F (by omega) (by omega), List.range'_succ, List.all_cons]
    cases f i <;> simp
theorem iter_all {S α : Type} {step : S → (S → Option α) → Option α} {r0 r1 : Option α} {f : Nat → Bool} {N : Nat} {st : Nat → S} (hs : ∀ i, i < N → ∀ k, step (st i) k = bif f i then k (st (i + 1)) else r0) (he : ∀ k, step (st N) k = r1) (F : Nat) (hF : N < F) :
    iter step F (st 0) = bif (List.range N).all f then r1 else r0 := by
  rw [iter_all_go hs he N 0 F (by omega) hF, List.range_eq_range']
theorem all_range {α : Type} {f : α → Bool} {d : α} : ∀ (l : List α), (List.range l.length).all (fun i => f (l.getD i d)) = l.all f := fun l => by
  rw [Bool.eq_iff_iff, List.all_eq_true, List.all_eq_true]
  constructor
  · intro h x hx
    obtain ⟨i, hi, rfl⟩ := List.mem_iff_getElem.1 hx
    have := h i (List.mem_range.2 hi)
    rwa [List.getD_eq_getElem?_getD, List.getElem?_eq_getElem hi, Option.getD_some] at this
  · intro h i hi
    have hi := List.mem_range.1 hi
    rw [List.getD_eq_getElem?_getD, List.getElem?_eq_getElem hi, Option.getD_some]
    exact h _ (List.getElem_mem hi)
theorem all_and {α : Type} {f g : α → Bool} : ∀ (l : List α), l.all (fun i => f i && g i) = (l.all f && l.all g)
  | [] => rfl
  | x :: r => by simp only [List.all_cons, all_and r]; cases f x <;> cases g x <;> simp
abbrev DM : Mat := Ty.dflt mat
def row3 (a b c : Int) : ex.den := (a, b, c, ())
def mat3 (a b c : ex.den) : Mat := (a, b, c, ())
def uniM (n : Int) : Mat := if n = 1 then mat3 (row3 1 0 0) (row3 0 0 0) (row3 0 0 0) else if n = 2 then mat3 (row3 1 0 0) (row3 0 1 0) (row3 0 0 0) else mat3 (row3 1 0 0) (row3 0 1 0) (row3 0 0 1)
def cf141 : G75 := fn75 5
theorem k141 : KOne Try.prog 75 ⟨[.v i64], [mat], false, false, 0, cf141⟩ := ok75 .nil cf141 fun x y h => ⟨5, h⟩
theorem g141_ok {n : Int} (hn : n = 1 ∨ n = 2 ∨ n = 3) : cf141 (n, ()) = some (uniM n, ()) := by rcases hn with rfl | rfl | rfl <;> kernel_rfl
def cf165 : G104 := fn104 5
theorem k165 : KOne Try.prog 104 ⟨[.v i64], [mat], false, false, 0, cf165⟩ := ok104 .nil cf165 fun x y h => ⟨5, h⟩
theorem g165_ok {n : Int} (hn : n = 1 ∨ n = 2 ∨ n = 3) : cf165 (n, ()) = some (uniM n, ()) := by rcases hn with rfl | rfl | rfl <;> kernel_rfl
def nzN (p : Int) : Nat → Option (Mat × Unit) → Option (Mat × Unit)
  | 0, x => x
  | k + 1, x => bif !decide (p = 0) then nzN p k x else none
theorem nzN_ok {p : Int} (h : p ≠ 0) : ∀ {k : Nat} {x : Option (Mat × Unit)}, nzN p k x = x
  | 0, _ => rfl
  | k + 1, x => by simp only [nzN, deq_f h, Bool.not_false, cond_true]; exact nzN_ok h
def adW (t a b : Int) : Int := w6 (t + w6 (w6 a * w6 b))
def s1W (g h : Mat) (i j : Nat) : Int := adW 0 (me g i 0) (me h 0 j)
def s2W (g h : Mat) (i j : Nat) : Int := adW (s1W g h i j) (me g i 1) (me h 1 j)
def s3W (g h : Mat) (i j : Nat) : Int := adW (s2W g h i j) (me g i 2) (me h 2 j)
def mdW (p x : Int) : Int := w8 (Int.tmod x p)
def tim1 (p : Int) (g h : Mat) : Mat := mat3 (row3 (mdW p (s1W g h 0 0)) 0 0) (row3 0 0 0) (row3 0 0 0)
def tim2 (p : Int) (g h : Mat) : Mat := mat3 (row3 (mdW p (s2W g h 0 0)) (mdW p (s2W g h 0 1)) 0) (row3 (mdW p (s2W g h 1 0)) (mdW p (s2W g h 1 1)) 0) (row3 0 0 0)
def tim3 (p : Int) (g h : Mat) : Mat := mat3 (row3 (mdW p (s3W g h 0 0)) (mdW p (s3W g h 0 1)) (mdW p (s3W g h 0 2))) (row3 (mdW p (s3W g h 1 0)) (mdW p (s3W g h 1 1)) (mdW p (s3W g h 1 2))) (row3 (mdW p (s3W g h 2 0)) (mdW p (s3W g h 2 1)) (mdW p (s3W g h 2 2)))
def timW (p n : Int) (g h : Mat) : Mat := if n = 1 then tim1 p g h else if n = 2 then tim2 p g h else tim3 p g h
theorem e140_1 (p : Int) (g h : Mat) : fn74 5 (p, (1 : Int), g, h, ()) = nzN p 1 (some (tim1 p g h, ())) := by kernel_rfl
theorem e140_2 (p : Int) (g h : Mat) : fn74 5 (p, (2 : Int), g, h, ()) = nzN p 4 (some (tim2 p g h, ())) := by kernel_rfl
theorem e140_3 (p : Int) (g h : Mat) : fn74 5 (p, (3 : Int), g, h, ()) = nzN p 9 (some (tim3 p g h, ())) := by kernel_rfl
theorem e164_1 (p : Int) (g h : Mat) : fn103 5 (p, (1 : Int), g, h, ()) = nzN p 1 (some (tim1 p g h, ())) := by kernel_rfl
theorem e164_2 (p : Int) (g h : Mat) : fn103 5 (p, (2 : Int), g, h, ()) = nzN p 4 (some (tim2 p g h, ())) := by kernel_rfl
theorem e164_3 (p : Int) (g h : Mat) : fn103 5 (p, (3 : Int), g, h, ()) = nzN p 9 (some (tim3 p g h, ())) := by kernel_rfl
def cf140 : G74 := fn74 5
theorem k140 : KOne Try.prog 74 ⟨[.v i64, .v i64, .v mat, .v mat], [mat], false, false, 0, cf140⟩ := ok74 .nil cf140 fun x y h => ⟨5, h⟩
def cf164 : G103 := fn103 5
theorem k164 : KOne Try.prog 103 ⟨[.v i64, .v i64, .v mat, .v mat], [mat], false, false, 0, cf164⟩ := ok103 .nil cf164 fun x y h => ⟨5, h⟩
theorem g140_ok {p n : Int} {g h : Mat} (hp : p ≠ 0) (hn : n = 1 ∨ n = 2 ∨ n = 3) : cf140 (p, n, g, h, ()) = some (timW p n g h, ()) := by
  rcases hn with rfl | rfl | rfl
  · exact (e140_1 p g h).trans (nzN_ok hp)
  · exact (e140_2 p g h).trans (nzN_ok hp)
  · exact (e140_3 p g h).trans (nzN_ok hp)
theorem g164_ok {p n : Int} {g h : Mat} (hp : p ≠ 0) (hn : n = 1 ∨ n = 2 ∨ n = 3) : cf164 (p, n, g, h, ()) = some (timW p n g h, ()) := by
  rcases hn with rfl | rfl | rfl
  · exact (e164_1 p g h).trans (nzN_ok hp)
  · exact (e164_2 p g h).trans (nzN_ok hp)
  · exact (e164_3 p g h).trans (nzN_ok hp)
def bfB (x y : Int) (r : Option (Bool × Unit)) : Option (Bool × Unit) := bif !decide (x = y) then some (decide (x < y), ()) else r
theorem e138 (a b : Mat) : fn72 5 (a, b, ()) = bfB (me a 0 0) (me b 0 0) (bfB (me a 0 1) (me b 0 1) (bfB (me a 0 2) (me b 0 2) (bfB (me a 1 0) (me b 1 0) (bfB (me a 1 1) (me b 1 1) (bfB (me a 1 2) (me b 1 2) (bfB (me a 2 0) (me b 2 0) (bfB (me a 2 1) (me b 2 1) (bfB (me a 2 2) (me b 2 2) (some (false, ())))))))))) := by kernel_rfl
theorem bfB3 {x0 x1 x2 y0 y1 y2 : Int} {r : Option (Bool × Unit)} (a0 : 0 ≤ x0 ∧ x0 ≤ 255) (a1 : 0 ≤ x1 ∧ x1 ≤ 255) (a2 : 0 ≤ x2 ∧ x2 ≤ 255) (b0 : 0 ≤ y0 ∧ y0 ≤ 255) (b1 : 0 ≤ y1 ∧ y1 ≤ 255) (b2 : 0 ≤ y2 ∧ y2 ≤ 255) :
    bfB x0 y0 (bfB x1 y1 (bfB x2 y2 r)) = bfB (65536 * x0 + 256 * x1 + x2) (65536 * y0 + 256 * y1 + y2) r := by
  unfold bfB
  by_cases h0 : x0 = y0
  · by_cases h1 : x1 = y1
    · by_cases h2 : x2 = y2
      · rw [deq_t h0, deq_t h1, deq_t h2, deq_t (by omega)]; rfl
      · rw [deq_t h0, deq_t h1, deq_f h2, deq_f (by omega)]
        simp only [Bool.not_true, Bool.not_false, cond_false, cond_true]
        congr 2; rw [decide_eq_decide]; omega
    · rw [deq_t h0, deq_f h1, deq_f (show 65536 * x0 + 256 * x1 + x2 ≠ 65536 * y0 + 256 * y1 + y2 by omega)]
      simp only [Bool.not_true, Bool.not_false, cond_false, cond_true]
      congr 2; rw [decide_eq_decide]; omega
  · rw [deq_f h0, deq_f (show 65536 * x0 + 256 * x1 + x2 ≠ 65536 * y0 + 256 * y1 + y2 by omega)]
    simp only [Bool.not_true, Bool.not_false, cond_false, cond_true]
    congr 2; rw [decide_eq_decide]; omega
theorem okMc_of {g : Mat} (h : okM g = true) : okMc g := fun i j => me_rng h i j
def cf138 : G72 := fn72 5
theorem k138 : KOne Try.prog 72 ⟨[.v mat, .v mat], [.bool], false, false, 0, cf138⟩ := ok72 .nil cf138 fun x y h => ⟨5, h⟩
theorem g138_ok {a b : Mat} (ha : okM a = true) (hb : okM b = true) : cf138 (a, b, ()) = some (decide (keyM a < keyM b), ()) := by
  have r := me_rng ha
  have s := me_rng hb
  rw [show cf138 (a, b, ()) = fn72 5 (a, b, ()) from rfl, e138, bfB3 (r 2 0) (r 2 1) (r 2 2) (s 2 0) (s 2 1) (s 2 2), bfB3 (r 1 0) (r 1 1) (r 1 2) (s 1 0) (s 1 1) (s 1 2), bfB3 (r 0 0) (r 0 1) (r 0 2) (s 0 0) (s 0 1) (s 0 2)]
  change bfB (rkM a 0) (rkM b 0) (bfB (rkM a 1) (rkM b 1) (bfB (rkM a 2) (rkM b 2) _)) = _
  have r0 := rkM_rng (okMc_of ha) 0; have r1 := rkM_rng (okMc_of ha) 1; have r2 := rkM_rng (okMc_of ha) 2
  have t0 := rkM_rng (okMc_of hb) 0; have t1 := rkM_rng (okMc_of hb) 1; have t2 := rkM_rng (okMc_of hb) 2
  unfold bfB keyM
  by_cases h0 : rkM a 0 = rkM b 0
  · by_cases h1 : rkM a 1 = rkM b 1
    · by_cases h2 : rkM a 2 = rkM b 2
      · rw [deq_t h0, deq_t h1, deq_t h2]
        simp only [Bool.not_true, cond_false]
        congr 2; rw [eq_comm, decide_eq_false_iff_not]; omega
      · rw [deq_t h0, deq_t h1, deq_f h2]
        simp only [Bool.not_true, Bool.not_false, cond_false, cond_true]
        congr 2; rw [decide_eq_decide]; omega
    · rw [deq_t h0, deq_f h1]
      simp only [Bool.not_true, Bool.not_false, cond_false, cond_true]
      congr 2; rw [decide_eq_decide]; omega
  · rw [deq_f h0]
    simp only [Bool.not_true, Bool.not_false, cond_false, cond_true]
    congr 2; rw [decide_eq_decide]; omega
def fndI (m : Mat) (L : List Mat) : Int := if m ∈ L then (fstM m L : Int) else -1
theorem run139 {m : Mat} {F0 N : Nat} : ∀ (r pre : List Mat) (F : Nat), r.length < F → (pre ++ r).length = N → N ≤ 2000000 →
    iter (fun s k => st73_2 F0 s k (fun s' => match s' with | ((t0, _), (t3, _), (t5, _), _) => (some ((-(1 : Int)), ())))) F ((pre ++ r, ()), ((m, ()), (((pre.length : Int), ()), ()))) = some (if m ∈ r then ((pre.length + fstM m r : Nat) : Int) else -1, ())
  | [], pre, F, hF, hl, hN => by
    obtain ⟨F, rfl⟩ : ∃ f, F = f + 1 := ⟨F - 1, by simp at hF; omega⟩
    rw [List.append_nil] at hl ⊢
    simp only [iter, st73_2]
    simp (disch := omega) only [dln_t, cond_true, ofn, dlt_f, cond_false]
    simp
  | x :: r, pre, F, hF, hl, hN => by
    obtain ⟨F, rfl⟩ : ∃ f, F = f + 1 := ⟨F - 1, by simp at hF; omega⟩
    have l1 : pre.length < (pre ++ x :: r).length := by simp
    have g1 : ∀ dd, (pre ++ x :: r).getD pre.length dd = x := fun dd => getD_pre
    have ih := run139 (m := m) (F0 := F0) r (pre ++ [x]) F (by simp at hF; omega) (by simpa using hl) hN
    simp only [List.append_assoc, List.singleton_append, List.length_append, List.length_singleton] at ih
    simp only [iter, st73_2]
    simp (disch := omega) only [dln_t, cond_true, ofn, dlt_t, ib_t, tn_cast, w6_id, g1]
    by_cases q : x = m
    · subst q
      rw [show Ty.eqd (.arr 3 (.arr 3 (.int .u8))) x x = true from eqdM.2 rfl, cond_true]
      simp [fstM]
    · rw [show Ty.eqd (.arr 3 (.arr 3 (.int .u8))) x m = false from Bool.eq_false_iff.2 fun h => q (eqdM.1 h), cond_false]
      refine ih.trans ?_
      have : m ∈ x :: r ↔ m ∈ r := by simp [Ne.symm q]
      simp only [this, fstM, if_neg (Ne.symm q)]
      split
      · congr 2; omega
      · rfl
def cf139 : G73 := fun x => if (show List Mat from x.1).length ≤ 2000000 then some (fndI x.2.1 x.1, ()) else none
theorem k139 : KOne Try.prog 73 ⟨[.v (.slice 67 mat), .v mat], [i64], false, false, 0, cf139⟩ := ok73 .nil cf139 fun x y h => by
  obtain ⟨L, m, _⟩ := x
  change List Mat at L
  simp only [cf139] at h
  split at h
  · rename_i hc
    injection h with h; subst h
    refine ⟨L.length + 1, ?_⟩
    have := run139 (m := m) (F0 := L.length + 1) (N := L.length) L [] (L.length + 1) (by omega) (by simp) hc
    simp only [List.nil_append, List.length_nil, Nat.zero_add] at this
    exact this
  · cases h
theorem g139_ok {m : Mat} {L : List Mat} (h : L.length ≤ 2000000) : cf139 (L, m, ()) = some (fndI m L, ()) := if_pos h
theorem fndI_neg {m : Mat} {L : List Mat} : decide (fndI m L < 0) = !decide (m ∈ L) := by
  unfold fndI
  by_cases h : m ∈ L
  · rw [if_pos h, decide_eq_true h, dlt_f (by omega)]; rfl
  · rw [if_neg h, decide_eq_false h]; rfl
theorem fndI_nn {m : Mat} {L : List Mat} : decide (0 ≤ fndI m L) = decide (m ∈ L) := by
  unfold fndI
  by_cases h : m ∈ L
  · rw [if_pos h, decide_eq_true h, dle_t (by omega)]
  · rw [if_neg h, decide_eq_false h]; rfl
def cf163 : G102 := fun x => if (els x.1).length ≤ 2000000 then some (decide ((show Mat from x.2.1) ∈ els x.1), ()) else none
theorem k163 : KOne Try.prog 102 ⟨[.v (.pair i64 (.pair i64 (.pair (.slice 67 mat) .unit))), .v mat], [.bool], false, false, 0, cf163⟩ := ok102 _ (.cons k180 .nil) cf163 fun x y h => by
  obtain ⟨⟨p, n, L, _⟩, m, _⟩ := x
  change List Mat at L
  simp only [cf163] at h
  split at h
  · rename_i hc
    injection h with h; subst h
    have g : cf180 (L, m, ()) = some (decide ((show Mat from m) ∈ L), ()) := if_pos hc
    exact ⟨0, by simp only [fn102, g]; rfl⟩
  · cases h
theorem g163_ok {p n : Int} {L : List Mat} {m : Mat} (h : L.length ≤ 2000000) : cf163 ((p, n, L, ()), m, ()) = some (decide (m ∈ L), ()) := if_pos h
def atM (L : List Mat) (i : Nat) : Mat := L.getD i DM
def srtB' (L : List Mat) (i : Nat) : Bool := decide (i = 0) || decide (keyM (atM L (i - 1)) < keyM (atM L i))
def cloB (p n : Int) (L : List Mat) (i j : Nat) : Bool := decide (timW p n (atM L i) (atM L j) ∈ L)
def grB (g : Gr) : Bool :=
  (isP g.1 && inR g.2.1) && (decide ((1 : Int) ≤ (els g).length) && decide (((els g).length : Int) ≤ 48)) && ((List.range (els g).length).all fun i => matB g.1 g.2.1 (atM (els g) i)) && ((List.range (els g).length).all fun i => srtB' (els g) i) &&
    ((List.range (els g).length).all fun i => (List.range (els g).length).all fun j => cloB g.1 g.2.1 (els g) i j) && decide (uniM g.2.1 ∈ els g)
theorem okM_at {L : List Mat} (h : L.all okM = true) {i : Nat} (hi : i < L.length) : okM (atM L i) = true := by
  unfold atM
  rw [List.getD_eq_getElem?_getD, List.getElem?_eq_getElem hi, Option.getD_some]
  exact List.all_eq_true.1 h _ (List.getElem_mem hi)
theorem g82_ok (p : Int) : cf82 (p, ()) = some (isP p, ()) := rfl
theorem g73_ok (x lo hi : Int) : cf73 (x, lo, hi, ()) = some (decide (lo ≤ x) && decide (x ≤ hi), ()) := rfl
theorem a1_72 {p n : Int} {L : List Mat} (ho : L.all okM = true) (hl : L.length ≤ 48) {F0 : Nat} {kx : ShVal sh38_4 → Option R38} (F : Nat) (hF : L.length < F) :
    iter (fun s k => st38_4 cf82 cf73 cf140 cf139 cf141 cf138 cf58 F0 s k kx) F ((p, n, L, ()), (((0 : Int), ()), ())) = bif (List.range L.length).all (fun i => matB p n (atM L i) && srtB' L i) then kx ((p, n, L, ()), (((L.length : Int), ()), ())) else some (false, ()) :=
  iter_all (st := fun i => ((p, n, L, ()), (((i : Int), ()), ()))) (fun i hi k => by
    have g1 : cf58 (p, n, L.getD i (Ty.dflt mat), ()) = some (matB p n (atM L i), ()) := g58_ok (okM_at ho hi)
    simp only [st38_4]
    simp (disch := omega) only [dln_t, cond_true, ofn, dlt_t, ib_t, tn_cast, w6_id]
    rw [g1]
    simp only
    cases matB p n (atM L i) with
    | false => rfl
    | true =>
      simp only [Bool.not_true, cond_false, Bool.true_and]
      by_cases h0 : i = 0
      · subst h0
        rw [dlt_f (by omega)]; rfl
      · rw [dlt_t (by omega), cond_true]
        simp (disch := omega) only [ib_t, cond_true]
        have e : tn ((i : Int) - 1) = i - 1 := by show ((i : Int) - 1).toNat = _; omega
        rw [e]
        have g2 : cf138 (L.getD (i - 1) (Ty.dflt mat), L.getD i (Ty.dflt mat), ()) = some (decide (keyM (atM L (i - 1)) < keyM (atM L i)), ()) := g138_ok (okM_at ho (by omega)) (okM_at ho hi)
        rw [g2]
        simp only [srtB', decide_eq_false h0, Bool.false_or]
        cases decide (keyM (atM L (i - 1)) < keyM (atM L i)) <;> rfl) (fun k => by
    simp only [st38_4]
    simp (disch := omega) only [dln_t, cond_true, ofn, dlt_f, cond_false]) F hF
theorem a2_72 {p n : Int} {L : List Mat} (hp : p ≠ 0) (hn : n = 1 ∨ n = 2 ∨ n = 3) (hl : L.length ≤ 48) {i : Nat} (hi : i < L.length) {F0 : Nat} {kx : ShVal sh38_12 → Option R38} (F : Nat) (hF : L.length < F) :
    iter (fun s k => st38_12 cf82 cf73 cf140 cf139 cf141 cf138 cf58 F0 s k kx) F ((p, n, L, ()), ((((i : Nat) : Int), ()), (((0 : Int), ()), ()))) = bif (List.range L.length).all (fun j => cloB p n L i j) then kx ((p, n, L, ()), (((i : Int), ()), (((L.length : Int), ()), ()))) else some (false, ()) :=
  iter_all (st := fun j => ((p, n, L, ()), (((i : Int), ()), (((j : Int), ()), ())))) (fun j hj k => by
    simp only [st38_12]
    simp (disch := omega) only [dln_t, cond_true, ofn, dlt_t, ib_t, tn_cast, w6_id]
    have g1 : cf140 (p, n, L.getD i (Ty.dflt mat), L.getD j (Ty.dflt mat), ()) = some (timW p n (atM L i) (atM L j), ()) := g140_ok hp hn
    rw [g1]
    simp only
    rw [g139_ok (by omega)]
    simp only
    rw [fndI_neg]
    change (bif !cloB p n L i j then _ else _) = _
    cases cloB p n L i j <;> rfl) (fun k => by
    simp only [st38_12]
    simp (disch := omega) only [dln_t, cond_true, ofn, dlt_f, cond_false]) F hF
theorem a3_72 {p n : Int} {L : List Mat} (hp : p ≠ 0) (hn : n = 1 ∨ n = 2 ∨ n = 3) (hl : L.length ≤ 48) {F0 : Nat} (hF0 : L.length < F0) {kx : ShVal sh38_9 → Option R38} (F : Nat) (hF : L.length < F) :
    iter (fun s k => st38_9 cf82 cf73 cf140 cf139 cf141 cf138 cf58 F0 s k kx) F ((p, n, L, ()), (((0 : Int), ()), ())) = bif (List.range L.length).all (fun i => (List.range L.length).all fun j => cloB p n L i j) then kx ((p, n, L, ()), (((L.length : Int), ()), ())) else some (false, ()) :=
  iter_all (st := fun i => ((p, n, L, ()), (((i : Int), ()), ()))) (fun i hi k => by
    simp only [st38_9, ru38_12]
    simp (disch := omega) only [dln_t, cond_true, ofn, dlt_t]
    rw [a2_72 hp hn hl hi F0 hF0]
    simp (disch := omega) only [w6_id]
    rfl) (fun k => by
    simp only [st38_9]
    simp (disch := omega) only [dln_t, cond_true, ofn, dlt_f, cond_false]) F hF
theorem isP_ne {p : Int} (h : isP p = true) : p ≠ 0 := by have := isP_pos h; omega
noncomputable def cf72 : G38 := fun x => if (els x.1).all okM = true ∧ (els x.1).length ≤ 2000000 then some (grB x.1, ()) else none
theorem k72 : KOne Try.prog 38 ⟨[.v (.pair i64 (.pair i64 (.pair (.slice 67 mat) .unit)))], [.bool], false, false, 0, cf72⟩ := ok38 _ _ _ _ _ _ _ (.cons k82 (.cons k73 (.cons k140 (.cons k139 (.cons k141 (.cons k138 (.cons k58 .nil))))))) cf72 fun x y h => by
  obtain ⟨⟨p, n, L, _⟩, _⟩ := x
  change List Mat at L
  change Int at p
  change Int at n
  simp only [cf72] at h
  split at h
  · rename_i hc
    injection h with h; subst h
    have ho : L.all okM = true := hc.1
    have hl : L.length ≤ 2000000 := hc.2
    refine ⟨L.length + 1, ?_⟩
    simp only [fn38]
    simp (disch := omega) only [dln_t, cond_true, ofn]
    rw [g82_ok p, g73_ok n 1 3]
    simp only
    change _ = some ((isP p && inR n) && (decide ((1 : Int) ≤ (L.length : Int)) && decide ((L.length : Int) ≤ 48)) && ((List.range L.length).all fun i => matB p n (atM L i)) && ((List.range L.length).all fun i => srtB' L i) && ((List.range L.length).all fun i => (List.range L.length).all fun j => cloB p n L i j) && decide (uniM n ∈ L), ())
    cases hP : isP p with
    | false => rfl
    | true =>
      simp only [Bool.not_true, cond_false, Bool.true_and]
      change (bif !(inR n) then _ else _) = _
      cases hR : inR n with
      | false => rfl
      | true =>
        simp only [Bool.not_true, cond_false, Bool.true_and]
        by_cases h1 : (L.length : Int) < 1
        · rw [dlt_t h1, dle_f (show (L.length : Int) < 1 from h1)]; rfl
        · rw [dlt_f (show (1 : Int) ≤ L.length by omega), dle_t (show (1 : Int) ≤ L.length by omega)]
          simp only [cond_false, Bool.true_and]
          by_cases h2 : (48 : Int) < L.length
          · rw [dlt_t h2, dle_f h2]; rfl
          · rw [dlt_f (show (L.length : Int) ≤ 48 by omega), dle_t (show (L.length : Int) ≤ 48 by omega)]
            simp only [cond_false, Bool.true_and]
            simp only [ru38_4, ru38_9]
            rw [a1_72 ho (by omega) _ (by omega), all_and]
            cases ((List.range L.length).all fun i => matB p n (atM L i)) with
            | false => rfl
            | true =>
              cases ((List.range L.length).all fun i => srtB' L i) with
              | false => rfl
              | true =>
                simp only [Bool.and_self, cond_true, Bool.true_and]
                rw [a3_72 (isP_ne hP) (inR_cases hR) (by omega) (by omega) _ (by omega)]
                cases ((List.range L.length).all fun i => (List.range L.length).all fun j => cloB p n L i j) with
                | false => rfl
                | true =>
                  simp only [cond_true, Bool.true_and]
                  rw [g141_ok (inR_cases hR)]
                  simp only
                  rw [g139_ok (by omega)]
                  simp only
                  rw [fndI_nn]
  · cases h
theorem g72_ok {g : Gr} (h1 : (els g).all okM = true) (h2 : (els g).length ≤ 2000000) : cf72 (g, ()) = some (grB g, ()) := if_pos ⟨h1, h2⟩
theorem cmp_nn {A B : Mat} : decide ((0 : Int) ≤ cmpM A B) = !decide (keyM A < keyM B) := by
  unfold cmpM sgn
  split
  · rename_i h; rw [decide_eq_true h]; rfl
  · rename_i h; rw [decide_eq_false h]; split <;> rfl
theorem g162_ok {A B : Mat} (ha : okM A = true) (hb : okM B = true) : cf162 (A, B, ()) = some (cmpM A B, ()) := if_pos ⟨okMc_of ha, okMc_of hb⟩
theorem a2_127 {p n : Int} {L : List Mat} {g61 : G100} {g165 : G104} {g162 : G101} (hp : p ≠ 0) (hn : n = 1 ∨ n = 2 ∨ n = 3) (hl : L.length ≤ 48) {i : Nat} {F0 : Nat} {kx : ShVal sh65_9 → Option R65} (F : Nat) (hF : L.length < F) :
    iter (fun s k => st65_9 g61 g165 cf164 cf163 g162 F0 s k kx) F ((p, n, L, ()), ((atM L i, ()), ((L, ()), (((L.length : Int), ()), (((i : Int), ()), ((L, ()), (((L.length : Int), ()), (((0 : Int), ()), ())))))))) =
      bif (List.range L.length).all (fun j => cloB p n L i j) then kx ((p, n, L, ()), ((atM L i, ()), ((L, ()), (((L.length : Int), ()), (((i : Int), ()), ((L, ()), (((L.length : Int), ()), (((L.length : Int), ()), ())))))))) else some (false, ()) :=
  iter_all (st := fun j => ((p, n, L, ()), ((atM L i, ()), ((L, ()), (((L.length : Int), ()), (((i : Int), ()), ((L, ()), (((L.length : Int), ()), (((j : Int), ()), ()))))))))) (fun j hj k => by
    simp only [st65_9]
    simp (disch := omega) only [cond_true, ofn, dlt_t, ib_t, tn_cast, w6_id]
    have g1 : cf164 (p, n, atM L i, L.getD j (Ty.dflt mat), ()) = some (timW p n (atM L i) (atM L j), ()) := g164_ok hp hn
    rw [g1]
    simp only
    rw [g163_ok (by omega)]
    simp only
    change (bif !cloB p n L i j then _ else _) = _
    cases cloB p n L i j <;> rfl) (fun k => by
    simp only [st65_9]
    simp (disch := omega) only [ofn, dlt_f, cond_false]) F hF
theorem a1_127 {p n : Int} {L : List Mat} {g61 : G100} {g165 : G104} (hp : p ≠ 0) (hn : n = 1 ∨ n = 2 ∨ n = 3) (ho : L.all okM = true) (hl : L.length ≤ 48) {F0 : Nat} (hF0 : L.length < F0) {kx : ShVal sh65_4 → Option R65} (F : Nat) (hF : L.length < F) :
    iter (fun s k => st65_4 g61 g165 cf164 cf163 cf162 F0 s k kx) F ((p, n, L, ()), ((L, ()), (((L.length : Int), ()), (((0 : Int), ()), ())))) =
      bif (List.range L.length).all (fun i => srtB' L i && (List.range L.length).all fun j => cloB p n L i j) then kx ((p, n, L, ()), ((L, ()), (((L.length : Int), ()), (((L.length : Int), ()), ())))) else some (false, ()) :=
  iter_all (st := fun i => ((p, n, L, ()), ((L, ()), (((L.length : Int), ()), (((i : Int), ()), ()))))) (fun i hi k => by
    simp only [st65_4, ru65_9]
    simp (disch := omega) only [dln_t, cond_true, ofn, dlt_t, ib_t, tn_cast, w6_id]
    have in2 := a2_127 (g61 := g61) (g165 := g165) (g162 := cf162) (i := i) hp hn hl (F0 := F0) (kx := fun s' => match s' with | ((t1_0, t1_1, t1_2, _), (t4, _), (t28, _), (t29, _), (t30, _), (t49, _), (t50, _), (t51, _), _) => k ((t1_0, (t1_1, (t1_2, ()))), ((t28, ()), ((t29, ()), (((w6 (t30 + (1 : Int))), ()), ()))))) F0 hF0
    by_cases h0 : i = 0
    · subst h0
      rw [dlt_f (by omega), cond_false]
      refine in2.trans ?_
      simp (disch := omega) only [w6_id]
      rfl
    · rw [dlt_t (by omega), cond_true]
      simp (disch := omega) only [ib_t, cond_true]
      have e : tn ((i : Int) - 1) = i - 1 := by show ((i : Int) - 1).toNat = _; omega
      rw [e]
      have g2 : cf162 (L.getD (i - 1) (Ty.dflt mat), L.getD i (Ty.dflt mat), ()) = some (cmpM (atM L (i - 1)) (atM L i), ()) := g162_ok (okM_at ho (by omega)) (okM_at ho hi)
      rw [g2]
      simp only
      rw [cmp_nn]
      simp only [srtB', decide_eq_false h0, Bool.false_or]
      cases decide (keyM (atM L (i - 1)) < keyM (atM L i)) with
      | false => rfl
      | true =>
        simp only [Bool.not_true, cond_false, Bool.true_and]
        refine in2.trans ?_
        simp (disch := omega) only [w6_id]
        rfl) (fun k => by
    simp only [st65_4]
    simp (disch := omega) only [ofn, dlt_f, cond_false]) F hF
noncomputable def cf127 : G65 := fun x => if (els x.1).all okM = true ∧ (els x.1).length ≤ 2000000 then some (grB x.1, ()) else none
theorem k127 : KOne Try.prog 65 ⟨[.v (.pair i64 (.pair i64 (.pair (.slice 67 mat) .unit)))], [.bool], false, false, 0, cf127⟩ := ok65 _ _ _ _ _ (.cons k61 (.cons k165 (.cons k164 (.cons k163 (.cons k162 .nil))))) cf127 fun x y h => by
  obtain ⟨⟨p, n, L, _⟩, _⟩ := x
  change List Mat at L
  change Int at p
  change Int at n
  simp only [cf127] at h
  split at h
  · rename_i hc
    injection h with h; subst h
    have ho : L.all okM = true := hc.1
    have hl : L.length ≤ 2000000 := hc.2
    refine ⟨L.length + 1, ?_⟩
    simp only [fn65]
    simp (disch := omega) only [dln_t, cond_true, ofn]
    change _ = some ((isP p && inR n) && (decide ((1 : Int) ≤ (L.length : Int)) && decide ((L.length : Int) ≤ 48)) && ((List.range L.length).all fun i => matB p n (atM L i)) && ((List.range L.length).all fun i => srtB' L i) && ((List.range L.length).all fun i => (List.range L.length).all fun j => cloB p n L i j) && decide (uniM n ∈ L), ())
    have ea : ((List.range L.length).all fun i => matB p n (atM L i)) = L.all (matB p n) := all_range (d := DM) L
    rw [ea]
    skip
    by_cases h1 : (L.length : Int) < 1
    · rw [dlt_t h1, dle_f (show (L.length : Int) < 1 from h1)]
      simp only [cond_true, Bool.false_and, Bool.and_false]
    · rw [dlt_f (show (1 : Int) ≤ L.length by omega), dle_t (show (1 : Int) ≤ L.length by omega)]
      simp only [cond_false, Bool.true_and]
      by_cases h2 : (48 : Int) < L.length
      · rw [dlt_t h2, dle_f h2]
        simp only [cond_true, Bool.false_and, Bool.and_false]
      · rw [dlt_f (show (L.length : Int) ≤ 48 by omega), dle_t (show (L.length : Int) ≤ 48 by omega)]
        simp only [cond_false, Bool.and_true]
        have e61 : cf61 (p, n, L, ()) = some (L.all (matB p n) && (isP p && inR n), ()) := if_pos ⟨by show L.length ≤ 1000000; omega, ho⟩
        rw [e61]
        simp only
        cases hA : L.all (matB p n) with
        | false => cases isP p <;> cases inR n <;> rfl
        | true =>
          cases hP : isP p with
          | false => rfl
          | true =>
            cases hR : inR n with
            | false => rfl
            | true =>
              simp only [Bool.and_self, Bool.not_true, cond_false, Bool.true_and]
              simp only [ru65_4]
              rw [a1_127 (isP_ne hP) (inR_cases hR) ho (by omega) (by omega) _ (by omega), all_and]
              cases ((List.range L.length).all fun i => srtB' L i) with
              | false => rfl
              | true =>
                simp only [Bool.true_and]
                cases ((List.range L.length).all fun i => (List.range L.length).all fun j => cloB p n L i j) with
                | false => rfl
                | true =>
                  simp only [cond_true, Bool.true_and]
                  rw [g165_ok (inR_cases hR)]
                  simp only
                  rw [g163_ok (by omega)]
  · cases h
theorem g127_ok {g : Gr} (h1 : (els g).all okM = true) (h2 : (els g).length ≤ 2000000) : cf127 (g, ()) = some (grB g, ()) := if_pos ⟨h1, h2⟩
structure IsG (g : Gr) : Prop where
  hP : isP g.1 = true
  hR : inR g.2.1 = true
  len : 1 ≤ (els g).length ∧ (els g).length ≤ 48
  mat : ∀ i, i < (els g).length → matB g.1 g.2.1 (atM (els g) i) = true
  srt : ∀ i, i < (els g).length → 0 < i → keyM (atM (els g) (i - 1)) < keyM (atM (els g) i)
  clo : ∀ i j, i < (els g).length → j < (els g).length → timW g.1 g.2.1 (atM (els g) i) (atM (els g) j) ∈ els g
  uni : uniM g.2.1 ∈ els g
theorem grB_is {g : Gr} (h : grB g = true) : IsG g := by
  simp only [grB, Bool.and_eq_true, decide_eq_true_eq, List.all_eq_true, List.mem_range] at h
  obtain ⟨⟨⟨⟨⟨⟨h1, h2⟩, h3, h4⟩, h5⟩, h6⟩, h7⟩, h8⟩ := h
  refine ⟨h1, h2, ⟨by omega, by omega⟩, h5, fun i hi h0 => ?_, fun i j hi hj => ?_, h8⟩
  · have := h6 i hi
    simp only [srtB', Bool.or_eq_true, decide_eq_true_eq] at this
    rcases this with q | q
    · omega
    · exact q
  · have := h7 i hi j hj
    simpa only [cloB, decide_eq_true_eq] using this
theorem IsG.k {g : Gr} (h : IsG g) : ∃ k : Nat, g.2.1 = (k : Int) ∧ 1 ≤ k ∧ k ≤ 3 := by
  rcases inR_cases h.hR with q | q | q
  · exact ⟨1, q, by omega, by omega⟩
  · exact ⟨2, q, by omega, by omega⟩
  · exact ⟨3, q, by omega, by omega⟩
def accF (f : Nat → Bool) (i : Nat) : List Int := ((List.range i).filter f).map fun (i : Nat) => (i : Int)
theorem accF_succ {f : Nat → Bool} {i : Nat} : accF f (i + 1) = if f i = true then accF f i ++ [(i : Int)] else accF f i := by
  unfold accF
  rw [List.range_succ, List.filter_append, List.map_append]
  cases h : f i <;> simp [h]
theorem accF_len {f : Nat → Bool} {i : Nat} : (accF f i).length ≤ i := by
  unfold accF
  rw [List.length_map]
  exact Nat.le_trans (List.length_filter_le _ _) (by simp)
def refB (p : Int) (n : Int) (L : List Mat) (i : Nat) : Bool := decide ((echM p (tn n) (atM L i)).length = 1)
def reflL (p n : Int) (L : List Mat) : List Int := accF (refB p n L) L.length
theorem run126 {p n : Int} {L : List Mat} (hl : L.length ≤ 1000000) {g94 : G99} (hg : ∀ i, i < L.length → g94 (p, n, atM L i, ()) = some (refB p n L i, ())) {F : Nat} (hF : L.length < F) : fn64 g94 F ((p, n, L, ()), ()) = some (reflL p n L, ()) := by
  refine iter_run L.length F (fun i => ((p, n, L, ()), ((accF (refB p n L) i, ()), (((i : Int), ()), ())))) hF (fun i hi k => ?_) (fun k => ?_)
  · have hla : (accF (refB p n L) i).length ≤ i := accF_len
    simp only [st64_3]
    simp (disch := omega) only [dln_t, cond_true, ofn, dlt_t, ib_t, tn_cast, w6_id]
    have g1 : g94 (p, n, L.getD i (Ty.dflt mat), ()) = some (refB p n L i, ()) := hg i hi
    rw [g1]
    simp only
    rw [accF_succ]
    cases refB p n L i with
    | false => rfl
    | true =>
      rw [grow_t (by simp; omega)]; rfl
  · simp only [st64_3]
    simp (disch := omega) only [dln_t, cond_true, ofn, dlt_f, cond_false]
    rfl
noncomputable def cf126 : G64 := fun x => if grB x.1 = true ∧ (els x.1).all okM = true then some (reflL x.1.1 x.1.2.1 (els x.1), ()) else none
theorem k126 : KOne Try.prog 64 ⟨[.v (.pair i64 (.pair i64 (.pair (.slice 67 mat) .unit)))], [.slice 2 i64], true, false, 0, cf126⟩ := ok64 _ (.cons k94 .nil) cf126 fun x y h => by
  obtain ⟨⟨p, n, L, u⟩, _⟩ := x
  change List Mat at L
  change Int at p
  change Int at n
  simp only [cf126] at h
  split at h
  · rename_i hc
    injection h with h; subst h
    have G := grB_is hc.1
    have ho : L.all okM = true := hc.2
    have hl := G.len
    change 1 ≤ L.length ∧ L.length ≤ 48 at hl
    refine ⟨L.length + 1, run126 (by omega) (fun i hi => ?_) (by omega)⟩
    obtain ⟨hP, k, e, k1, k3, hr, _⟩ := matB_is (G.mat i hi)
    change n = (k : Int) at e
    subst e
    exact g94_ok (okM_at ho hi) hP k3 hr
  · cases h
theorem run128 {p n : Int} {L : List Mat} (hl : L.length ≤ 1000000) {g95 : G105} (hg : ∀ i, i < L.length → ∃ r, g95 (p, n, atM L i, ()) = some (r, ()) ∧ (!(r : List Int).isEmpty) = refB p n L i) {F : Nat} (hF : L.length < F) : fn66 g95 F ((p, n, L, ()), ()) = some (reflL p n L, ()) := by
  simp only [fn66, ofn]
  rw [dln_t (show L.length ≤ 9223372036854775807 by omega), cond_true]
  refine iter_run L.length F (fun i => ((p, n, L, ()), ((accF (refB p n L) i, ()), ((L, ()), (((L.length : Int), ()), (((i : Int), ()), ())))))) hF (fun i hi k => ?_) (fun k => ?_)
  · have hla : (accF (refB p n L) i).length ≤ i := accF_len
    simp only [st66_3]
    simp (disch := omega) only [cond_true, ofn, dlt_t, ib_t, tn_cast, w6_id]
    obtain ⟨r, g1, g2⟩ := hg i hi
    have g1 : g95 (p, n, L.getD i (Ty.dflt mat), ()) = some (r, ()) := g1
    rw [g1]
    simp only
    rw [accF_succ, g2]
    cases refB p n L i with
    | false => rfl
    | true =>
      rw [grow_t (by simp; omega)]; rfl
  · simp only [st66_3]
    simp (disch := omega) only [ofn, dlt_f, cond_false]
    rfl
noncomputable def cf128 : G66 := fun x => if grB x.1 = true ∧ (els x.1).all okM = true then some (reflL x.1.1 x.1.2.1 (els x.1), ()) else none
theorem k128 : KOne Try.prog 66 ⟨[.v (.pair i64 (.pair i64 (.pair (.slice 67 mat) .unit)))], [.slice 2 i64], true, false, 0, cf128⟩ := ok66 _ (.cons k95 .nil) cf128 fun x y h => by
  obtain ⟨⟨p, n, L, u⟩, _⟩ := x
  change List Mat at L
  change Int at p
  change Int at n
  simp only [cf128] at h
  split at h
  · rename_i hc
    injection h with h; subst h
    have G := grB_is hc.1
    have ho : L.all okM = true := hc.2
    have hl := G.len
    change 1 ≤ L.length ∧ L.length ≤ 48 at hl
    refine ⟨L.length + 1, run128 (by omega) (fun i hi => ?_) (by omega)⟩
    obtain ⟨hP, k, e, k1, k3, hr, _⟩ := matB_is (G.mat i hi)
    change n = (k : Int) at e
    subst e
    exact ⟨_, g95_ok (okM_at ho hi) hP ⟨k1, k3⟩ hr, root_empty hP (okM_at ho hi) ⟨k1, k3⟩ hr⟩
  · cases h
theorem reflL_len {p n : Int} {L : List Mat} : (reflL p n L).length ≤ L.length := accF_len
theorem okG_of {g : Gr} (h : okV (.pair i64 (.pair i64 (.pair (.slice 66 mat) .unit))) g = true) : (els g).length ≤ 9223372036854775807 ∧ (els g).all okM = true := by
  obtain ⟨p, n, L, u⟩ := g
  simp only [okV, Bool.and_true, Bool.and_eq_true, decide_eq_true_eq] at h
  exact ⟨h.2.2.1, h.2.2.2⟩
abbrev R129 : Type := Ress [.slice 67 mat]
abbrev G129 : Type := Args [.v (.slice 67 mat), .fn 101] → Option R129
theorem cmpM_key {A B : Mat} : cmpM A B < 0 ↔ keyM A < keyM B := by
  have h := cmp_nn (A := A) (B := B)
  by_cases q : keyM A < keyM B
  · rw [decide_eq_true q] at h
    have := of_decide_eq_false h
    omega
  · rw [decide_eq_false q] at h
    have := of_decide_eq_true h
    omega
noncomputable def cf433 : G129 := by
  classical exact fun x => if x.1.length ≤ 1000000 ∧ (∀ r ∈ x.1, okM r = true) ∧ (x.1.map keyM).Nodup then some (sortK keyM x.1, ()) else none
theorem k433 : KOne Try.prog 129 ⟨[.v (.slice 67 mat), .fn 101], [.slice 67 mat], false, false, 1, cf433⟩ := by
  refine ⟨fun q => (by cases q), fun _ => ?_, fun q => (by cases q), Try.f129, Try.func129, by decide, rfl⟩
  have eg : ∀ args w, (callFunc 101 args).run Try.prog w = .ok (.enter 101 args) w := fun args w => by
    have := Try.func101
    simp only [callFunc, Sem.run_bind, run_program, Result.andThen_ok, this]
    rw [if_neg (by decide), if_neg (by decide)]; rfl
  exact sortStr_ok (ρ := Try.l129_ren) (good := fun r : Mat => okM r = true) (cf := fun a b : Mat => cmpM a b) (key := keyM) (u := mat) Try.l129 rfl Try.isAgg67 Try.sizeOf67 (k162.ok rfl) (fun a b ha hb => g162_ok ha hb) (fun a b ha hb => cmpM_key) eg fun x y h => by
    simp only [cf433] at h
    split at h
    · rename_i hc
      injection h with h; subst h
      exact ⟨hc.1, hc.2.1, hc.2.2, rfl⟩
    · cases h
theorem g433_ok {l : List Mat} (h1 : l.length ≤ 1000000) (h2 : ∀ r ∈ l, okM r = true) (h3 : (l.map keyM).Nodup) : cf433 (l, (), ()) = some (sortK keyM l, ()) := if_pos ⟨h1, h2, h3⟩
abbrev R128 : Type := Ress [(.pair i64 (.pair i64 (.pair (.slice 67 mat) .unit)))]
abbrev G128 : Type := Args [.v i64, .v i64, .v (.slice 67 mat)] → Option R128
abbrev kp128 : List (Nat × List Nat) := [(0, [0, 1, 2, 6]), (1, [7, 2, 6]), (2, [8, 7, 2, 6]), (3, [18, 8, 7, 2, 6]), (5, [9, 8, 7, 2, 6]), (6, [38, 9, 8, 7, 2, 6]), (7, [9, 8, 7, 2, 6]), (8, [9, 10, 8, 7, 2, 6]), (9, [8, 7, 2, 6]), (4, [8, 7, 2, 6]), (10, [6])]
abbrev ct128 (g72 : G72) : CTab := [(72, ⟨[.v mat, .v mat], [.bool], false, false, 0, g72⟩)]
abbrev kr128 : Env → Option R128 := endK TT [.cell 6 31] [(.pair i64 (.pair i64 (.pair (.slice 67 mat) .unit)))] true false
abbrev sh128_6 : Shape := [(2, .val false [.fz (.slice 67 mat) 0 true]), (6, .box false [.fz i64 0 false, .fz i64 0 false, .rt 67 mat 99 false true true]), (7, .box false [.fz i64 0 false, .fz i64 0 false, .rt 67 mat 115 false true false]), (8, vv i64), (9, vv i64)]
def st128_6 (g72 : G72) (F : Nat) (s : ShVal sh128_6) (k kx : ShVal sh128_6 → Option R128) : Option R128 :=
  match s with
  | ((t2, _), (t6_0, t6_1, t6_2, _), (t7_0, t7_1, t7_2, _), (t8, _), (t9, _), _) => (bif decide ((0 : Int) < t9) then (bif ib t8 (Int.ofNat (List.length t2)) then (bif ib (w6 (t9 - (1 : Int))) (Int.ofNat (List.length t7_2)) then (match (g72 ((List.getD t2 (tn t8) (Ty.dflt (.arr 3 (.arr 3 (.int .u8))))), ((List.getD t7_2 (tn (w6 (t9 - (1 : Int)))) (Ty.dflt (.arr 3 (.arr 3 (.int .u8))))), ()))) with | some r27 => (bif (bif true then r27.1 else false) then k ((t2, ()), ((t6_0, (t6_1, (t6_2, ()))), ((t7_0, (t7_1, (t7_2, ()))), ((t8, ()), (((w6 (t9 - (1 : Int))), ()), ()))))) else kx ((t2, ()), ((t6_0, (t6_1, (t6_2, ()))), ((t7_0, (t7_1, (t7_2, ()))), ((t8, ()), ((t9, ()), ())))))) | none => none) else none) else none) else kx ((t2, ()), ((t6_0, (t6_1, (t6_2, ()))), ((t7_0, (t7_1, (t7_2, ()))), ((t8, ()), ((t9, ()), ()))))))
def ru128_6 (g72 : G72) (F : Nat) (s : ShVal sh128_6) (kx : ShVal sh128_6 → Option R128) : Option R128 := iter (fun s k => st128_6 g72 F s k kx) F s
abbrev ls128_6 (g72 : G72) (F : Nat) : LS R128 := ⟨sh128_6, 2, ru128_6 g72 F⟩
abbrev sh128_3 : Shape := [(2, .val false [.fz (.slice 67 mat) 0 true]), (6, .box false [.fz i64 0 false, .fz i64 0 false, .rt 67 mat 99 false true true]), (7, .box false [.fz i64 0 false, .fz i64 0 false, .rt 67 mat 115 false true false]), (8, vv i64)]
def st128_3 (g72 : G72) (F : Nat) (s : ShVal sh128_3) (k kx : ShVal sh128_3 → Option R128) : Option R128 :=
  match s with
  | ((t2, _), (t6_0, t6_1, t6_2, _), (t7_0, t7_1, t7_2, _), (t8, _), _) => (bif decide ((List.length t2) ≤ 9223372036854775807) then (bif decide (t8 < (Int.ofNat (List.length t2))) then (bif decide ((List.length t7_2) ≤ 9223372036854775807) then (ru128_6 g72 F ((t2, ()), ((t6_0, (t6_1, (t6_2, ()))), ((t7_0, (t7_1, (t7_2, ()))), ((t8, ()), (((Int.ofNat (List.length t7_2)), ()), ()))))) (fun s' => match s' with | ((t2, _), (t6_0, t6_1, t6_2, _), (t7_0, t7_1, t7_2, _), (t8, _), (t9, _), _) => (bif ib t8 (Int.ofNat (List.length t2)) then (bif ((decide ((0 : Int) ≤ t9) && decide (t9 ≤ (Int.ofNat (List.length t7_2)))) && decide ((Int.ofNat (List.length t7_2)) ≤ (Int.ofNat (List.length t7_2)))) then (bif (growOk (List.length ((List.getD t2 (tn t8) (Ty.dflt (.arr 3 (.arr 3 (.int .u8))))) :: [])) (List.length (List.drop (tn t9) (List.take (tn (Int.ofNat (List.length t7_2))) t7_2)))) then (bif ((decide ((0 : Int) ≤ (0 : Int)) && decide ((0 : Int) ≤ t9)) && decide (t9 ≤ (Int.ofNat (List.length t7_2)))) then (bif (growOk (0 : Nat) (List.length (List.drop (tn (0 : Int)) (List.take (tn t9) t7_2)))) then (bif (growOk (List.length ([] ++ (List.drop (tn (0 : Int)) (List.take (tn t9) t7_2)))) (List.length (((List.getD t2 (tn t8) (Ty.dflt (.arr 3 (.arr 3 (.int .u8))))) :: []) ++ (List.drop (tn t9) (List.take (tn (Int.ofNat (List.length t7_2))) t7_2))))) then k ((t2, ()), ((t6_0, (t6_1, (t6_2, ()))), ((t7_0, (t7_1, ((([] ++ (List.drop (tn (0 : Int)) (List.take (tn t9) t7_2))) ++ (((List.getD t2 (tn t8) (Ty.dflt (.arr 3 (.arr 3 (.int .u8))))) :: []) ++ (List.drop (tn t9) (List.take (tn (Int.ofNat (List.length t7_2))) t7_2)))), ()))), (((w6 (t8 + (1 : Int))), ()), ())))) else none) else none) else none) else none) else none) else none))) else none) else kx ((t2, ()), ((t6_0, (t6_1, (t6_2, ()))), ((t7_0, (t7_1, (t7_2, ()))), ((t8, ()), ()))))) else none)
def ru128_3 (g72 : G72) (F : Nat) (s : ShVal sh128_3) (kx : ShVal sh128_3 → Option R128) : Option R128 := iter (fun s k => st128_3 g72 F s k kx) F s
abbrev ls128_3 (g72 : G72) (F : Nat) : LS R128 := ⟨sh128_3, 0, ru128_3 g72 F⟩
def fn128 (g72 : G72) (F : Nat) (x : Args [.v i64, .v i64, .v (.slice 67 mat)]) : Option R128 :=
  match x with
  | (x0, x1, x2, _) => (ru128_3 g72 F ((x2, ()), (((Ty.dflt (.pair (.int .i64) (.pair (.int .i64) (.pair (.slice 67 (.arr 3 (.arr 3 (.int .u8)))) .unit)))).1, ((Ty.dflt (.pair (.int .i64) (.pair (.int .i64) (.pair (.slice 67 (.arr 3 (.arr 3 (.int .u8)))) .unit)))).2.1, ((Ty.dflt (.pair (.int .i64) (.pair (.int .i64) (.pair (.slice 67 (.arr 3 (.arr 3 (.int .u8)))) .unit)))).2.2.1, ()))), ((x0, (x1, ([], ()))), (((0 : Int), ()), ())))) (fun s' => match s' with | ((t2, _), (t6_0, t6_1, t6_2, _), (t7_0, t7_1, t7_2, _), (t8, _), _) => (some ((t7_0, (t7_1, (t7_2, ()))), ()))))
theorem ev128_6 (g72 : G72) (F : Nat) (s : ShVal sh128_6) (k kx : ShVal sh128_6 → Option R128) : evL TT (ct128 g72 ) kp128 [] (loopOf Try.f128 6) (envOf sh128_6 s) (fitK sh128_6 k) (fun j e => bif Nat.beq j 2 then fitK sh128_6 kx e else none) kr128 = st128_6 g72 F s k kx := by
  obtain ⟨⟨t2, _⟩, ⟨t6_0, t6_1, t6_2, _⟩, ⟨t7_0, t7_1, t7_2, _⟩, ⟨t8, _⟩, ⟨t9, _⟩, _⟩ := s
  kernel_rfl
theorem ok128_6 (g72 : G72) (F : Nat) (hK : KOK Try.prog (ct128 g72 )) : LSOK Try.prog ⟨61, false, undef⟩ (ls128_6 g72 F) (loopOf Try.f128 6) kr128 :=
  loop_ok (st128_6 g72 F) mixed tt_ok hK (by kernel_rfl) (LTOK_by (l := []) (by kernel_rfl) trivial) (ev128_6 g72 F)
theorem ev128_3 (g72 : G72) (F : Nat) (s : ShVal sh128_3) (k kx : ShVal sh128_3 → Option R128) : evL TT (ct128 g72 ) kp128 [(6, ls128_6 g72 F)] (loopOf Try.f128 3) (envOf sh128_3 s) (fitK sh128_3 k) (fun j e => bif Nat.beq j 0 then fitK sh128_3 kx e else none) kr128 = st128_3 g72 F s k kx := by
  obtain ⟨⟨t2, _⟩, ⟨t6_0, t6_1, t6_2, _⟩, ⟨t7_0, t7_1, t7_2, _⟩, ⟨t8, _⟩, _⟩ := s
  kernel_rfl
theorem ok128_3 (g72 : G72) (F : Nat) (hK : KOK Try.prog (ct128 g72 )) : LSOK Try.prog ⟨61, false, undef⟩ (ls128_3 g72 F) (loopOf Try.f128 3) kr128 :=
  loop_ok (st128_3 g72 F) mixed tt_ok hK (by kernel_rfl) (LTOK_by (l := [loopOf Try.f128 6]) (by kernel_rfl) ⟨ls_at (by kernel_rfl) (ok128_6 g72 F hK), trivial⟩) (ev128_3 g72 F)
theorem ev128 (g72 : G72) (F : Nat) (x : Args [.v i64, .v i64, .v (.slice 67 mat)]) : fnK TT (ct128 g72 ) kp128 [(.pair i64 (.pair i64 (.pair (.slice 67 mat) .unit)))] [(3, ls128_3 g72 F)] (bodyOf Try.f128) [.cell 6 31] [.v i64, .v i64, .v (.slice 67 mat)] true false x = fn128 g72 F x := by
  obtain ⟨x0, x1, x2, _⟩ := x
  kernel_rfl
theorem ok128 (g72 : G72) (hK : KOK Try.prog (ct128 g72 )) (cf : G128) (h : ∀ x y, cf x = some y → ∃ F, fn128 g72 F x = some y) : KOne Try.prog 128 ⟨[.v i64, .v i64, .v (.slice 67 mat)], [(.pair i64 (.pair i64 (.pair (.slice 67 mat) .unit)))], true, false, 0, cf⟩ :=
  fn_one rfl (c := bodyOf Try.f128) mixed tt_ok hK Try.func128 (by kernel_rfl) (by kernel_rfl) (Nat.le_of_ble_eq_true (by kernel_rfl)) (by decide) fun x y hxy => by
    obtain ⟨F, hF⟩ := h x y hxy
    exact ⟨[(3, ls128_3 g72 F)], LTOK_by (l := [loopOf Try.f128 3]) (by kernel_rfl) ⟨ls_at (by kernel_rfl) (ok128_3 g72 F hK), trivial⟩, (ev128 g72 F x).trans hF⟩
abbrev R106 : Type := Ress [(.pair i64 (.pair i64 (.pair (.slice 67 mat) .unit))), .bool]
abbrev G106 : Type := Args [.v i64, .v i64, .v (.slice 67 mat)] → Option R106
abbrev kp106 : List (Nat × List Nat) := [(0, [0, 1, 2, 6]), (1, [0, 1, 2, 8, 6]), (2, [0, 1, 9, 2, 8, 6]), (3, [18, 6, 8, 2, 9, 1, 0]), (5, [6, 10, 8, 2, 9, 1, 0]), (6, [24, 8, 0, 1, 9, 2, 10, 6]), (8, [8, 11, 0, 1, 9, 2, 10, 6]), (9, [41, 8, 11, 0, 1, 9, 2, 10, 6]), (10, [0, 1, 9, 2, 8, 10, 6]), (11, [48, 0, 1, 9, 2, 8, 10, 6]), (12, [7, 6]), (7, [6, 10, 8, 2, 9, 1, 0]), (4, [0, 1, 9, 2, 8, 6]), (13, [7, 6])]
abbrev ct106 (g75 : G75) (g128 : G128) (g73 : G73) (g74 : G74) : CTab := [(75, ⟨[.v i64], [mat], false, false, 0, g75⟩), (128, ⟨[.v i64, .v i64, .v (.slice 67 mat)], [(.pair i64 (.pair i64 (.pair (.slice 67 mat) .unit)))], true, false, 0, g128⟩), (73, ⟨[.v (.slice 67 mat), .v mat], [i64], false, false, 0, g73⟩), (74, ⟨[.v i64, .v i64, .v mat, .v mat], [mat], false, false, 0, g74⟩)]
abbrev kr106 : Env → Option R106 := endK TT [.cell 6 31, .tmp 7] [(.pair i64 (.pair i64 (.pair (.slice 67 mat) .unit))), .bool] true false
abbrev sh106_6 : Shape := [(0, vv i64), (1, vv i64), (2, .val false [.fz (.slice 67 mat) 0 true]), (6, .box false [.fz i64 0 false, .fz i64 0 false, .rt 67 mat 99 false true true]), (8, vr 67 mat 129 true), (9, vv i64), (10, vv i64)]
def st106_6 (g75 : G75) (g128 : G128) (g73 : G73) (g74 : G74) (F : Nat) (s : ShVal sh106_6) (k kx : ShVal sh106_6 → Option R106) : Option R106 :=
  match s with
  | ((t0, _), (t1, _), (t2, _), (t6_0, t6_1, t6_2, _), (t8, _), (t9, _), (t10, _), _) => (bif decide ((List.length t2) ≤ 9223372036854775807) then (bif decide (t10 < (Int.ofNat (List.length t2))) then (bif ib t9 (Int.ofNat (List.length t8)) then (bif ib t10 (Int.ofNat (List.length t2)) then (match (g74 (t0, (t1, ((List.getD t8 (tn t9) (Ty.dflt (.arr 3 (.arr 3 (.int .u8))))), ((List.getD t2 (tn t10) (Ty.dflt (.arr 3 (.arr 3 (.int .u8))))), ()))))) with | some r32 => (match (g73 (t8, (r32.1, ()))) with | some r34 => (bif decide (r34.1 < (0 : Int)) then (bif (growOk (List.length t8) (List.length (r32.1 :: []))) then (bif decide ((List.length (t8 ++ (r32.1 :: []))) ≤ 9223372036854775807) then (bif decide ((48 : Int) < (Int.ofNat (List.length (t8 ++ (r32.1 :: []))))) then (some (((Ty.dflt (.pair (.int .i64) (.pair (.int .i64) (.pair (.slice 67 (.arr 3 (.arr 3 (.int .u8)))) .unit)))).1, ((Ty.dflt (.pair (.int .i64) (.pair (.int .i64) (.pair (.slice 67 (.arr 3 (.arr 3 (.int .u8)))) .unit)))).2.1, ((Ty.dflt (.pair (.int .i64) (.pair (.int .i64) (.pair (.slice 67 (.arr 3 (.arr 3 (.int .u8)))) .unit)))).2.2.1, ()))), (false, ()))) else k ((t0, ()), ((t1, ()), ((t2, ()), ((t6_0, (t6_1, (t6_2, ()))), (((t8 ++ (r32.1 :: [])), ()), ((t9, ()), (((w6 (t10 + (1 : Int))), ()), ())))))))) else none) else none) else (bif decide ((List.length t8) ≤ 9223372036854775807) then (bif decide ((48 : Int) < (Int.ofNat (List.length t8))) then (some (((Ty.dflt (.pair (.int .i64) (.pair (.int .i64) (.pair (.slice 67 (.arr 3 (.arr 3 (.int .u8)))) .unit)))).1, ((Ty.dflt (.pair (.int .i64) (.pair (.int .i64) (.pair (.slice 67 (.arr 3 (.arr 3 (.int .u8)))) .unit)))).2.1, ((Ty.dflt (.pair (.int .i64) (.pair (.int .i64) (.pair (.slice 67 (.arr 3 (.arr 3 (.int .u8)))) .unit)))).2.2.1, ()))), (false, ()))) else k ((t0, ()), ((t1, ()), ((t2, ()), ((t6_0, (t6_1, (t6_2, ()))), ((t8, ()), ((t9, ()), (((w6 (t10 + (1 : Int))), ()), ())))))))) else none)) | none => none) | none => none) else none) else none) else kx ((t0, ()), ((t1, ()), ((t2, ()), ((t6_0, (t6_1, (t6_2, ()))), ((t8, ()), ((t9, ()), ((t10, ()), ())))))))) else none)
def ru106_6 (g75 : G75) (g128 : G128) (g73 : G73) (g74 : G74) (F : Nat) (s : ShVal sh106_6) (kx : ShVal sh106_6 → Option R106) : Option R106 := iter (fun s k => st106_6 g75 g128 g73 g74 F s k kx) F s
abbrev ls106_6 (g75 : G75) (g128 : G128) (g73 : G73) (g74 : G74) (F : Nat) : LS R106 := ⟨sh106_6, 2, ru106_6 g75 g128 g73 g74 F⟩
abbrev sh106_3 : Shape := [(0, vv i64), (1, vv i64), (2, .val false [.fz (.slice 67 mat) 0 true]), (6, .box false [.fz i64 0 false, .fz i64 0 false, .rt 67 mat 99 false true true]), (8, vr 67 mat 129 true), (9, vv i64)]
def st106_3 (g75 : G75) (g128 : G128) (g73 : G73) (g74 : G74) (F : Nat) (s : ShVal sh106_3) (k kx : ShVal sh106_3 → Option R106) : Option R106 :=
  match s with
  | ((t0, _), (t1, _), (t2, _), (t6_0, t6_1, t6_2, _), (t8, _), (t9, _), _) => (bif decide ((List.length t8) ≤ 9223372036854775807) then (bif decide (t9 < (Int.ofNat (List.length t8))) then (ru106_6 g75 g128 g73 g74 F ((t0, ()), ((t1, ()), ((t2, ()), ((t6_0, (t6_1, (t6_2, ()))), ((t8, ()), ((t9, ()), (((0 : Int), ()), ()))))))) (fun s' => match s' with | ((t0, _), (t1, _), (t2, _), (t6_0, t6_1, t6_2, _), (t8, _), (t9, _), (t10, _), _) => k ((t0, ()), ((t1, ()), ((t2, ()), ((t6_0, (t6_1, (t6_2, ()))), ((t8, ()), (((w6 (t9 + (1 : Int))), ()), ())))))))) else kx ((t0, ()), ((t1, ()), ((t2, ()), ((t6_0, (t6_1, (t6_2, ()))), ((t8, ()), ((t9, ()), ()))))))) else none)
def ru106_3 (g75 : G75) (g128 : G128) (g73 : G73) (g74 : G74) (F : Nat) (s : ShVal sh106_3) (kx : ShVal sh106_3 → Option R106) : Option R106 := iter (fun s k => st106_3 g75 g128 g73 g74 F s k kx) F s
abbrev ls106_3 (g75 : G75) (g128 : G128) (g73 : G73) (g74 : G74) (F : Nat) : LS R106 := ⟨sh106_3, 0, ru106_3 g75 g128 g73 g74 F⟩
def fn106 (g75 : G75) (g128 : G128) (g73 : G73) (g74 : G74) (F : Nat) (x : Args [.v i64, .v i64, .v (.slice 67 mat)]) : Option R106 :=
  match x with
  | (x0, x1, x2, _) => (match (g75 (x1, ())) with | some r9 => (ru106_3 g75 g128 g73 g74 F ((x0, ()), ((x1, ()), ((x2, ()), (((Ty.dflt (.pair (.int .i64) (.pair (.int .i64) (.pair (.slice 67 (.arr 3 (.arr 3 (.int .u8)))) .unit)))).1, ((Ty.dflt (.pair (.int .i64) (.pair (.int .i64) (.pair (.slice 67 (.arr 3 (.arr 3 (.int .u8)))) .unit)))).2.1, ((Ty.dflt (.pair (.int .i64) (.pair (.int .i64) (.pair (.slice 67 (.arr 3 (.arr 3 (.int .u8)))) .unit)))).2.2.1, ()))), (((r9.1 :: []), ()), (((0 : Int), ()), ())))))) (fun s' => match s' with | ((t0, _), (t1, _), (t2, _), (t6_0, t6_1, t6_2, _), (t8, _), (t9, _), _) => (match (g128 (t0, (t1, (t8, ())))) with | some r20 => (some ((r20.1.1, (r20.1.2.1, (r20.1.2.2.1, ()))), (true, ()))) | none => none))) | none => none)
theorem ev106_6 (g75 : G75) (g128 : G128) (g73 : G73) (g74 : G74) (F : Nat) (s : ShVal sh106_6) (k kx : ShVal sh106_6 → Option R106) : evL TT (ct106 g75 g128 g73 g74 ) kp106 [] (loopOf Try.f106 6) (envOf sh106_6 s) (fitK sh106_6 k) (fun j e => bif Nat.beq j 2 then fitK sh106_6 kx e else none) kr106 = st106_6 g75 g128 g73 g74 F s k kx := by
  obtain ⟨⟨t0, _⟩, ⟨t1, _⟩, ⟨t2, _⟩, ⟨t6_0, t6_1, t6_2, _⟩, ⟨t8, _⟩, ⟨t9, _⟩, ⟨t10, _⟩, _⟩ := s
  kernel_rfl
theorem ok106_6 (g75 : G75) (g128 : G128) (g73 : G73) (g74 : G74) (F : Nat) (hK : KOK Try.prog (ct106 g75 g128 g73 g74 )) : LSOK Try.prog ⟨54, false, undef⟩ (ls106_6 g75 g128 g73 g74 F) (loopOf Try.f106 6) kr106 :=
  loop_ok (st106_6 g75 g128 g73 g74 F) mixed tt_ok hK (by kernel_rfl) (LTOK_by (l := []) (by kernel_rfl) trivial) (ev106_6 g75 g128 g73 g74 F)
theorem ev106_3 (g75 : G75) (g128 : G128) (g73 : G73) (g74 : G74) (F : Nat) (s : ShVal sh106_3) (k kx : ShVal sh106_3 → Option R106) : evL TT (ct106 g75 g128 g73 g74 ) kp106 [(6, ls106_6 g75 g128 g73 g74 F)] (loopOf Try.f106 3) (envOf sh106_3 s) (fitK sh106_3 k) (fun j e => bif Nat.beq j 0 then fitK sh106_3 kx e else none) kr106 = st106_3 g75 g128 g73 g74 F s k kx := by
  obtain ⟨⟨t0, _⟩, ⟨t1, _⟩, ⟨t2, _⟩, ⟨t6_0, t6_1, t6_2, _⟩, ⟨t8, _⟩, ⟨t9, _⟩, _⟩ := s
  kernel_rfl
theorem ok106_3 (g75 : G75) (g128 : G128) (g73 : G73) (g74 : G74) (F : Nat) (hK : KOK Try.prog (ct106 g75 g128 g73 g74 )) : LSOK Try.prog ⟨54, false, undef⟩ (ls106_3 g75 g128 g73 g74 F) (loopOf Try.f106 3) kr106 :=
  loop_ok (st106_3 g75 g128 g73 g74 F) mixed tt_ok hK (by kernel_rfl) (LTOK_by (l := [loopOf Try.f106 6]) (by kernel_rfl) ⟨ls_at (by kernel_rfl) (ok106_6 g75 g128 g73 g74 F hK), trivial⟩) (ev106_3 g75 g128 g73 g74 F)
theorem ev106 (g75 : G75) (g128 : G128) (g73 : G73) (g74 : G74) (F : Nat) (x : Args [.v i64, .v i64, .v (.slice 67 mat)]) : fnK TT (ct106 g75 g128 g73 g74 ) kp106 [(.pair i64 (.pair i64 (.pair (.slice 67 mat) .unit))), .bool] [(3, ls106_3 g75 g128 g73 g74 F)] (bodyOf Try.f106) [.cell 6 31, .tmp 7] [.v i64, .v i64, .v (.slice 67 mat)] true false x = fn106 g75 g128 g73 g74 F x := by
  obtain ⟨x0, x1, x2, _⟩ := x
  kernel_rfl
theorem ok106 (g75 : G75) (g128 : G128) (g73 : G73) (g74 : G74) (hK : KOK Try.prog (ct106 g75 g128 g73 g74 )) (cf : G106) (h : ∀ x y, cf x = some y → ∃ F, fn106 g75 g128 g73 g74 F x = some y) : KOne Try.prog 106 ⟨[.v i64, .v i64, .v (.slice 67 mat)], [(.pair i64 (.pair i64 (.pair (.slice 67 mat) .unit))), .bool], true, false, 0, cf⟩ :=
  fn_one rfl (c := bodyOf Try.f106) mixed tt_ok hK Try.func106 (by kernel_rfl) (by kernel_rfl) (Nat.le_of_ble_eq_true (by kernel_rfl)) (by decide) fun x y hxy => by
    obtain ⟨F, hF⟩ := h x y hxy
    exact ⟨[(3, ls106_3 g75 g128 g73 g74 F)], LTOK_by (l := [loopOf Try.f106 3]) (by kernel_rfl) ⟨ls_at (by kernel_rfl) (ok106_3 g75 g128 g73 g74 F hK), trivial⟩, (ev106 g75 g128 g73 g74 F x).trans hF⟩
abbrev R107 : Type := Ress [(.pair i64 (.pair i64 (.pair (.slice 67 mat) .unit))), .bool]
abbrev G107 : Type := Args [.v i64, .v i64, .v (.slice 67 mat)] → Option R107
abbrev kp107 : List (Nat × List Nat) := [(0, [2, 1, 0, 6]), (1, [2, 8, 1, 0, 6]), (2, [2, 10, 9, 8, 1, 0, 6]), (3, [27, 10, 9, 25, 8, 1, 0, 6, 26]), (4, [28, 10, 27, 9, 25, 8, 1, 0, 6, 26]), (5, [10, 12, 27, 9, 25, 8, 1, 0, 6, 26]), (6, [34, 10, 12, 27, 9, 25, 8, 1, 0, 6, 26]), (7, [10, 12, 27, 9, 25, 8, 1, 0, 6, 26]), (8, [27, 10, 9, 25, 8, 1, 0, 6, 26]), (9, [27, 10, 9, 25, 8, 1, 0, 6, 26]), (10, [44, 8, 1, 0, 10, 6]), (11, [7, 6]), (12, [0, 1, 8, 6, 2]), (13, [0, 1, 13, 8, 6, 2]), (14, [51, 6, 8, 13, 1, 0, 2]), (16, [6, 56, 8, 13, 1, 0, 54, 2, 55]), (17, [57, 55, 2, 54, 0, 1, 13, 8, 56, 6]), (18, [15, 55, 2, 54, 0, 1, 13, 8, 56, 6]), (19, [16, 55, 2, 54, 0, 1, 13, 8, 56, 6]), (20, [72, 16, 55, 2, 54, 0, 1, 13, 8, 56, 6]), (21, [55, 2, 54, 0, 1, 13, 8, 56, 6]), (22, [82, 55, 2, 54, 0, 1, 13, 8, 56, 6]), (23, [7, 6]), (24, [6, 56, 8, 13, 1, 0, 54, 2, 55]), (15, [0, 1, 13, 8, 6, 2]), (25, [8, 6]), (26, [7, 6])]
abbrev ct107 (g104 : G104) (g129 : G129) (g102 : G102) (g103 : G103) : CTab := [(104, ⟨[.v i64], [mat], false, false, 0, g104⟩), (129, ⟨[.v (.slice 67 mat), .fn 101], [(.slice 67 mat)], false, false, 1, g129⟩), (102, ⟨[.v (.pair i64 (.pair i64 (.pair (.slice 67 mat) .unit))), .v mat], [.bool], false, false, 0, g102⟩), (103, ⟨[.v i64, .v i64, .v mat, .v mat], [mat], false, false, 0, g103⟩)]
abbrev kr107 : Env → Option R107 := endK TT [.cell 6 31, .tmp 7] [(.pair i64 (.pair i64 (.pair (.slice 67 mat) .unit))), .bool] true false
abbrev sh107_4 : Shape := [(0, vv i64), (1, vv i64), (6, .box false [.fz i64 0 false, .fz i64 0 false, .rt 67 mat 99 false true true]), (8, .box false [.fz i64 0 false, .fz i64 0 false, .rt 67 mat 131 false true true]), (9, .mp 23 mat .bool), (10, vr 67 mat 161 false), (25, .val false [.fz (.slice 67 mat) 0 true]), (26, vv i64), (27, vv i64)]
def st107_4 (g104 : G104) (g129 : G129) (g102 : G102) (g103 : G103) (F : Nat) (s : ShVal sh107_4) (k kx : ShVal sh107_4 → Option R107) : Option R107 :=
  match s with
  | ((t0, _), (t1, _), (t6_0, t6_1, t6_2, _), (t8_0, t8_1, t8_2, _), t9, (t10, _), (t25, _), (t26, _), (t27, _), _) => (bif decide (t27 < t26) then (bif ib t27 (Int.ofNat (List.length t25)) then (bif (!(mget (.arr 3 (.arr 3 (.int .u8))) .bool t9 (List.getD t25 (tn t27) (Ty.dflt (.arr 3 (.arr 3 (.int .u8))))))) then (bif (growOk (List.length t10) (List.length ((List.getD t25 (tn t27) (Ty.dflt (.arr 3 (.arr 3 (.int .u8))))) :: []))) then k ((t0, ()), ((t1, ()), ((t6_0, (t6_1, (t6_2, ()))), ((t8_0, (t8_1, (t8_2, ()))), ((((List.getD t25 (tn t27) (Ty.dflt (.arr 3 (.arr 3 (.int .u8))))), true) :: t9), (((t10 ++ ((List.getD t25 (tn t27) (Ty.dflt (.arr 3 (.arr 3 (.int .u8))))) :: [])), ()), ((t25, ()), ((t26, ()), (((w6 (t27 + (1 : Int))), ()), ()))))))))) else none) else k ((t0, ()), ((t1, ()), ((t6_0, (t6_1, (t6_2, ()))), ((t8_0, (t8_1, (t8_2, ()))), (t9, ((t10, ()), ((t25, ()), ((t26, ()), (((w6 (t27 + (1 : Int))), ()), ())))))))))) else none) else kx ((t0, ()), ((t1, ()), ((t6_0, (t6_1, (t6_2, ()))), ((t8_0, (t8_1, (t8_2, ()))), (t9, ((t10, ()), ((t25, ()), ((t26, ()), ((t27, ()), ()))))))))))
def ru107_4 (g104 : G104) (g129 : G129) (g102 : G102) (g103 : G103) (F : Nat) (s : ShVal sh107_4) (kx : ShVal sh107_4 → Option R107) : Option R107 := iter (fun s k => st107_4 g104 g129 g102 g103 F s k kx) F s
abbrev ls107_4 (g104 : G104) (g129 : G129) (g102 : G102) (g103 : G103) (F : Nat) : LS R107 := ⟨sh107_4, 0, ru107_4 g104 g129 g102 g103 F⟩
abbrev sh107_17 : Shape := [(0, vv i64), (1, vv i64), (2, vr 67 mat 33 false), (6, .box false [.fz i64 0 false, .fz i64 0 false, .rt 67 mat 99 false true true]), (8, .box false [.fz i64 0 false, .fz i64 0 false, .rt 67 mat 131 false true true]), (13, vv i64), (54, vr 67 mat 33 false), (55, vv i64), (56, vv i64)]
def st107_17 (g104 : G104) (g129 : G129) (g102 : G102) (g103 : G103) (F : Nat) (s : ShVal sh107_17) (k kx : ShVal sh107_17 → Option R107) : Option R107 :=
  match s with
  | ((t0, _), (t1, _), (t2, _), (t6_0, t6_1, t6_2, _), (t8_0, t8_1, t8_2, _), (t13, _), (t54, _), (t55, _), (t56, _), _) => (bif decide (t56 < t55) then (bif ib t56 (Int.ofNat (List.length t54)) then (bif ib t13 (Int.ofNat (List.length t8_2)) then (match (g103 (t0, (t1, ((List.getD t8_2 (tn t13) (Ty.dflt (.arr 3 (.arr 3 (.int .u8))))), ((List.getD t54 (tn t56) (Ty.dflt (.arr 3 (.arr 3 (.int .u8))))), ()))))) with | some r56 => (match (g102 ((t8_0, (t8_1, (t8_2, ()))), (r56.1, ()))) with | some r58 => (bif (!r58.1) then (bif (growOk (List.length t8_2) (List.length (r56.1 :: []))) then (bif decide ((List.length (t8_2 ++ (r56.1 :: []))) ≤ 9223372036854775807) then (bif decide ((48 : Int) < (Int.ofNat (List.length (t8_2 ++ (r56.1 :: []))))) then (some (((Ty.dflt (.pair (.int .i64) (.pair (.int .i64) (.pair (.slice 67 (.arr 3 (.arr 3 (.int .u8)))) .unit)))).1, ((Ty.dflt (.pair (.int .i64) (.pair (.int .i64) (.pair (.slice 67 (.arr 3 (.arr 3 (.int .u8)))) .unit)))).2.1, ((Ty.dflt (.pair (.int .i64) (.pair (.int .i64) (.pair (.slice 67 (.arr 3 (.arr 3 (.int .u8)))) .unit)))).2.2.1, ()))), (false, ()))) else k ((t0, ()), ((t1, ()), ((t2, ()), ((t6_0, (t6_1, (t6_2, ()))), ((t8_0, (t8_1, ((t8_2 ++ (r56.1 :: [])), ()))), ((t13, ()), ((t54, ()), ((t55, ()), (((w6 (t56 + (1 : Int))), ()), ())))))))))) else none) else none) else (bif decide ((List.length t8_2) ≤ 9223372036854775807) then (bif decide ((48 : Int) < (Int.ofNat (List.length t8_2))) then (some (((Ty.dflt (.pair (.int .i64) (.pair (.int .i64) (.pair (.slice 67 (.arr 3 (.arr 3 (.int .u8)))) .unit)))).1, ((Ty.dflt (.pair (.int .i64) (.pair (.int .i64) (.pair (.slice 67 (.arr 3 (.arr 3 (.int .u8)))) .unit)))).2.1, ((Ty.dflt (.pair (.int .i64) (.pair (.int .i64) (.pair (.slice 67 (.arr 3 (.arr 3 (.int .u8)))) .unit)))).2.2.1, ()))), (false, ()))) else k ((t0, ()), ((t1, ()), ((t2, ()), ((t6_0, (t6_1, (t6_2, ()))), ((t8_0, (t8_1, (t8_2, ()))), ((t13, ()), ((t54, ()), ((t55, ()), (((w6 (t56 + (1 : Int))), ()), ())))))))))) else none)) | none => none) | none => none) else none) else none) else kx ((t0, ()), ((t1, ()), ((t2, ()), ((t6_0, (t6_1, (t6_2, ()))), ((t8_0, (t8_1, (t8_2, ()))), ((t13, ()), ((t54, ()), ((t55, ()), ((t56, ()), ()))))))))))
def ru107_17 (g104 : G104) (g129 : G129) (g102 : G102) (g103 : G103) (F : Nat) (s : ShVal sh107_17) (kx : ShVal sh107_17 → Option R107) : Option R107 := iter (fun s k => st107_17 g104 g129 g102 g103 F s k kx) F s
abbrev ls107_17 (g104 : G104) (g129 : G129) (g102 : G102) (g103 : G103) (F : Nat) : LS R107 := ⟨sh107_17, 4, ru107_17 g104 g129 g102 g103 F⟩
abbrev sh107_14 : Shape := [(0, vv i64), (1, vv i64), (2, vr 67 mat 33 false), (6, .box false [.fz i64 0 false, .fz i64 0 false, .rt 67 mat 99 false true true]), (8, .box false [.fz i64 0 false, .fz i64 0 false, .rt 67 mat 131 false true true]), (13, vv i64)]
def st107_14 (g104 : G104) (g129 : G129) (g102 : G102) (g103 : G103) (F : Nat) (s : ShVal sh107_14) (k kx : ShVal sh107_14 → Option R107) : Option R107 :=
  match s with
  | ((t0, _), (t1, _), (t2, _), (t6_0, t6_1, t6_2, _), (t8_0, t8_1, t8_2, _), (t13, _), _) => (bif decide ((List.length t8_2) ≤ 9223372036854775807) then (bif decide (t13 < (Int.ofNat (List.length t8_2))) then (bif decide ((List.length t2) ≤ 9223372036854775807) then (ru107_17 g104 g129 g102 g103 F ((t0, ()), ((t1, ()), ((t2, ()), ((t6_0, (t6_1, (t6_2, ()))), ((t8_0, (t8_1, (t8_2, ()))), ((t13, ()), ((t2, ()), (((Int.ofNat (List.length t2)), ()), (((0 : Int), ()), ()))))))))) (fun s' => match s' with | ((t0, _), (t1, _), (t2, _), (t6_0, t6_1, t6_2, _), (t8_0, t8_1, t8_2, _), (t13, _), (t54, _), (t55, _), (t56, _), _) => k ((t0, ()), ((t1, ()), ((t2, ()), ((t6_0, (t6_1, (t6_2, ()))), ((t8_0, (t8_1, (t8_2, ()))), (((w6 (t13 + (1 : Int))), ()), ())))))))) else none) else kx ((t0, ()), ((t1, ()), ((t2, ()), ((t6_0, (t6_1, (t6_2, ()))), ((t8_0, (t8_1, (t8_2, ()))), ((t13, ()), ()))))))) else none)
def ru107_14 (g104 : G104) (g129 : G129) (g102 : G102) (g103 : G103) (F : Nat) (s : ShVal sh107_14) (kx : ShVal sh107_14 → Option R107) : Option R107 := iter (fun s k => st107_14 g104 g129 g102 g103 F s k kx) F s
abbrev ls107_14 (g104 : G104) (g129 : G129) (g102 : G102) (g103 : G103) (F : Nat) : LS R107 := ⟨sh107_14, 2, ru107_14 g104 g129 g102 g103 F⟩
def fn107 (g104 : G104) (g129 : G129) (g102 : G102) (g103 : G103) (F : Nat) (x : Args [.v i64, .v i64, .v (.slice 67 mat)]) : Option R107 :=
  match x with
  | (x0, x1, x2, _) => (match (g104 (x1, ())) with | some r9 => (bif decide ((List.length x2) ≤ 9223372036854775807) then (ru107_4 g104 g129 g102 g103 F ((x0, ()), ((x1, ()), (((Ty.dflt (.pair (.int .i64) (.pair (.int .i64) (.pair (.slice 67 (.arr 3 (.arr 3 (.int .u8)))) .unit)))).1, ((Ty.dflt (.pair (.int .i64) (.pair (.int .i64) (.pair (.slice 67 (.arr 3 (.arr 3 (.int .u8)))) .unit)))).2.1, ((Ty.dflt (.pair (.int .i64) (.pair (.int .i64) (.pair (.slice 67 (.arr 3 (.arr 3 (.int .u8)))) .unit)))).2.2.1, ()))), ((x0, (x1, ((r9.1 :: []), ()))), ([], (([], ()), ((x2, ()), (((Int.ofNat (List.length x2)), ()), (((0 : Int), ()), ()))))))))) (fun s' => match s' with | ((t0, _), (t1, _), (t6_0, t6_1, t6_2, _), (t8_0, t8_1, t8_2, _), t9, (t10, _), (t25, _), (t26, _), (t27, _), _) => (bif decide ((List.length t10) ≤ 9223372036854775807) then (bif decide ((48 : Int) < (Int.ofNat (List.length t10))) then (some (((Ty.dflt (.pair (.int .i64) (.pair (.int .i64) (.pair (.slice 67 (.arr 3 (.arr 3 (.int .u8)))) .unit)))).1, ((Ty.dflt (.pair (.int .i64) (.pair (.int .i64) (.pair (.slice 67 (.arr 3 (.arr 3 (.int .u8)))) .unit)))).2.1, ((Ty.dflt (.pair (.int .i64) (.pair (.int .i64) (.pair (.slice 67 (.arr 3 (.arr 3 (.int .u8)))) .unit)))).2.2.1, ()))), (false, ()))) else (ru107_14 g104 g129 g102 g103 F ((t0, ()), ((t1, ()), ((t10, ()), ((t6_0, (t6_1, (t6_2, ()))), ((t8_0, (t8_1, (t8_2, ()))), (((0 : Int), ()), ())))))) (fun s' => match s' with | ((t0, _), (t1, _), (t2, _), (t6_0, t6_1, t6_2, _), (t8_0, t8_1, t8_2, _), (t13, _), _) => (match (g129 (t8_2, ((), ()))) with | some r39 => (some ((t8_0, (t8_1, ((bif ((Nat.beq 67 67) && ((Nat.beq 3 3) && ((Nat.beq 3 3) && true))) then r39.1 else []), ()))), (true, ()))) | none => none)))) else none))) else none) | none => none)
theorem ev107_4 (g104 : G104) (g129 : G129) (g102 : G102) (g103 : G103) (F : Nat) (s : ShVal sh107_4) (k kx : ShVal sh107_4 → Option R107) : evL TT (ct107 g104 g129 g102 g103 ) kp107 [] (loopOf Try.f107 4) (envOf sh107_4 s) (fitK sh107_4 k) (fun j e => bif Nat.beq j 0 then fitK sh107_4 kx e else none) kr107 = st107_4 g104 g129 g102 g103 F s k kx := by
  obtain ⟨⟨t0, _⟩, ⟨t1, _⟩, ⟨t6_0, t6_1, t6_2, _⟩, ⟨t8_0, t8_1, t8_2, _⟩, t9, ⟨t10, _⟩, ⟨t25, _⟩, ⟨t26, _⟩, ⟨t27, _⟩, _⟩ := s
  kernel_rfl
theorem ok107_4 (g104 : G104) (g129 : G129) (g102 : G102) (g103 : G103) (F : Nat) (hK : KOK Try.prog (ct107 g104 g129 g102 g103 )) : LSOK Try.prog ⟨89, false, undef⟩ (ls107_4 g104 g129 g102 g103 F) (loopOf Try.f107 4) kr107 :=
  loop_ok (st107_4 g104 g129 g102 g103 F) mixed tt_ok hK (by kernel_rfl) (LTOK_by (l := []) (by kernel_rfl) trivial) (ev107_4 g104 g129 g102 g103 F)
theorem ev107_17 (g104 : G104) (g129 : G129) (g102 : G102) (g103 : G103) (F : Nat) (s : ShVal sh107_17) (k kx : ShVal sh107_17 → Option R107) : evL TT (ct107 g104 g129 g102 g103 ) kp107 [] (loopOf Try.f107 17) (envOf sh107_17 s) (fitK sh107_17 k) (fun j e => bif Nat.beq j 4 then fitK sh107_17 kx e else none) kr107 = st107_17 g104 g129 g102 g103 F s k kx := by
  obtain ⟨⟨t0, _⟩, ⟨t1, _⟩, ⟨t2, _⟩, ⟨t6_0, t6_1, t6_2, _⟩, ⟨t8_0, t8_1, t8_2, _⟩, ⟨t13, _⟩, ⟨t54, _⟩, ⟨t55, _⟩, ⟨t56, _⟩, _⟩ := s
  kernel_rfl
theorem ok107_17 (g104 : G104) (g129 : G129) (g102 : G102) (g103 : G103) (F : Nat) (hK : KOK Try.prog (ct107 g104 g129 g102 g103 )) : LSOK Try.prog ⟨89, false, undef⟩ (ls107_17 g104 g129 g102 g103 F) (loopOf Try.f107 17) kr107 :=
  loop_ok (st107_17 g104 g129 g102 g103 F) mixed tt_ok hK (by kernel_rfl) (LTOK_by (l := []) (by kernel_rfl) trivial) (ev107_17 g104 g129 g102 g103 F)
theorem ev107_14 (g104 : G104) (g129 : G129) (g102 : G102) (g103 : G103) (F : Nat) (s : ShVal sh107_14) (k kx : ShVal sh107_14 → Option R107) : evL TT (ct107 g104 g129 g102 g103 ) kp107 [(17, ls107_17 g104 g129 g102 g103 F)] (loopOf Try.f107 14) (envOf sh107_14 s) (fitK sh107_14 k) (fun j e => bif Nat.beq j 2 then fitK sh107_14 kx e else none) kr107 = st107_14 g104 g129 g102 g103 F s k kx := by
  obtain ⟨⟨t0, _⟩, ⟨t1, _⟩, ⟨t2, _⟩, ⟨t6_0, t6_1, t6_2, _⟩, ⟨t8_0, t8_1, t8_2, _⟩, ⟨t13, _⟩, _⟩ := s
  kernel_rfl
theorem ok107_14 (g104 : G104) (g129 : G129) (g102 : G102) (g103 : G103) (F : Nat) (hK : KOK Try.prog (ct107 g104 g129 g102 g103 )) : LSOK Try.prog ⟨89, false, undef⟩ (ls107_14 g104 g129 g102 g103 F) (loopOf Try.f107 14) kr107 :=
  loop_ok (st107_14 g104 g129 g102 g103 F) mixed tt_ok hK (by kernel_rfl) (LTOK_by (l := [loopOf Try.f107 17]) (by kernel_rfl) ⟨ls_at (by kernel_rfl) (ok107_17 g104 g129 g102 g103 F hK), trivial⟩) (ev107_14 g104 g129 g102 g103 F)
theorem ev107 (g104 : G104) (g129 : G129) (g102 : G102) (g103 : G103) (F : Nat) (x : Args [.v i64, .v i64, .v (.slice 67 mat)]) : fnK TT (ct107 g104 g129 g102 g103 ) kp107 [(.pair i64 (.pair i64 (.pair (.slice 67 mat) .unit))), .bool] [(4, ls107_4 g104 g129 g102 g103 F), (14, ls107_14 g104 g129 g102 g103 F)] (bodyOf Try.f107) [.cell 6 31, .tmp 7] [.v i64, .v i64, .v (.slice 67 mat)] true false x = fn107 g104 g129 g102 g103 F x := by
  obtain ⟨x0, x1, x2, _⟩ := x
  kernel_rfl
theorem ok107 (g104 : G104) (g129 : G129) (g102 : G102) (g103 : G103) (hK : KOK Try.prog (ct107 g104 g129 g102 g103 )) (cf : G107) (h : ∀ x y, cf x = some y → ∃ F, fn107 g104 g129 g102 g103 F x = some y) : KOne Try.prog 107 ⟨[.v i64, .v i64, .v (.slice 67 mat)], [(.pair i64 (.pair i64 (.pair (.slice 67 mat) .unit))), .bool], true, false, 0, cf⟩ :=
  fn_one rfl (c := bodyOf Try.f107) mixed tt_ok hK Try.func107 (by kernel_rfl) (by kernel_rfl) (Nat.le_of_ble_eq_true (by kernel_rfl)) (by decide) fun x y hxy => by
    obtain ⟨F, hF⟩ := h x y hxy
    exact ⟨[(4, ls107_4 g104 g129 g102 g103 F), (14, ls107_14 g104 g129 g102 g103 F)], LTOK_by (l := [loopOf Try.f107 4, loopOf Try.f107 14]) (by kernel_rfl) ⟨ls_at (by kernel_rfl) (ok107_4 g104 g129 g102 g103 F hK), ⟨ls_at (by kernel_rfl) (ok107_14 g104 g129 g102 g103 F hK), trivial⟩⟩, (ev107 g104 g129 g102 g103 F x).trans hF⟩
abbrev R68 : Type := Ress [(.pair i64 (.pair i64 (.pair (.slice 67 mat) .unit)))]
abbrev G68 : Type := Args [.v (.pair i64 (.pair i64 (.pair (.slice 67 mat) .unit))), .v (.slice 2 i64)] → Option R68
abbrev kp68 : List (Nat × List Nat) := [(0, [1, 2, 4]), (1, [1, 2, 5, 4]), (2, [13, 2, 5, 11, 4, 12]), (3, [14, 5, 13, 2, 11, 4, 12]), (4, [5, 7, 13, 2, 11, 4, 12]), (5, [13, 2, 5, 11, 4, 12]), (6, [13, 2, 5, 11, 4, 12]), (7, [8, 4]), (8, [4])]
abbrev ct68 (g107 : G107) : CTab := [(107, ⟨[.v i64, .v i64, .v (.slice 67 mat)], [(.pair i64 (.pair i64 (.pair (.slice 67 mat) .unit))), .bool], true, false, 0, g107⟩)]
abbrev kr68 : Env → Option R68 := endK TT [.cell 4 31] [(.pair i64 (.pair i64 (.pair (.slice 67 mat) .unit)))] true false
abbrev sh68_3 : Shape := [(2, .box false [.fz i64 0 false, .fz i64 0 false, .fz (.slice 67 mat) 0 true]), (4, .box false [.fz i64 0 false, .fz i64 0 false, .rt 67 mat 67 false true true]), (5, vr 67 mat 81 false), (11, .val false [.fz (.slice 2 i64) 0 true]), (12, vv i64), (13, vv i64)]
def st68_3 (g107 : G107) (F : Nat) (s : ShVal sh68_3) (k kx : ShVal sh68_3 → Option R68) : Option R68 :=
  match s with
  | ((t2_0, t2_1, t2_2, _), (t4_0, t4_1, t4_2, _), (t5, _), (t11, _), (t12, _), (t13, _), _) => (bif decide (t13 < t12) then (bif ib t13 (Int.ofNat (List.length t11)) then (bif ib (List.getD t11 (tn t13) (0 : Int)) (Int.ofNat (List.length t2_2)) then (bif (growOk (List.length t5) (List.length ((List.getD t2_2 (tn (List.getD t11 (tn t13) (0 : Int))) (Ty.dflt (.arr 3 (.arr 3 (.int .u8))))) :: []))) then k ((t2_0, (t2_1, (t2_2, ()))), ((t4_0, (t4_1, (t4_2, ()))), (((t5 ++ ((List.getD t2_2 (tn (List.getD t11 (tn t13) (0 : Int))) (Ty.dflt (.arr 3 (.arr 3 (.int .u8))))) :: [])), ()), ((t11, ()), ((t12, ()), (((w6 (t13 + (1 : Int))), ()), ())))))) else none) else none) else none) else kx ((t2_0, (t2_1, (t2_2, ()))), ((t4_0, (t4_1, (t4_2, ()))), ((t5, ()), ((t11, ()), ((t12, ()), ((t13, ()), ())))))))
def ru68_3 (g107 : G107) (F : Nat) (s : ShVal sh68_3) (kx : ShVal sh68_3 → Option R68) : Option R68 := iter (fun s k => st68_3 g107 F s k kx) F s
abbrev ls68_3 (g107 : G107) (F : Nat) : LS R68 := ⟨sh68_3, 0, ru68_3 g107 F⟩
def fn68 (g107 : G107) (F : Nat) (x : Args [.v (.pair i64 (.pair i64 (.pair (.slice 67 mat) .unit))), .v (.slice 2 i64)]) : Option R68 :=
  match x with
  | (x0, x1, _) => (bif decide ((List.length x1) ≤ 9223372036854775807) then (ru68_3 g107 F ((x0.1, (x0.2.1, (x0.2.2.1, ()))), (((Ty.dflt (.pair (.int .i64) (.pair (.int .i64) (.pair (.slice 67 (.arr 3 (.arr 3 (.int .u8)))) .unit)))).1, ((Ty.dflt (.pair (.int .i64) (.pair (.int .i64) (.pair (.slice 67 (.arr 3 (.arr 3 (.int .u8)))) .unit)))).2.1, ((Ty.dflt (.pair (.int .i64) (.pair (.int .i64) (.pair (.slice 67 (.arr 3 (.arr 3 (.int .u8)))) .unit)))).2.2.1, ()))), (([], ()), ((x1, ()), (((Int.ofNat (List.length x1)), ()), (((0 : Int), ()), ())))))) (fun s' => match s' with | ((t2_0, t2_1, t2_2, _), (t4_0, t4_1, t4_2, _), (t5, _), (t11, _), (t12, _), (t13, _), _) => (match (g107 (t2_0, (t2_1, (t5, ())))) with | some r17 => (some ((r17.1.1, (r17.1.2.1, (r17.1.2.2.1, ()))), ())) | none => none))) else none)
theorem ev68_3 (g107 : G107) (F : Nat) (s : ShVal sh68_3) (k kx : ShVal sh68_3 → Option R68) : evL TT (ct68 g107 ) kp68 [] (loopOf Try.f68 3) (envOf sh68_3 s) (fitK sh68_3 k) (fun j e => bif Nat.beq j 0 then fitK sh68_3 kx e else none) kr68 = st68_3 g107 F s k kx := by
  obtain ⟨⟨t2_0, t2_1, t2_2, _⟩, ⟨t4_0, t4_1, t4_2, _⟩, ⟨t5, _⟩, ⟨t11, _⟩, ⟨t12, _⟩, ⟨t13, _⟩, _⟩ := s
  kernel_rfl
theorem ok68_3 (g107 : G107) (F : Nat) (hK : KOK Try.prog (ct68 g107 )) : LSOK Try.prog ⟨36, false, undef⟩ (ls68_3 g107 F) (loopOf Try.f68 3) kr68 :=
  loop_ok (st68_3 g107 F) mixed tt_ok hK (by kernel_rfl) (LTOK_by (l := []) (by kernel_rfl) trivial) (ev68_3 g107 F)
theorem ev68 (g107 : G107) (F : Nat) (x : Args [.v (.pair i64 (.pair i64 (.pair (.slice 67 mat) .unit))), .v (.slice 2 i64)]) : fnK TT (ct68 g107 ) kp68 [(.pair i64 (.pair i64 (.pair (.slice 67 mat) .unit)))] [(3, ls68_3 g107 F)] (bodyOf Try.f68) [.cell 4 31] [.v (.pair i64 (.pair i64 (.pair (.slice 67 mat) .unit))), .v (.slice 2 i64)] true false x = fn68 g107 F x := by
  obtain ⟨x0, x1, _⟩ := x
  kernel_rfl
theorem ok68 (g107 : G107) (hK : KOK Try.prog (ct68 g107 )) (cf : G68) (h : ∀ x y, cf x = some y → ∃ F, fn68 g107 F x = some y) : KOne Try.prog 68 ⟨[.v (.pair i64 (.pair i64 (.pair (.slice 67 mat) .unit))), .v (.slice 2 i64)], [(.pair i64 (.pair i64 (.pair (.slice 67 mat) .unit)))], true, false, 0, cf⟩ :=
  fn_one rfl (c := bodyOf Try.f68) mixed tt_ok hK Try.func68 (by kernel_rfl) (by kernel_rfl) (Nat.le_of_ble_eq_true (by kernel_rfl)) (by decide) fun x y hxy => by
    obtain ⟨F, hF⟩ := h x y hxy
    exact ⟨[(3, ls68_3 g107 F)], LTOK_by (l := [loopOf Try.f68 3]) (by kernel_rfl) ⟨ls_at (by kernel_rfl) (ok68_3 g107 F hK), trivial⟩, (ev68 g107 F x).trans hF⟩
abbrev R67 : Type := Ress [(.pair i64 (.pair i64 (.pair (.slice 67 mat) .unit)))]
abbrev G67 : Type := Args [.v (.pair i64 (.pair i64 (.pair (.slice 67 mat) .unit)))] → Option R67
abbrev kp67 : List (Nat × List Nat) := [(0, [1, 2]), (1, [3, 1, 4, 2]), (2, [5, 3, 1, 4, 2]), (3, [14, 4, 5, 3, 1, 2]), (5, [5, 3, 1, 4, 2]), (4, [5, 3, 1, 4, 2]), (6, [6, 2]), (7, [2])]
abbrev ct67 (g64 : G64) (g106 : G106) : CTab := [(64, ⟨[.v (.pair i64 (.pair i64 (.pair (.slice 67 mat) .unit)))], [(.slice 2 i64)], true, false, 0, g64⟩), (106, ⟨[.v i64, .v i64, .v (.slice 67 mat)], [(.pair i64 (.pair i64 (.pair (.slice 67 mat) .unit))), .bool], true, false, 0, g106⟩)]
abbrev kr67 : Env → Option R67 := endK TT [.cell 2 31] [(.pair i64 (.pair i64 (.pair (.slice 67 mat) .unit)))] true false
abbrev sh67_3 : Shape := [(1, .box false [.fz i64 0 false, .fz i64 0 false, .fz (.slice 67 mat) 0 true]), (2, .box false [.fz i64 0 false, .fz i64 0 false, .rt 67 mat 35 false true true]), (3, vr 2 i64 49 false), (4, vr 67 mat 65 false), (5, vv i64)]
def st67_3 (g64 : G64) (g106 : G106) (F : Nat) (s : ShVal sh67_3) (k kx : ShVal sh67_3 → Option R67) : Option R67 :=
  match s with
  | ((t1_0, t1_1, t1_2, _), (t2_0, t2_1, t2_2, _), (t3, _), (t4, _), (t5, _), _) => (bif decide ((List.length t3) ≤ 9223372036854775807) then (bif decide (t5 < (Int.ofNat (List.length t3))) then (bif ib t5 (Int.ofNat (List.length t3)) then (bif ib (List.getD t3 (tn t5) (0 : Int)) (Int.ofNat (List.length t1_2)) then (bif (growOk (List.length t4) (List.length ((List.getD t1_2 (tn (List.getD t3 (tn t5) (0 : Int))) (Ty.dflt (.arr 3 (.arr 3 (.int .u8))))) :: []))) then k ((t1_0, (t1_1, (t1_2, ()))), ((t2_0, (t2_1, (t2_2, ()))), ((t3, ()), (((t4 ++ ((List.getD t1_2 (tn (List.getD t3 (tn t5) (0 : Int))) (Ty.dflt (.arr 3 (.arr 3 (.int .u8))))) :: [])), ()), (((w6 (t5 + (1 : Int))), ()), ()))))) else none) else none) else none) else kx ((t1_0, (t1_1, (t1_2, ()))), ((t2_0, (t2_1, (t2_2, ()))), ((t3, ()), ((t4, ()), ((t5, ()), ())))))) else none)
def ru67_3 (g64 : G64) (g106 : G106) (F : Nat) (s : ShVal sh67_3) (kx : ShVal sh67_3 → Option R67) : Option R67 := iter (fun s k => st67_3 g64 g106 F s k kx) F s
abbrev ls67_3 (g64 : G64) (g106 : G106) (F : Nat) : LS R67 := ⟨sh67_3, 0, ru67_3 g64 g106 F⟩
def fn67 (g64 : G64) (g106 : G106) (F : Nat) (x : Args [.v (.pair i64 (.pair i64 (.pair (.slice 67 mat) .unit)))]) : Option R67 :=
  match x with
  | (x0, _) => (match (g64 ((x0.1, (x0.2.1, (x0.2.2.1, ()))), ())) with | some r5 => (ru67_3 g64 g106 F ((x0.1, (x0.2.1, (x0.2.2.1, ()))), (((Ty.dflt (.pair (.int .i64) (.pair (.int .i64) (.pair (.slice 67 (.arr 3 (.arr 3 (.int .u8)))) .unit)))).1, ((Ty.dflt (.pair (.int .i64) (.pair (.int .i64) (.pair (.slice 67 (.arr 3 (.arr 3 (.int .u8)))) .unit)))).2.1, ((Ty.dflt (.pair (.int .i64) (.pair (.int .i64) (.pair (.slice 67 (.arr 3 (.arr 3 (.int .u8)))) .unit)))).2.2.1, ()))), ((r5.1, ()), (([], ()), (((0 : Int), ()), ()))))) (fun s' => match s' with | ((t1_0, t1_1, t1_2, _), (t2_0, t2_1, t2_2, _), (t3, _), (t4, _), (t5, _), _) => (match (g106 (t1_0, (t1_1, (t4, ())))) with | some r17 => (some ((r17.1.1, (r17.1.2.1, (r17.1.2.2.1, ()))), ())) | none => none))) | none => none)
theorem ev67_3 (g64 : G64) (g106 : G106) (F : Nat) (s : ShVal sh67_3) (k kx : ShVal sh67_3 → Option R67) : evL TT (ct67 g64 g106 ) kp67 [] (loopOf Try.f67 3) (envOf sh67_3 s) (fitK sh67_3 k) (fun j e => bif Nat.beq j 0 then fitK sh67_3 kx e else none) kr67 = st67_3 g64 g106 F s k kx := by
  obtain ⟨⟨t1_0, t1_1, t1_2, _⟩, ⟨t2_0, t2_1, t2_2, _⟩, ⟨t3, _⟩, ⟨t4, _⟩, ⟨t5, _⟩, _⟩ := s
  kernel_rfl
theorem ok67_3 (g64 : G64) (g106 : G106) (F : Nat) (hK : KOK Try.prog (ct67 g64 g106 )) : LSOK Try.prog ⟨38, false, undef⟩ (ls67_3 g64 g106 F) (loopOf Try.f67 3) kr67 :=
  loop_ok (st67_3 g64 g106 F) mixed tt_ok hK (by kernel_rfl) (LTOK_by (l := []) (by kernel_rfl) trivial) (ev67_3 g64 g106 F)
theorem ev67 (g64 : G64) (g106 : G106) (F : Nat) (x : Args [.v (.pair i64 (.pair i64 (.pair (.slice 67 mat) .unit)))]) : fnK TT (ct67 g64 g106 ) kp67 [(.pair i64 (.pair i64 (.pair (.slice 67 mat) .unit)))] [(3, ls67_3 g64 g106 F)] (bodyOf Try.f67) [.cell 2 31] [.v (.pair i64 (.pair i64 (.pair (.slice 67 mat) .unit)))] true false x = fn67 g64 g106 F x := by
  obtain ⟨x0, _⟩ := x
  kernel_rfl
theorem ok67 (g64 : G64) (g106 : G106) (hK : KOK Try.prog (ct67 g64 g106 )) (cf : G67) (h : ∀ x y, cf x = some y → ∃ F, fn67 g64 g106 F x = some y) : KOne Try.prog 67 ⟨[.v (.pair i64 (.pair i64 (.pair (.slice 67 mat) .unit)))], [(.pair i64 (.pair i64 (.pair (.slice 67 mat) .unit)))], true, false, 0, cf⟩ :=
  fn_one rfl (c := bodyOf Try.f67) mixed tt_ok hK Try.func67 (by kernel_rfl) (by kernel_rfl) (Nat.le_of_ble_eq_true (by kernel_rfl)) (by decide) fun x y hxy => by
    obtain ⟨F, hF⟩ := h x y hxy
    exact ⟨[(3, ls67_3 g64 g106 F)], LTOK_by (l := [loopOf Try.f67 3]) (by kernel_rfl) ⟨ls_at (by kernel_rfl) (ok67_3 g64 g106 F hK), trivial⟩, (ev67 g64 g106 F x).trans hF⟩
abbrev R32 : Type := Ress [.bool, i64]
abbrev G32 : Type := Args [.v (.pair i64 (.pair i64 (.pair (.slice 67 mat) .unit)))] → Option R32
abbrev kp32 : List (Nat × List Nat) := [(0, [1]), (1, [6, 1]), (2, [3, 2]), (3, [3, 2])]
abbrev ct32 (g38 : G38) (g67 : G67) : CTab := [(38, ⟨[.v (.pair i64 (.pair i64 (.pair (.slice 67 mat) .unit)))], [.bool], false, false, 0, g38⟩), (67, ⟨[.v (.pair i64 (.pair i64 (.pair (.slice 67 mat) .unit)))], [(.pair i64 (.pair i64 (.pair (.slice 67 mat) .unit)))], true, false, 0, g67⟩)]
def fn32 (g38 : G38) (g67 : G67) (F : Nat) (x : Args [.v (.pair i64 (.pair i64 (.pair (.slice 67 mat) .unit)))]) : Option R32 :=
  match x with
  | (x0, _) => (match (g38 ((x0.1, (x0.2.1, (x0.2.2.1, ()))), ())) with | some r5 => (bif (!r5.1) then (some (false, ((1 : Int), ()))) else (match (g67 ((x0.1, (x0.2.1, (x0.2.2.1, ()))), ())) with | some r7 => (bif decide ((List.length r7.1.2.2.1) ≤ 9223372036854775807) then (bif decide ((List.length x0.2.2.1) ≤ 9223372036854775807) then (some (decide ((Int.ofNat (List.length r7.1.2.2.1)) = (Int.ofNat (List.length x0.2.2.1))), ((0 : Int), ()))) else none) else none) | none => none)) | none => none)
theorem ev32 (g38 : G38) (g67 : G67) (F : Nat) (x : Args [.v (.pair i64 (.pair i64 (.pair (.slice 67 mat) .unit)))]) : fnK TT (ct32 g38 g67 ) kp32 [.bool, i64] [] (bodyOf Try.f32) [.tmp 2, .tmp 3] [.v (.pair i64 (.pair i64 (.pair (.slice 67 mat) .unit)))] false false x = fn32 g38 g67 F x := by
  obtain ⟨x0, _⟩ := x
  kernel_rfl
theorem ok32 (g38 : G38) (g67 : G67) (hK : KOK Try.prog (ct32 g38 g67 )) (cf : G32) (h : ∀ x y, cf x = some y → ∃ F, fn32 g38 g67 F x = some y) : KOne Try.prog 32 ⟨[.v (.pair i64 (.pair i64 (.pair (.slice 67 mat) .unit)))], [.bool, i64], false, false, 0, cf⟩ :=
  fn_one rfl (c := bodyOf Try.f32) mixed tt_ok hK Try.func32 (by kernel_rfl) (by kernel_rfl) (Nat.le_of_ble_eq_true (by kernel_rfl)) (by decide) fun x y hxy => by
    obtain ⟨F, hF⟩ := h x y hxy
    exact ⟨[], LTOK_by (l := []) (by kernel_rfl) trivial, (ev32 g38 g67 F x).trans hF⟩
abbrev R33 : Type := Ress [.bool, i64]
abbrev G33 : Type := Args [.v (.pair i64 (.pair i64 (.pair (.slice 67 mat) .unit)))] → Option R33
abbrev kp33 : List (Nat × List Nat) := [(0, [1]), (1, [6, 1]), (2, [3, 2]), (3, [3, 2])]
abbrev ct33 (g65 : G65) (g68 : G68) (g66 : G66) : CTab := [(65, ⟨[.v (.pair i64 (.pair i64 (.pair (.slice 67 mat) .unit)))], [.bool], false, false, 0, g65⟩), (68, ⟨[.v (.pair i64 (.pair i64 (.pair (.slice 67 mat) .unit))), .v (.slice 2 i64)], [(.pair i64 (.pair i64 (.pair (.slice 67 mat) .unit)))], true, false, 0, g68⟩), (66, ⟨[.v (.pair i64 (.pair i64 (.pair (.slice 67 mat) .unit)))], [(.slice 2 i64)], true, false, 0, g66⟩)]
def fn33 (g65 : G65) (g68 : G68) (g66 : G66) (F : Nat) (x : Args [.v (.pair i64 (.pair i64 (.pair (.slice 67 mat) .unit)))]) : Option R33 :=
  match x with
  | (x0, _) => (match (g65 ((x0.1, (x0.2.1, (x0.2.2.1, ()))), ())) with | some r6 => (bif (!r6.1) then (some (false, ((1 : Int), ()))) else (match (g66 ((x0.1, (x0.2.1, (x0.2.2.1, ()))), ())) with | some r8 => (match (g68 ((x0.1, (x0.2.1, (x0.2.2.1, ()))), (r8.1, ()))) with | some r9 => (bif decide ((List.length r9.1.2.2.1) ≤ 9223372036854775807) then (bif decide ((List.length x0.2.2.1) ≤ 9223372036854775807) then (some (decide ((Int.ofNat (List.length r9.1.2.2.1)) = (Int.ofNat (List.length x0.2.2.1))), ((0 : Int), ()))) else none) else none) | none => none) | none => none)) | none => none)
theorem ev33 (g65 : G65) (g68 : G68) (g66 : G66) (F : Nat) (x : Args [.v (.pair i64 (.pair i64 (.pair (.slice 67 mat) .unit)))]) : fnK TT (ct33 g65 g68 g66 ) kp33 [.bool, i64] [] (bodyOf Try.f33) [.tmp 2, .tmp 3] [.v (.pair i64 (.pair i64 (.pair (.slice 67 mat) .unit)))] false false x = fn33 g65 g68 g66 F x := by
  obtain ⟨x0, _⟩ := x
  kernel_rfl
theorem ok33 (g65 : G65) (g68 : G68) (g66 : G66) (hK : KOK Try.prog (ct33 g65 g68 g66 )) (cf : G33) (h : ∀ x y, cf x = some y → ∃ F, fn33 g65 g68 g66 F x = some y) : KOne Try.prog 33 ⟨[.v (.pair i64 (.pair i64 (.pair (.slice 67 mat) .unit)))], [.bool, i64], false, false, 0, cf⟩ :=
  fn_one rfl (c := bodyOf Try.f33) mixed tt_ok hK Try.func33 (by kernel_rfl) (by kernel_rfl) (Nat.le_of_ble_eq_true (by kernel_rfl)) (by decide) fun x y hxy => by
    obtain ⟨F, hF⟩ := h x y hxy
    exact ⟨[], LTOK_by (l := []) (by kernel_rfl) trivial, (ev33 g65 g68 g66 F x).trans hF⟩
end Go.Proofs.YtmdpmnjnpnjppaaEv
