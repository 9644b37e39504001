/- The program's operations on plain typed data, that the machine does the same, what the functions come to, and what they give (part 6). No condition. -/
import Derived.Test.YtkoifikjfnbcpaaEA55
set_option linter.unusedVariables false
set_option linter.unusedSimpArgs false
namespace Go.Proofs.YtkoifikjfnbcpaaEv
open Go Go.RowKit
abbrev R141 : Type := Ress [mat]
abbrev G141 : Type := Args [.v i64] → Option R141
abbrev kp141 : List (Nat × List Nat) := [(0, [2, 0]), (1, [3, 2, 0]), (2, [4, 3, 2, 0]), (3, [8, 4, 3, 2, 0]), (5, [4, 3, 2, 0]), (4, [4, 3, 2, 0]), (6, [2])]
abbrev ct141 : CTab := []
abbrev kr141 : Env → Option R141 := endK TT [.cell 2 27] [mat] false false
abbrev sh141_3 : Shape := [(0, vv i64), (2, bb mat), (3, bb mat), (4, vv i64)]
def st141_3 (F : Nat) (s : ShVal sh141_3) (k kx : ShVal sh141_3 → Option R141) : Option R141 :=
  match s with
  | ((t0, _), (t2, _), (t3, _), (t4, _), _) => (bif decide (t4 < t0) then (bif ib t4 (Int.ofNat 3) then (bif ib t4 (Int.ofNat 3) then k ((t0, ()), ((t2, ()), (((tset (tset (1 : Int) 3 (tget (Ty.dflt (.arr 3 (.int .u8))) 3 t3 (tn t4)) (tn t4)) 3 t3 (tn t4)), ()), (((w6 (t4 + (1 : Int))), ()), ())))) else none) else none) else kx ((t0, ()), ((t2, ()), ((t3, ()), ((t4, ()), ())))))
def ru141_3 (F : Nat) (s : ShVal sh141_3) (kx : ShVal sh141_3 → Option R141) : Option R141 := iter (fun s k => st141_3 F s k kx) F s
abbrev ls141_3 (F : Nat) : LS R141 := ⟨sh141_3, 0, ru141_3 F⟩
def fn141 (F : Nat) (x : Args [.v i64]) : Option R141 :=
  match x with
  | (x0, _) => (ru141_3 F ((x0, ()), (((Ty.dflt (.arr 3 (.arr 3 (.int .u8)))), ()), (((tup (Prod Int (Prod Int (Prod Int Unit))) (Ty.dflt (.arr 3 (.int .u8))) 3), ()), (((0 : Int), ()), ())))) (fun s' => match s' with | ((t0, _), (t2, _), (t3, _), (t4, _), _) => (some (t3, ()))))
theorem ev141_3 (F : Nat) (s : ShVal sh141_3) (k kx : ShVal sh141_3 → Option R141) : evL TT (ct141 ) kp141 [] (loopOf Try.f141 3) (envOf sh141_3 s) (fitK sh141_3 k) (fun j e => bif Nat.beq j 0 then fitK sh141_3 kx e else none) kr141 = st141_3 F s k kx := by
  obtain ⟨⟨t0, _⟩, ⟨t2, _⟩, ⟨t3, _⟩, ⟨t4, _⟩, _⟩ := s
  kernel_rfl
theorem ok141_3 (F : Nat) (hK : KOK Try.prog (ct141 )) : LSOK Try.prog ⟨16, false, undef⟩ (ls141_3 F) (loopOf Try.f141 3) kr141 :=
  loop_ok (st141_3 F) mixed tt_ok hK (by kernel_rfl) (LTOK_by (l := []) (by kernel_rfl) trivial) (ev141_3 F)
theorem ev141 (F : Nat) (x : Args [.v i64]) : fnK TT (ct141 ) kp141 [mat] [(3, ls141_3 F)] (bodyOf Try.f141) [.cell 2 27] [.v i64] false false x = fn141 F x := by
  obtain ⟨x0, _⟩ := x
  kernel_rfl
theorem ok141 (hK : KOK Try.prog (ct141 )) (cf : G141) (h : ∀ x y, cf x = some y → ∃ F, fn141 F x = some y) : KOne Try.prog 141 ⟨[.v i64], [mat], false, false, 0, cf⟩ :=
  fn_one rfl (c := bodyOf Try.f141) mixed tt_ok hK Try.func141 (by kernel_rfl) (by kernel_rfl) (Nat.le_of_ble_eq_true (by kernel_rfl)) (by decide) fun x y hxy => by
    obtain ⟨F, hF⟩ := h x y hxy
    exact ⟨[(3, ls141_3 F)], LTOK_by (l := [loopOf Try.f141 3]) (by kernel_rfl) ⟨ls_at (by kernel_rfl) (ok141_3 F hK), trivial⟩, (ev141 F x).trans hF⟩
abbrev R140 : Type := Ress [mat]
abbrev G140 : Type := Args [.v i64, .v i64, .v mat, .v mat] → Option R140
abbrev kp140 : List (Nat × List Nat) := [(0, [7, 6, 0, 1, 8]), (1, [7, 6, 0, 9, 1, 8]), (2, [7, 6, 10, 0, 9, 1, 8]), (3, [17, 1, 9, 0, 10, 6, 7, 8]), (5, [1, 9, 0, 10, 6, 11, 7, 8]), (6, [22, 7, 11, 6, 10, 1, 9, 0, 8]), (8, [7, 11, 6, 10, 12, 1, 9, 0, 8]), (9, [13, 7, 11, 6, 10, 12, 1, 9, 0, 8]), (10, [27, 12, 13, 7, 11, 6, 10, 1, 9, 0, 8]), (12, [13, 7, 11, 6, 10, 12, 1, 9, 0, 8]), (11, [13, 7, 11, 6, 10, 12, 1, 9, 0, 8]), (13, [11, 1, 9, 0, 10, 6, 7, 8]), (7, [1, 9, 0, 10, 6, 11, 7, 8]), (4, [7, 6, 10, 0, 9, 1, 8]), (14, [8])]
abbrev ct140 : CTab := []
abbrev kr140 : Env → Option R140 := endK TT [.cell 8 27] [mat] false false
abbrev sh140_10 : Shape := [(0, vv i64), (1, vv i64), (6, bb mat), (7, bb mat), (8, bb mat), (9, bb mat), (10, vv i64), (11, vv i64), (12, vv i64), (13, vv i64)]
def st140_10 (F : Nat) (s : ShVal sh140_10) (k kx : ShVal sh140_10 → Option R140) : Option R140 :=
  match s with
  | ((t0, _), (t1, _), (t6, _), (t7, _), (t8, _), (t9, _), (t10, _), (t11, _), (t12, _), (t13, _), _) => (bif decide (t13 < t1) then (bif ib t10 (Int.ofNat 3) then (bif ib t13 (Int.ofNat 3) then (bif ib t13 (Int.ofNat 3) then (bif ib t11 (Int.ofNat 3) then k ((t0, ()), ((t1, ()), ((t6, ()), ((t7, ()), ((t8, ()), ((t9, ()), ((t10, ()), ((t11, ()), (((w6 (t12 + (w6 ((w6 (tget (0 : Int) 3 (tget (Ty.dflt (.arr 3 (.int .u8))) 3 t6 (tn t10)) (tn t13))) * (w6 (tget (0 : Int) 3 (tget (Ty.dflt (.arr 3 (.int .u8))) 3 t7 (tn t13)) (tn t11))))))), ()), (((w6 (t13 + (1 : Int))), ()), ())))))))))) else none) else none) else none) else none) else kx ((t0, ()), ((t1, ()), ((t6, ()), ((t7, ()), ((t8, ()), ((t9, ()), ((t10, ()), ((t11, ()), ((t12, ()), ((t13, ()), ())))))))))))
def ru140_10 (F : Nat) (s : ShVal sh140_10) (kx : ShVal sh140_10 → Option R140) : Option R140 := iter (fun s k => st140_10 F s k kx) F s
abbrev ls140_10 (F : Nat) : LS R140 := ⟨sh140_10, 4, ru140_10 F⟩
abbrev sh140_6 : Shape := [(0, vv i64), (1, vv i64), (6, bb mat), (7, bb mat), (8, bb mat), (9, bb mat), (10, vv i64), (11, vv i64)]
def st140_6 (F : Nat) (s : ShVal sh140_6) (k kx : ShVal sh140_6 → Option R140) : Option R140 :=
  match s with
  | ((t0, _), (t1, _), (t6, _), (t7, _), (t8, _), (t9, _), (t10, _), (t11, _), _) => (bif decide (t11 < t1) then (ru140_10 F ((t0, ()), ((t1, ()), ((t6, ()), ((t7, ()), ((t8, ()), ((t9, ()), ((t10, ()), ((t11, ()), (((0 : Int), ()), (((0 : Int), ()), ())))))))))) (fun s' => match s' with | ((t0, _), (t1, _), (t6, _), (t7, _), (t8, _), (t9, _), (t10, _), (t11, _), (t12, _), (t13, _), _) => (bif (!decide (t0 = (0 : Int))) then (bif ib t10 (Int.ofNat 3) then (bif ib t11 (Int.ofNat 3) then k ((t0, ()), ((t1, ()), ((t6, ()), ((t7, ()), ((t8, ()), (((tset (tset (w8 (Int.tmod t12 t0)) 3 (tget (Ty.dflt (.arr 3 (.int .u8))) 3 t9 (tn t10)) (tn t11)) 3 t9 (tn t10)), ()), ((t10, ()), (((w6 (t11 + (1 : Int))), ()), ())))))))) else none) else none) else none))) else kx ((t0, ()), ((t1, ()), ((t6, ()), ((t7, ()), ((t8, ()), ((t9, ()), ((t10, ()), ((t11, ()), ())))))))))
def ru140_6 (F : Nat) (s : ShVal sh140_6) (kx : ShVal sh140_6 → Option R140) : Option R140 := iter (fun s k => st140_6 F s k kx) F s
abbrev ls140_6 (F : Nat) : LS R140 := ⟨sh140_6, 2, ru140_6 F⟩
abbrev sh140_3 : Shape := [(0, vv i64), (1, vv i64), (6, bb mat), (7, bb mat), (8, bb mat), (9, bb mat), (10, vv i64)]
def st140_3 (F : Nat) (s : ShVal sh140_3) (k kx : ShVal sh140_3 → Option R140) : Option R140 :=
  match s with
  | ((t0, _), (t1, _), (t6, _), (t7, _), (t8, _), (t9, _), (t10, _), _) => (bif decide (t10 < t1) then (ru140_6 F ((t0, ()), ((t1, ()), ((t6, ()), ((t7, ()), ((t8, ()), ((t9, ()), ((t10, ()), (((0 : Int), ()), ())))))))) (fun s' => match s' with | ((t0, _), (t1, _), (t6, _), (t7, _), (t8, _), (t9, _), (t10, _), (t11, _), _) => k ((t0, ()), ((t1, ()), ((t6, ()), ((t7, ()), ((t8, ()), ((t9, ()), (((w6 (t10 + (1 : Int))), ()), ()))))))))) else kx ((t0, ()), ((t1, ()), ((t6, ()), ((t7, ()), ((t8, ()), ((t9, ()), ((t10, ()), ()))))))))
def ru140_3 (F : Nat) (s : ShVal sh140_3) (kx : ShVal sh140_3 → Option R140) : Option R140 := iter (fun s k => st140_3 F s k kx) F s
abbrev ls140_3 (F : Nat) : LS R140 := ⟨sh140_3, 0, ru140_3 F⟩
def fn140 (F : Nat) (x : Args [.v i64, .v i64, .v mat, .v mat]) : Option R140 :=
  match x with
  | (x0, x1, x2, x3, _) => (ru140_3 F ((x0, ()), ((x1, ()), ((x2, ()), ((x3, ()), (((Ty.dflt (.arr 3 (.arr 3 (.int .u8)))), ()), (((tup (Prod Int (Prod Int (Prod Int Unit))) (Ty.dflt (.arr 3 (.int .u8))) 3), ()), (((0 : Int), ()), ()))))))) (fun s' => match s' with | ((t0, _), (t1, _), (t6, _), (t7, _), (t8, _), (t9, _), (t10, _), _) => (some (t9, ()))))
theorem ev140_10 (F : Nat) (s : ShVal sh140_10) (k kx : ShVal sh140_10 → Option R140) : evL TT (ct140 ) kp140 [] (loopOf Try.f140 10) (envOf sh140_10 s) (fitK sh140_10 k) (fun j e => bif Nat.beq j 4 then fitK sh140_10 kx e else none) kr140 = st140_10 F s k kx := by
  obtain ⟨⟨t0, _⟩, ⟨t1, _⟩, ⟨t6, _⟩, ⟨t7, _⟩, ⟨t8, _⟩, ⟨t9, _⟩, ⟨t10, _⟩, ⟨t11, _⟩, ⟨t12, _⟩, ⟨t13, _⟩, _⟩ := s
  kernel_rfl
theorem ok140_10 (F : Nat) (hK : KOK Try.prog (ct140 )) : LSOK Try.prog ⟨54, false, undef⟩ (ls140_10 F) (loopOf Try.f140 10) kr140 :=
  loop_ok (st140_10 F) mixed tt_ok hK (by kernel_rfl) (LTOK_by (l := []) (by kernel_rfl) trivial) (ev140_10 F)
theorem ev140_6 (F : Nat) (s : ShVal sh140_6) (k kx : ShVal sh140_6 → Option R140) : evL TT (ct140 ) kp140 [(10, ls140_10 F)] (loopOf Try.f140 6) (envOf sh140_6 s) (fitK sh140_6 k) (fun j e => bif Nat.beq j 2 then fitK sh140_6 kx e else none) kr140 = st140_6 F s k kx := by
  obtain ⟨⟨t0, _⟩, ⟨t1, _⟩, ⟨t6, _⟩, ⟨t7, _⟩, ⟨t8, _⟩, ⟨t9, _⟩, ⟨t10, _⟩, ⟨t11, _⟩, _⟩ := s
  kernel_rfl
theorem ok140_6 (F : Nat) (hK : KOK Try.prog (ct140 )) : LSOK Try.prog ⟨54, false, undef⟩ (ls140_6 F) (loopOf Try.f140 6) kr140 :=
  loop_ok (st140_6 F) mixed tt_ok hK (by kernel_rfl) (LTOK_by (l := [loopOf Try.f140 10]) (by kernel_rfl) ⟨ls_at (by kernel_rfl) (ok140_10 F hK), trivial⟩) (ev140_6 F)
theorem ev140_3 (F : Nat) (s : ShVal sh140_3) (k kx : ShVal sh140_3 → Option R140) : evL TT (ct140 ) kp140 [(6, ls140_6 F)] (loopOf Try.f140 3) (envOf sh140_3 s) (fitK sh140_3 k) (fun j e => bif Nat.beq j 0 then fitK sh140_3 kx e else none) kr140 = st140_3 F s k kx := by
  obtain ⟨⟨t0, _⟩, ⟨t1, _⟩, ⟨t6, _⟩, ⟨t7, _⟩, ⟨t8, _⟩, ⟨t9, _⟩, ⟨t10, _⟩, _⟩ := s
  kernel_rfl
theorem ok140_3 (F : Nat) (hK : KOK Try.prog (ct140 )) : LSOK Try.prog ⟨54, false, undef⟩ (ls140_3 F) (loopOf Try.f140 3) kr140 :=
  loop_ok (st140_3 F) mixed tt_ok hK (by kernel_rfl) (LTOK_by (l := [loopOf Try.f140 6]) (by kernel_rfl) ⟨ls_at (by kernel_rfl) (ok140_6 F hK), trivial⟩) (ev140_3 F)
theorem ev140 (F : Nat) (x : Args [.v i64, .v i64, .v mat, .v mat]) : fnK TT (ct140 ) kp140 [mat] [(3, ls140_3 F)] (bodyOf Try.f140) [.cell 8 27] [.v i64, .v i64, .v mat, .v mat] false false x = fn140 F x := by
  obtain ⟨x0, x1, x2, x3, _⟩ := x
  kernel_rfl
theorem ok140 (hK : KOK Try.prog (ct140 )) (cf : G140) (h : ∀ x y, cf x = some y → ∃ F, fn140 F x = some y) : KOne Try.prog 140 ⟨[.v i64, .v i64, .v mat, .v mat], [mat], false, false, 0, cf⟩ :=
  fn_one rfl (c := bodyOf Try.f140) mixed tt_ok hK Try.func140 (by kernel_rfl) (by kernel_rfl) (Nat.le_of_ble_eq_true (by kernel_rfl)) (by decide) fun x y hxy => by
    obtain ⟨F, hF⟩ := h x y hxy
    exact ⟨[(3, ls140_3 F)], LTOK_by (l := [loopOf Try.f140 3]) (by kernel_rfl) ⟨ls_at (by kernel_rfl) (ok140_3 F hK), trivial⟩, (ev140 F x).trans hF⟩
abbrev R138 : Type := Ress [.bool]
abbrev G138 : Type := Args [.v mat, .v mat] → Option R138
abbrev kp138 : List (Nat × List Nat) := [(0, [2, 3]), (1, [2, 5, 3]), (2, [8, 3, 5, 2]), (4, [3, 6, 5, 2]), (5, [12, 2, 5, 6, 3]), (7, [25, 2, 5, 6, 3]), (8, [4]), (6, [3, 6, 5, 2]), (3, [2, 5, 3]), (9, [4])]
abbrev ct138 : CTab := []
abbrev kr138 : Env → Option R138 := endK TT [.tmp 4] [.bool] false false
abbrev sh138_5 : Shape := [(2, bb mat), (3, bb mat), (5, vv i64), (6, vv i64)]
def st138_5 (F : Nat) (s : ShVal sh138_5) (k kx : ShVal sh138_5 → Option R138) : Option R138 :=
  match s with
  | ((t2, _), (t3, _), (t5, _), (t6, _), _) => (bif decide (t6 < (3 : Int)) then (bif ib t5 (Int.ofNat 3) then (bif ib t6 (Int.ofNat 3) then (bif ib t5 (Int.ofNat 3) then (bif ib t6 (Int.ofNat 3) then (bif (!decide ((tget (0 : Int) 3 (tget (Ty.dflt (.arr 3 (.int .u8))) 3 t2 (tn t5)) (tn t6)) = (tget (0 : Int) 3 (tget (Ty.dflt (.arr 3 (.int .u8))) 3 t3 (tn t5)) (tn t6)))) then (bif ib t5 (Int.ofNat 3) then (bif ib t6 (Int.ofNat 3) then (bif ib t5 (Int.ofNat 3) then (bif ib t6 (Int.ofNat 3) then (some (decide ((tget (0 : Int) 3 (tget (Ty.dflt (.arr 3 (.int .u8))) 3 t2 (tn t5)) (tn t6)) < (tget (0 : Int) 3 (tget (Ty.dflt (.arr 3 (.int .u8))) 3 t3 (tn t5)) (tn t6))), ())) else none) else none) else none) else none) else k ((t2, ()), ((t3, ()), ((t5, ()), (((w6 (t6 + (1 : Int))), ()), ()))))) else none) else none) else none) else none) else kx ((t2, ()), ((t3, ()), ((t5, ()), ((t6, ()), ())))))
def ru138_5 (F : Nat) (s : ShVal sh138_5) (kx : ShVal sh138_5 → Option R138) : Option R138 := iter (fun s k => st138_5 F s k kx) F s
abbrev ls138_5 (F : Nat) : LS R138 := ⟨sh138_5, 2, ru138_5 F⟩
abbrev sh138_2 : Shape := [(2, bb mat), (3, bb mat), (5, vv i64)]
def st138_2 (F : Nat) (s : ShVal sh138_2) (k kx : ShVal sh138_2 → Option R138) : Option R138 :=
  match s with
  | ((t2, _), (t3, _), (t5, _), _) => (bif decide (t5 < (3 : Int)) then (ru138_5 F ((t2, ()), ((t3, ()), ((t5, ()), (((0 : Int), ()), ())))) (fun s' => match s' with | ((t2, _), (t3, _), (t5, _), (t6, _), _) => k ((t2, ()), ((t3, ()), (((w6 (t5 + (1 : Int))), ()), ()))))) else kx ((t2, ()), ((t3, ()), ((t5, ()), ()))))
def ru138_2 (F : Nat) (s : ShVal sh138_2) (kx : ShVal sh138_2 → Option R138) : Option R138 := iter (fun s k => st138_2 F s k kx) F s
abbrev ls138_2 (F : Nat) : LS R138 := ⟨sh138_2, 0, ru138_2 F⟩
def fn138 (F : Nat) (x : Args [.v mat, .v mat]) : Option R138 :=
  match x with
  | (x0, x1, _) => (ru138_2 F ((x0, ()), ((x1, ()), (((0 : Int), ()), ()))) (fun s' => match s' with | ((t2, _), (t3, _), (t5, _), _) => (some (false, ()))))
theorem ev138_5 (F : Nat) (s : ShVal sh138_5) (k kx : ShVal sh138_5 → Option R138) : evL TT (ct138 ) kp138 [] (loopOf Try.f138 5) (envOf sh138_5 s) (fitK sh138_5 k) (fun j e => bif Nat.beq j 2 then fitK sh138_5 kx e else none) kr138 = st138_5 F s k kx := by
  obtain ⟨⟨t2, _⟩, ⟨t3, _⟩, ⟨t5, _⟩, ⟨t6, _⟩, _⟩ := s
  kernel_rfl
theorem ok138_5 (F : Nat) (hK : KOK Try.prog (ct138 )) : LSOK Try.prog ⟨37, false, undef⟩ (ls138_5 F) (loopOf Try.f138 5) kr138 :=
  loop_ok (st138_5 F) mixed tt_ok hK (by kernel_rfl) (LTOK_by (l := []) (by kernel_rfl) trivial) (ev138_5 F)
theorem ev138_2 (F : Nat) (s : ShVal sh138_2) (k kx : ShVal sh138_2 → Option R138) : evL TT (ct138 ) kp138 [(5, ls138_5 F)] (loopOf Try.f138 2) (envOf sh138_2 s) (fitK sh138_2 k) (fun j e => bif Nat.beq j 0 then fitK sh138_2 kx e else none) kr138 = st138_2 F s k kx := by
  obtain ⟨⟨t2, _⟩, ⟨t3, _⟩, ⟨t5, _⟩, _⟩ := s
  kernel_rfl
theorem ok138_2 (F : Nat) (hK : KOK Try.prog (ct138 )) : LSOK Try.prog ⟨37, false, undef⟩ (ls138_2 F) (loopOf Try.f138 2) kr138 :=
  loop_ok (st138_2 F) mixed tt_ok hK (by kernel_rfl) (LTOK_by (l := [loopOf Try.f138 5]) (by kernel_rfl) ⟨ls_at (by kernel_rfl) (ok138_5 F hK), trivial⟩) (ev138_2 F)
theorem ev138 (F : Nat) (x : Args [.v mat, .v mat]) : fnK TT (ct138 ) kp138 [.bool] [(2, ls138_2 F)] (bodyOf Try.f138) [.tmp 4] [.v mat, .v mat] false false x = fn138 F x := by
  obtain ⟨x0, x1, _⟩ := x
  kernel_rfl
theorem ok138 (hK : KOK Try.prog (ct138 )) (cf : G138) (h : ∀ x y, cf x = some y → ∃ F, fn138 F x = some y) : KOne Try.prog 138 ⟨[.v mat, .v mat], [.bool], false, false, 0, cf⟩ :=
  fn_one rfl (c := bodyOf Try.f138) mixed tt_ok hK Try.func138 (by kernel_rfl) (by kernel_rfl) (Nat.le_of_ble_eq_true (by kernel_rfl)) (by decide) fun x y hxy => by
    obtain ⟨F, hF⟩ := h x y hxy
    exact ⟨[(2, ls138_2 F)], LTOK_by (l := [loopOf Try.f138 2]) (by kernel_rfl) ⟨ls_at (by kernel_rfl) (ok138_2 F hK), trivial⟩, (ev138 F x).trans hF⟩
abbrev R139 : Type := Ress [i64]
abbrev G139 : Type := Args [.v (.slice 27 mat), .v mat] → Option R139
abbrev kp139 : List (Nat × List Nat) := [(0, [3, 0]), (1, [5, 3, 0]), (2, [9, 0, 3, 5]), (4, [17, 0, 3, 5]), (5, [4]), (3, [5, 3, 0]), (6, [4])]
abbrev ct139 : CTab := []
abbrev kr139 : Env → Option R139 := endK TT [.tmp 4] [i64] false false
abbrev sh139_2 : Shape := [(0, .val false [.fz (.slice 27 mat) 0 true]), (3, bb mat), (5, vv i64)]
def st139_2 (F : Nat) (s : ShVal sh139_2) (k kx : ShVal sh139_2 → Option R139) : Option R139 :=
  match s with
  | ((t0, _), (t3, _), (t5, _), _) => (bif decide ((List.length t0) ≤ 9223372036854775807) then (bif decide (t5 < (Int.ofNat (List.length t0))) then (bif ib t5 (Int.ofNat (List.length t0)) then (bif (Ty.eqd (.arr 3 (.arr 3 (.int .u8))) (List.getD t0 (tn t5) (Ty.dflt (.arr 3 (.arr 3 (.int .u8))))) t3) then (some (t5, ())) else k ((t0, ()), ((t3, ()), (((w6 (t5 + (1 : Int))), ()), ())))) else none) else kx ((t0, ()), ((t3, ()), ((t5, ()), ())))) else none)
def ru139_2 (F : Nat) (s : ShVal sh139_2) (kx : ShVal sh139_2 → Option R139) : Option R139 := iter (fun s k => st139_2 F s k kx) F s
abbrev ls139_2 (F : Nat) : LS R139 := ⟨sh139_2, 0, ru139_2 F⟩
def fn139 (F : Nat) (x : Args [.v (.slice 27 mat), .v mat]) : Option R139 :=
  match x with
  | (x0, x1, _) => (ru139_2 F ((x0, ()), ((x1, ()), (((0 : Int), ()), ()))) (fun s' => match s' with | ((t0, _), (t3, _), (t5, _), _) => (some ((-(1 : Int)), ()))))
theorem ev139_2 (F : Nat) (s : ShVal sh139_2) (k kx : ShVal sh139_2 → Option R139) : evL TT (ct139 ) kp139 [] (loopOf Try.f139 2) (envOf sh139_2 s) (fitK sh139_2 k) (fun j e => bif Nat.beq j 0 then fitK sh139_2 kx e else none) kr139 = st139_2 F s k kx := by
  obtain ⟨⟨t0, _⟩, ⟨t3, _⟩, ⟨t5, _⟩, _⟩ := s
  kernel_rfl
theorem ok139_2 (F : Nat) (hK : KOK Try.prog (ct139 )) : LSOK Try.prog ⟨19, false, undef⟩ (ls139_2 F) (loopOf Try.f139 2) kr139 :=
  loop_ok (st139_2 F) mixed tt_ok hK (by kernel_rfl) (LTOK_by (l := []) (by kernel_rfl) trivial) (ev139_2 F)
theorem ev139 (F : Nat) (x : Args [.v (.slice 27 mat), .v mat]) : fnK TT (ct139 ) kp139 [i64] [(2, ls139_2 F)] (bodyOf Try.f139) [.tmp 4] [.v (.slice 27 mat), .v mat] false false x = fn139 F x := by
  obtain ⟨x0, x1, _⟩ := x
  kernel_rfl
theorem ok139 (hK : KOK Try.prog (ct139 )) (cf : G139) (h : ∀ x y, cf x = some y → ∃ F, fn139 F x = some y) : KOne Try.prog 139 ⟨[.v (.slice 27 mat), .v mat], [i64], false, false, 0, cf⟩ :=
  fn_one rfl (c := bodyOf Try.f139) mixed tt_ok hK Try.func139 (by kernel_rfl) (by kernel_rfl) (Nat.le_of_ble_eq_true (by kernel_rfl)) (by decide) fun x y hxy => by
    obtain ⟨F, hF⟩ := h x y hxy
    exact ⟨[(2, ls139_2 F)], LTOK_by (l := [loopOf Try.f139 2]) (by kernel_rfl) ⟨ls_at (by kernel_rfl) (ok139_2 F hK), trivial⟩, (ev139 F x).trans hF⟩
abbrev R72 : Type := Ress [.bool]
abbrev G72 : Type := Args [.v (.pair i64 (.pair i64 (.pair (.slice 27 mat) .unit)))] → Option R72
abbrev kp72 : List (Nat × List Nat) := [(0, [1]), (1, [27, 1]), (2, [2]), (3, [3, 1]), (4, [32, 1, 3]), (6, [64, 1, 3]), (7, [2]), (5, [3, 1]), (8, [4, 1]), (9, [69, 1, 4]), (11, [5, 1, 4]), (12, [76, 4, 1, 5]), (14, [97, 4, 1, 5]), (15, [2]), (13, [5, 1, 4]), (10, [4, 1]), (16, [2])]
abbrev ct72 (g82 : G82) (g73 : G73) (g140 : G140) (g139 : G139) (g141 : G141) (g138 : G138) (g58 : G58) : CTab := [(82, ⟨[.v i64], [.bool], false, false, 0, g82⟩), (73, ⟨[.v i64, .v i64, .v i64], [.bool], false, false, 0, g73⟩), (140, ⟨[.v i64, .v i64, .v mat, .v mat], [mat], false, false, 0, g140⟩), (139, ⟨[.v (.slice 27 mat), .v mat], [i64], false, false, 0, g139⟩), (141, ⟨[.v i64], [mat], false, false, 0, g141⟩), (138, ⟨[.v mat, .v mat], [.bool], false, false, 0, g138⟩), (58, ⟨[.v i64, .v i64, .v mat], [.bool], false, false, 0, g58⟩)]
abbrev kr72 : Env → Option R72 := endK TT [.tmp 2] [.bool] false false
abbrev sh72_4 : Shape := [(1, .box false [.fz i64 0 false, .fz i64 0 false, .fz (.slice 27 mat) 0 true]), (3, vv i64)]
def st72_4 (g82 : G82) (g73 : G73) (g140 : G140) (g139 : G139) (g141 : G141) (g138 : G138) (g58 : G58) (F : Nat) (s : ShVal sh72_4) (k kx : ShVal sh72_4 → Option R72) : Option R72 :=
  match s with
  | ((t1_0, t1_1, t1_2, _), (t3, _), _) => (bif decide ((List.length t1_2) ≤ 9223372036854775807) then (bif decide (t3 < (Int.ofNat (List.length t1_2))) then (bif ib t3 (Int.ofNat (List.length t1_2)) then (match (g58 (t1_0, (t1_1, ((List.getD t1_2 (tn t3) (Ty.dflt (.arr 3 (.arr 3 (.int .u8))))), ())))) with | some r19 => (bif (!r19.1) then (some (false, ())) else (bif decide ((0 : Int) < t3) then (bif ib (w6 (t3 - (1 : Int))) (Int.ofNat (List.length t1_2)) then (bif ib t3 (Int.ofNat (List.length t1_2)) then (match (g138 ((List.getD t1_2 (tn (w6 (t3 - (1 : Int)))) (Ty.dflt (.arr 3 (.arr 3 (.int .u8))))), ((List.getD t1_2 (tn t3) (Ty.dflt (.arr 3 (.arr 3 (.int .u8))))), ()))) with | some r20 => (bif (bif false then true else (bif true then (!r20.1) else false)) then (some (false, ())) else k ((t1_0, (t1_1, (t1_2, ()))), (((w6 (t3 + (1 : Int))), ()), ()))) | none => none) else none) else none) else (bif (bif false then true else false) then (some (false, ())) else k ((t1_0, (t1_1, (t1_2, ()))), (((w6 (t3 + (1 : Int))), ()), ()))))) | none => none) else none) else kx ((t1_0, (t1_1, (t1_2, ()))), ((t3, ()), ()))) else none)
def ru72_4 (g82 : G82) (g73 : G73) (g140 : G140) (g139 : G139) (g141 : G141) (g138 : G138) (g58 : G58) (F : Nat) (s : ShVal sh72_4) (kx : ShVal sh72_4 → Option R72) : Option R72 := iter (fun s k => st72_4 g82 g73 g140 g139 g141 g138 g58 F s k kx) F s
abbrev ls72_4 (g82 : G82) (g73 : G73) (g140 : G140) (g139 : G139) (g141 : G141) (g138 : G138) (g58 : G58) (F : Nat) : LS R72 := ⟨sh72_4, 0, ru72_4 g82 g73 g140 g139 g141 g138 g58 F⟩
abbrev sh72_12 : Shape := [(1, .box false [.fz i64 0 false, .fz i64 0 false, .fz (.slice 27 mat) 0 true]), (4, vv i64), (5, vv i64)]
def st72_12 (g82 : G82) (g73 : G73) (g140 : G140) (g139 : G139) (g141 : G141) (g138 : G138) (g58 : G58) (F : Nat) (s : ShVal sh72_12) (k kx : ShVal sh72_12 → Option R72) : Option R72 :=
  match s with
  | ((t1_0, t1_1, t1_2, _), (t4, _), (t5, _), _) => (bif decide ((List.length t1_2) ≤ 9223372036854775807) then (bif decide (t5 < (Int.ofNat (List.length t1_2))) then (bif ib t4 (Int.ofNat (List.length t1_2)) then (bif ib t5 (Int.ofNat (List.length t1_2)) then (match (g140 (t1_0, (t1_1, ((List.getD t1_2 (tn t4) (Ty.dflt (.arr 3 (.arr 3 (.int .u8))))), ((List.getD t1_2 (tn t5) (Ty.dflt (.arr 3 (.arr 3 (.int .u8))))), ()))))) with | some r31 => (match (g139 (t1_2, (r31.1, ()))) with | some r32 => (bif decide (r32.1 < (0 : Int)) then (some (false, ())) else k ((t1_0, (t1_1, (t1_2, ()))), ((t4, ()), (((w6 (t5 + (1 : Int))), ()), ())))) | none => none) | none => none) else none) else none) else kx ((t1_0, (t1_1, (t1_2, ()))), ((t4, ()), ((t5, ()), ())))) else none)
def ru72_12 (g82 : G82) (g73 : G73) (g140 : G140) (g139 : G139) (g141 : G141) (g138 : G138) (g58 : G58) (F : Nat) (s : ShVal sh72_12) (kx : ShVal sh72_12 → Option R72) : Option R72 := iter (fun s k => st72_12 g82 g73 g140 g139 g141 g138 g58 F s k kx) F s
abbrev ls72_12 (g82 : G82) (g73 : G73) (g140 : G140) (g139 : G139) (g141 : G141) (g138 : G138) (g58 : G58) (F : Nat) : LS R72 := ⟨sh72_12, 4, ru72_12 g82 g73 g140 g139 g141 g138 g58 F⟩
abbrev sh72_9 : Shape := [(1, .box false [.fz i64 0 false, .fz i64 0 false, .fz (.slice 27 mat) 0 true]), (4, vv i64)]
def st72_9 (g82 : G82) (g73 : G73) (g140 : G140) (g139 : G139) (g141 : G141) (g138 : G138) (g58 : G58) (F : Nat) (s : ShVal sh72_9) (k kx : ShVal sh72_9 → Option R72) : Option R72 :=
  match s with
  | ((t1_0, t1_1, t1_2, _), (t4, _), _) => (bif decide ((List.length t1_2) ≤ 9223372036854775807) then (bif decide (t4 < (Int.ofNat (List.length t1_2))) then (ru72_12 g82 g73 g140 g139 g141 g138 g58 F ((t1_0, (t1_1, (t1_2, ()))), ((t4, ()), (((0 : Int), ()), ()))) (fun s' => match s' with | ((t1_0, t1_1, t1_2, _), (t4, _), (t5, _), _) => k ((t1_0, (t1_1, (t1_2, ()))), (((w6 (t4 + (1 : Int))), ()), ())))) else kx ((t1_0, (t1_1, (t1_2, ()))), ((t4, ()), ()))) else none)
def ru72_9 (g82 : G82) (g73 : G73) (g140 : G140) (g139 : G139) (g141 : G141) (g138 : G138) (g58 : G58) (F : Nat) (s : ShVal sh72_9) (kx : ShVal sh72_9 → Option R72) : Option R72 := iter (fun s k => st72_9 g82 g73 g140 g139 g141 g138 g58 F s k kx) F s
abbrev ls72_9 (g82 : G82) (g73 : G73) (g140 : G140) (g139 : G139) (g141 : G141) (g138 : G138) (g58 : G58) (F : Nat) : LS R72 := ⟨sh72_9, 2, ru72_9 g82 g73 g140 g139 g141 g138 g58 F⟩
def fn72 (g82 : G82) (g73 : G73) (g140 : G140) (g139 : G139) (g141 : G141) (g138 : G138) (g58 : G58) (F : Nat) (x : Args [.v (.pair i64 (.pair i64 (.pair (.slice 27 mat) .unit)))]) : Option R72 :=
  match x with
  | (x0, _) => (match (g82 (x0.1, ())) with | some r10 => (bif (!r10.1) then (some (false, ())) else (match (g73 (x0.2.1, ((1 : Int), ((3 : Int), ())))) with | some r11 => (bif (bif false then true else (!r11.1)) then (some (false, ())) else (bif decide ((List.length x0.2.2.1) ≤ 9223372036854775807) then (bif (bif false then true else decide ((Int.ofNat (List.length x0.2.2.1)) < (1 : Int))) then (some (false, ())) else (bif decide ((List.length x0.2.2.1) ≤ 9223372036854775807) then (bif (bif false then true else decide ((48 : Int) < (Int.ofNat (List.length x0.2.2.1)))) then (some (false, ())) else (ru72_4 g82 g73 g140 g139 g141 g138 g58 F ((x0.1, (x0.2.1, (x0.2.2.1, ()))), (((0 : Int), ()), ())) (fun s' => match s' with | ((t1_0, t1_1, t1_2, _), (t3, _), _) => (ru72_9 g82 g73 g140 g139 g141 g138 g58 F ((t1_0, (t1_1, (t1_2, ()))), (((0 : Int), ()), ())) (fun s' => match s' with | ((t1_0, t1_1, t1_2, _), (t4, _), _) => (match (g141 (t1_1, ())) with | some r23 => (match (g139 (t1_2, (r23.1, ()))) with | some r24 => (some (decide ((0 : Int) ≤ r24.1), ())) | none => none) | none => none)))))) else none)) else none)) | none => none)) | none => none)
theorem ev72_4 (g82 : G82) (g73 : G73) (g140 : G140) (g139 : G139) (g141 : G141) (g138 : G138) (g58 : G58) (F : Nat) (s : ShVal sh72_4) (k kx : ShVal sh72_4 → Option R72) : evL TT (ct72 g82 g73 g140 g139 g141 g138 g58 ) kp72 [] (loopOf Try.f72 4) (envOf sh72_4 s) (fitK sh72_4 k) (fun j e => bif Nat.beq j 0 then fitK sh72_4 kx e else none) kr72 = st72_4 g82 g73 g140 g139 g141 g138 g58 F s k kx := by
  obtain ⟨⟨t1_0, t1_1, t1_2, _⟩, ⟨t3, _⟩, _⟩ := s
  kernel_rfl
theorem ok72_4 (g82 : G82) (g73 : G73) (g140 : G140) (g139 : G139) (g141 : G141) (g138 : G138) (g58 : G58) (F : Nat) (hK : KOK Try.prog (ct72 g82 g73 g140 g139 g141 g138 g58 )) : LSOK Try.prog ⟨105, false, undef⟩ (ls72_4 g82 g73 g140 g139 g141 g138 g58 F) (loopOf Try.f72 4) kr72 :=
  loop_ok (st72_4 g82 g73 g140 g139 g141 g138 g58 F) mixed tt_ok hK (by kernel_rfl) (LTOK_by (l := []) (by kernel_rfl) trivial) (ev72_4 g82 g73 g140 g139 g141 g138 g58 F)
theorem ev72_12 (g82 : G82) (g73 : G73) (g140 : G140) (g139 : G139) (g141 : G141) (g138 : G138) (g58 : G58) (F : Nat) (s : ShVal sh72_12) (k kx : ShVal sh72_12 → Option R72) : evL TT (ct72 g82 g73 g140 g139 g141 g138 g58 ) kp72 [] (loopOf Try.f72 12) (envOf sh72_12 s) (fitK sh72_12 k) (fun j e => bif Nat.beq j 4 then fitK sh72_12 kx e else none) kr72 = st72_12 g82 g73 g140 g139 g141 g138 g58 F s k kx := by
  obtain ⟨⟨t1_0, t1_1, t1_2, _⟩, ⟨t4, _⟩, ⟨t5, _⟩, _⟩ := s
  kernel_rfl
theorem ok72_12 (g82 : G82) (g73 : G73) (g140 : G140) (g139 : G139) (g141 : G141) (g138 : G138) (g58 : G58) (F : Nat) (hK : KOK Try.prog (ct72 g82 g73 g140 g139 g141 g138 g58 )) : LSOK Try.prog ⟨105, false, undef⟩ (ls72_12 g82 g73 g140 g139 g141 g138 g58 F) (loopOf Try.f72 12) kr72 :=
  loop_ok (st72_12 g82 g73 g140 g139 g141 g138 g58 F) mixed tt_ok hK (by kernel_rfl) (LTOK_by (l := []) (by kernel_rfl) trivial) (ev72_12 g82 g73 g140 g139 g141 g138 g58 F)
theorem ev72_9 (g82 : G82) (g73 : G73) (g140 : G140) (g139 : G139) (g141 : G141) (g138 : G138) (g58 : G58) (F : Nat) (s : ShVal sh72_9) (k kx : ShVal sh72_9 → Option R72) : evL TT (ct72 g82 g73 g140 g139 g141 g138 g58 ) kp72 [(12, ls72_12 g82 g73 g140 g139 g141 g138 g58 F)] (loopOf Try.f72 9) (envOf sh72_9 s) (fitK sh72_9 k) (fun j e => bif Nat.beq j 2 then fitK sh72_9 kx e else none) kr72 = st72_9 g82 g73 g140 g139 g141 g138 g58 F s k kx := by
  obtain ⟨⟨t1_0, t1_1, t1_2, _⟩, ⟨t4, _⟩, _⟩ := s
  kernel_rfl
theorem ok72_9 (g82 : G82) (g73 : G73) (g140 : G140) (g139 : G139) (g141 : G141) (g138 : G138) (g58 : G58) (F : Nat) (hK : KOK Try.prog (ct72 g82 g73 g140 g139 g141 g138 g58 )) : LSOK Try.prog ⟨105, false, undef⟩ (ls72_9 g82 g73 g140 g139 g141 g138 g58 F) (loopOf Try.f72 9) kr72 :=
  loop_ok (st72_9 g82 g73 g140 g139 g141 g138 g58 F) mixed tt_ok hK (by kernel_rfl) (LTOK_by (l := [loopOf Try.f72 12]) (by kernel_rfl) ⟨ls_at (by kernel_rfl) (ok72_12 g82 g73 g140 g139 g141 g138 g58 F hK), trivial⟩) (ev72_9 g82 g73 g140 g139 g141 g138 g58 F)
theorem ev72 (g82 : G82) (g73 : G73) (g140 : G140) (g139 : G139) (g141 : G141) (g138 : G138) (g58 : G58) (F : Nat) (x : Args [.v (.pair i64 (.pair i64 (.pair (.slice 27 mat) .unit)))]) : fnK TT (ct72 g82 g73 g140 g139 g141 g138 g58 ) kp72 [.bool] [(4, ls72_4 g82 g73 g140 g139 g141 g138 g58 F), (9, ls72_9 g82 g73 g140 g139 g141 g138 g58 F)] (bodyOf Try.f72) [.tmp 2] [.v (.pair i64 (.pair i64 (.pair (.slice 27 mat) .unit)))] false false x = fn72 g82 g73 g140 g139 g141 g138 g58 F x := by
  obtain ⟨x0, _⟩ := x
  kernel_rfl
theorem ok72 (g82 : G82) (g73 : G73) (g140 : G140) (g139 : G139) (g141 : G141) (g138 : G138) (g58 : G58) (hK : KOK Try.prog (ct72 g82 g73 g140 g139 g141 g138 g58 )) (cf : G72) (h : ∀ x y, cf x = some y → ∃ F, fn72 g82 g73 g140 g139 g141 g138 g58 F x = some y) : KOne Try.prog 72 ⟨[.v (.pair i64 (.pair i64 (.pair (.slice 27 mat) .unit)))], [.bool], false, false, 0, cf⟩ :=
  fn_one rfl (c := bodyOf Try.f72) mixed tt_ok hK Try.func72 (by kernel_rfl) (by kernel_rfl) (Nat.le_of_ble_eq_true (by kernel_rfl)) (by decide) fun x y hxy => by
    obtain ⟨F, hF⟩ := h x y hxy
    exact ⟨[(4, ls72_4 g82 g73 g140 g139 g141 g138 g58 F), (9, ls72_9 g82 g73 g140 g139 g141 g138 g58 F)], LTOK_by (l := [loopOf Try.f72 4, loopOf Try.f72 9]) (by kernel_rfl) ⟨ls_at (by kernel_rfl) (ok72_4 g82 g73 g140 g139 g141 g138 g58 F hK), ⟨ls_at (by kernel_rfl) (ok72_9 g82 g73 g140 g139 g141 g138 g58 F hK), trivial⟩⟩, (ev72 g82 g73 g140 g139 g141 g138 g58 F x).trans hF⟩
abbrev R165 : Type := Ress [mat]
abbrev G165 : Type := Args [.v i64] → Option R165
abbrev kp165 : List (Nat × List Nat) := [(0, [0, 2]), (1, [0, 3, 2]), (2, [7, 3, 2, 6]), (3, [8, 7, 3, 2, 6]), (4, [4, 7, 3, 2, 6]), (5, [7, 3, 2, 6]), (6, [7, 3, 2, 6]), (7, [2])]
abbrev ct165 : CTab := []
abbrev kr165 : Env → Option R165 := endK TT [.cell 2 27] [mat] false false
abbrev sh165_3 : Shape := [(2, bb mat), (3, bb mat), (6, vv i64), (7, vv i64)]
def st165_3 (F : Nat) (s : ShVal sh165_3) (k kx : ShVal sh165_3 → Option R165) : Option R165 :=
  match s with
  | ((t2, _), (t3, _), (t6, _), (t7, _), _) => (bif decide (t7 < t6) then (bif ib t7 (Int.ofNat 3) then (bif ib t7 (Int.ofNat 3) then k ((t2, ()), (((tset (tset (1 : Int) 3 (tget (Ty.dflt (.arr 3 (.int .u8))) 3 t3 (tn t7)) (tn t7)) 3 t3 (tn t7)), ()), ((t6, ()), (((w6 (t7 + (1 : Int))), ()), ())))) else none) else none) else kx ((t2, ()), ((t3, ()), ((t6, ()), ((t7, ()), ())))))
def ru165_3 (F : Nat) (s : ShVal sh165_3) (kx : ShVal sh165_3 → Option R165) : Option R165 := iter (fun s k => st165_3 F s k kx) F s
abbrev ls165_3 (F : Nat) : LS R165 := ⟨sh165_3, 0, ru165_3 F⟩
def fn165 (F : Nat) (x : Args [.v i64]) : Option R165 :=
  match x with
  | (x0, _) => (ru165_3 F (((Ty.dflt (.arr 3 (.arr 3 (.int .u8)))), ()), (((tup (Prod Int (Prod Int (Prod Int Unit))) (Ty.dflt (.arr 3 (.int .u8))) 3), ()), ((x0, ()), (((0 : Int), ()), ())))) (fun s' => match s' with | ((t2, _), (t3, _), (t6, _), (t7, _), _) => (some (t3, ()))))
theorem ev165_3 (F : Nat) (s : ShVal sh165_3) (k kx : ShVal sh165_3 → Option R165) : evL TT (ct165 ) kp165 [] (loopOf Try.f165 3) (envOf sh165_3 s) (fitK sh165_3 k) (fun j e => bif Nat.beq j 0 then fitK sh165_3 kx e else none) kr165 = st165_3 F s k kx := by
  obtain ⟨⟨t2, _⟩, ⟨t3, _⟩, ⟨t6, _⟩, ⟨t7, _⟩, _⟩ := s
  kernel_rfl
theorem ok165_3 (F : Nat) (hK : KOK Try.prog (ct165 )) : LSOK Try.prog ⟨16, false, undef⟩ (ls165_3 F) (loopOf Try.f165 3) kr165 :=
  loop_ok (st165_3 F) mixed tt_ok hK (by kernel_rfl) (LTOK_by (l := []) (by kernel_rfl) trivial) (ev165_3 F)
theorem ev165 (F : Nat) (x : Args [.v i64]) : fnK TT (ct165 ) kp165 [mat] [(3, ls165_3 F)] (bodyOf Try.f165) [.cell 2 27] [.v i64] false false x = fn165 F x := by
  obtain ⟨x0, _⟩ := x
  kernel_rfl
theorem ok165 (hK : KOK Try.prog (ct165 )) (cf : G165) (h : ∀ x y, cf x = some y → ∃ F, fn165 F x = some y) : KOne Try.prog 165 ⟨[.v i64], [mat], false, false, 0, cf⟩ :=
  fn_one rfl (c := bodyOf Try.f165) mixed tt_ok hK Try.func165 (by kernel_rfl) (by kernel_rfl) (Nat.le_of_ble_eq_true (by kernel_rfl)) (by decide) fun x y hxy => by
    obtain ⟨F, hF⟩ := h x y hxy
    exact ⟨[(3, ls165_3 F)], LTOK_by (l := [loopOf Try.f165 3]) (by kernel_rfl) ⟨ls_at (by kernel_rfl) (ok165_3 F hK), trivial⟩, (ev165 F x).trans hF⟩
abbrev R164 : Type := Ress [mat]
abbrev G164 : Type := Args [.v i64, .v i64, .v mat, .v mat] → Option R164
abbrev kp164 : List (Nat × List Nat) := [(0, [1, 7, 6, 0, 8]), (1, [1, 7, 6, 0, 9, 8]), (2, [16, 1, 7, 6, 0, 9, 8, 15]), (3, [17, 9, 0, 6, 7, 1, 16, 8, 15]), (4, [9, 0, 10, 6, 7, 1, 16, 8, 15]), (5, [20, 9, 0, 10, 6, 7, 1, 16, 8, 15, 19]), (6, [21, 7, 6, 10, 20, 9, 0, 1, 16, 8, 15, 19]), (7, [7, 11, 6, 10, 20, 9, 0, 1, 16, 8, 15, 19]), (8, [7, 11, 6, 10, 12, 20, 9, 0, 1, 16, 8, 15, 19]), (9, [24, 7, 11, 6, 10, 12, 20, 9, 0, 1, 16, 8, 15, 19, 23]), (10, [25, 12, 24, 7, 11, 6, 10, 20, 9, 0, 1, 16, 8, 15, 19, 23]), (11, [12, 13, 24, 7, 11, 6, 10, 20, 9, 0, 1, 16, 8, 15, 19, 23]), (12, [24, 7, 11, 6, 10, 12, 20, 9, 0, 1, 16, 8, 15, 19, 23]), (13, [24, 7, 11, 6, 10, 12, 20, 9, 0, 1, 16, 8, 15, 19, 23]), (14, [20, 9, 0, 10, 6, 7, 1, 16, 8, 15, 19]), (15, [20, 9, 0, 10, 6, 7, 1, 16, 8, 15, 19]), (16, [16, 1, 7, 6, 0, 9, 8, 15]), (17, [8])]
abbrev ct164 : CTab := []
abbrev kr164 : Env → Option R164 := endK TT [.cell 8 27] [mat] false false
abbrev sh164_10 : Shape := [(0, vv i64), (1, vv i64), (6, bb mat), (7, bb mat), (8, bb mat), (9, bb mat), (10, vv i64), (11, vv i64), (12, vv i64), (15, vv i64), (16, vv i64), (19, vv i64), (20, vv i64), (23, vv i64), (24, vv i64)]
def st164_10 (F : Nat) (s : ShVal sh164_10) (k kx : ShVal sh164_10 → Option R164) : Option R164 :=
  match s with
  | ((t0, _), (t1, _), (t6, _), (t7, _), (t8, _), (t9, _), (t10, _), (t11, _), (t12, _), (t15, _), (t16, _), (t19, _), (t20, _), (t23, _), (t24, _), _) => (bif decide (t24 < t23) then (bif ib t10 (Int.ofNat 3) then (bif ib t24 (Int.ofNat 3) then (bif ib t24 (Int.ofNat 3) then (bif ib t11 (Int.ofNat 3) then k ((t0, ()), ((t1, ()), ((t6, ()), ((t7, ()), ((t8, ()), ((t9, ()), ((t10, ()), ((t11, ()), (((w6 (t12 + (w6 ((w6 (tget (0 : Int) 3 (tget (Ty.dflt (.arr 3 (.int .u8))) 3 t6 (tn t10)) (tn t24))) * (w6 (tget (0 : Int) 3 (tget (Ty.dflt (.arr 3 (.int .u8))) 3 t7 (tn t24)) (tn t11))))))), ()), ((t15, ()), ((t16, ()), ((t19, ()), ((t20, ()), ((t23, ()), (((w6 (t24 + (1 : Int))), ()), ()))))))))))))))) else none) else none) else none) else none) else kx ((t0, ()), ((t1, ()), ((t6, ()), ((t7, ()), ((t8, ()), ((t9, ()), ((t10, ()), ((t11, ()), ((t12, ()), ((t15, ()), ((t16, ()), ((t19, ()), ((t20, ()), ((t23, ()), ((t24, ()), ()))))))))))))))))
def ru164_10 (F : Nat) (s : ShVal sh164_10) (kx : ShVal sh164_10 → Option R164) : Option R164 := iter (fun s k => st164_10 F s k kx) F s
abbrev ls164_10 (F : Nat) : LS R164 := ⟨sh164_10, 4, ru164_10 F⟩
abbrev sh164_6 : Shape := [(0, vv i64), (1, vv i64), (6, bb mat), (7, bb mat), (8, bb mat), (9, bb mat), (10, vv i64), (15, vv i64), (16, vv i64), (19, vv i64), (20, vv i64)]
def st164_6 (F : Nat) (s : ShVal sh164_6) (k kx : ShVal sh164_6 → Option R164) : Option R164 :=
  match s with
  | ((t0, _), (t1, _), (t6, _), (t7, _), (t8, _), (t9, _), (t10, _), (t15, _), (t16, _), (t19, _), (t20, _), _) => (bif decide (t20 < t19) then (ru164_10 F ((t0, ()), ((t1, ()), ((t6, ()), ((t7, ()), ((t8, ()), ((t9, ()), ((t10, ()), ((t20, ()), (((0 : Int), ()), ((t15, ()), ((t16, ()), ((t19, ()), ((t20, ()), ((t1, ()), (((0 : Int), ()), ()))))))))))))))) (fun s' => match s' with | ((t0, _), (t1, _), (t6, _), (t7, _), (t8, _), (t9, _), (t10, _), (t11, _), (t12, _), (t15, _), (t16, _), (t19, _), (t20, _), (t23, _), (t24, _), _) => (bif (!decide (t0 = (0 : Int))) then (bif ib t10 (Int.ofNat 3) then (bif ib t11 (Int.ofNat 3) then k ((t0, ()), ((t1, ()), ((t6, ()), ((t7, ()), ((t8, ()), (((tset (tset (w8 (Int.tmod t12 t0)) 3 (tget (Ty.dflt (.arr 3 (.int .u8))) 3 t9 (tn t10)) (tn t11)) 3 t9 (tn t10)), ()), ((t10, ()), ((t15, ()), ((t16, ()), ((t19, ()), (((w6 (t20 + (1 : Int))), ()), ()))))))))))) else none) else none) else none))) else kx ((t0, ()), ((t1, ()), ((t6, ()), ((t7, ()), ((t8, ()), ((t9, ()), ((t10, ()), ((t15, ()), ((t16, ()), ((t19, ()), ((t20, ()), ()))))))))))))
def ru164_6 (F : Nat) (s : ShVal sh164_6) (kx : ShVal sh164_6 → Option R164) : Option R164 := iter (fun s k => st164_6 F s k kx) F s
abbrev ls164_6 (F : Nat) : LS R164 := ⟨sh164_6, 2, ru164_6 F⟩
abbrev sh164_3 : Shape := [(0, vv i64), (1, vv i64), (6, bb mat), (7, bb mat), (8, bb mat), (9, bb mat), (15, vv i64), (16, vv i64)]
def st164_3 (F : Nat) (s : ShVal sh164_3) (k kx : ShVal sh164_3 → Option R164) : Option R164 :=
  match s with
  | ((t0, _), (t1, _), (t6, _), (t7, _), (t8, _), (t9, _), (t15, _), (t16, _), _) => (bif decide (t16 < t15) then (ru164_6 F ((t0, ()), ((t1, ()), ((t6, ()), ((t7, ()), ((t8, ()), ((t9, ()), ((t16, ()), ((t15, ()), ((t16, ()), ((t1, ()), (((0 : Int), ()), ()))))))))))) (fun s' => match s' with | ((t0, _), (t1, _), (t6, _), (t7, _), (t8, _), (t9, _), (t10, _), (t15, _), (t16, _), (t19, _), (t20, _), _) => k ((t0, ()), ((t1, ()), ((t6, ()), ((t7, ()), ((t8, ()), ((t9, ()), ((t15, ()), (((w6 (t16 + (1 : Int))), ()), ())))))))))) else kx ((t0, ()), ((t1, ()), ((t6, ()), ((t7, ()), ((t8, ()), ((t9, ()), ((t15, ()), ((t16, ()), ())))))))))
def ru164_3 (F : Nat) (s : ShVal sh164_3) (kx : ShVal sh164_3 → Option R164) : Option R164 := iter (fun s k => st164_3 F s k kx) F s
abbrev ls164_3 (F : Nat) : LS R164 := ⟨sh164_3, 0, ru164_3 F⟩
def fn164 (F : Nat) (x : Args [.v i64, .v i64, .v mat, .v mat]) : Option R164 :=
  match x with
  | (x0, x1, x2, x3, _) => (ru164_3 F ((x0, ()), ((x1, ()), ((x2, ()), ((x3, ()), (((Ty.dflt (.arr 3 (.arr 3 (.int .u8)))), ()), (((tup (Prod Int (Prod Int (Prod Int Unit))) (Ty.dflt (.arr 3 (.int .u8))) 3), ()), ((x1, ()), (((0 : Int), ()), ())))))))) (fun s' => match s' with | ((t0, _), (t1, _), (t6, _), (t7, _), (t8, _), (t9, _), (t15, _), (t16, _), _) => (some (t9, ()))))
theorem ev164_10 (F : Nat) (s : ShVal sh164_10) (k kx : ShVal sh164_10 → Option R164) : evL TT (ct164 ) kp164 [] (loopOf Try.f164 10) (envOf sh164_10 s) (fitK sh164_10 k) (fun j e => bif Nat.beq j 4 then fitK sh164_10 kx e else none) kr164 = st164_10 F s k kx := by
  obtain ⟨⟨t0, _⟩, ⟨t1, _⟩, ⟨t6, _⟩, ⟨t7, _⟩, ⟨t8, _⟩, ⟨t9, _⟩, ⟨t10, _⟩, ⟨t11, _⟩, ⟨t12, _⟩, ⟨t15, _⟩, ⟨t16, _⟩, ⟨t19, _⟩, ⟨t20, _⟩, ⟨t23, _⟩, ⟨t24, _⟩, _⟩ := s
  kernel_rfl
theorem ok164_10 (F : Nat) (hK : KOK Try.prog (ct164 )) : LSOK Try.prog ⟨54, false, undef⟩ (ls164_10 F) (loopOf Try.f164 10) kr164 :=
  loop_ok (st164_10 F) mixed tt_ok hK (by kernel_rfl) (LTOK_by (l := []) (by kernel_rfl) trivial) (ev164_10 F)
theorem ev164_6 (F : Nat) (s : ShVal sh164_6) (k kx : ShVal sh164_6 → Option R164) : evL TT (ct164 ) kp164 [(10, ls164_10 F)] (loopOf Try.f164 6) (envOf sh164_6 s) (fitK sh164_6 k) (fun j e => bif Nat.beq j 2 then fitK sh164_6 kx e else none) kr164 = st164_6 F s k kx := by
  obtain ⟨⟨t0, _⟩, ⟨t1, _⟩, ⟨t6, _⟩, ⟨t7, _⟩, ⟨t8, _⟩, ⟨t9, _⟩, ⟨t10, _⟩, ⟨t15, _⟩, ⟨t16, _⟩, ⟨t19, _⟩, ⟨t20, _⟩, _⟩ := s
  kernel_rfl
theorem ok164_6 (F : Nat) (hK : KOK Try.prog (ct164 )) : LSOK Try.prog ⟨54, false, undef⟩ (ls164_6 F) (loopOf Try.f164 6) kr164 :=
  loop_ok (st164_6 F) mixed tt_ok hK (by kernel_rfl) (LTOK_by (l := [loopOf Try.f164 10]) (by kernel_rfl) ⟨ls_at (by kernel_rfl) (ok164_10 F hK), trivial⟩) (ev164_6 F)
theorem ev164_3 (F : Nat) (s : ShVal sh164_3) (k kx : ShVal sh164_3 → Option R164) : evL TT (ct164 ) kp164 [(6, ls164_6 F)] (loopOf Try.f164 3) (envOf sh164_3 s) (fitK sh164_3 k) (fun j e => bif Nat.beq j 0 then fitK sh164_3 kx e else none) kr164 = st164_3 F s k kx := by
  obtain ⟨⟨t0, _⟩, ⟨t1, _⟩, ⟨t6, _⟩, ⟨t7, _⟩, ⟨t8, _⟩, ⟨t9, _⟩, ⟨t15, _⟩, ⟨t16, _⟩, _⟩ := s
  kernel_rfl
theorem ok164_3 (F : Nat) (hK : KOK Try.prog (ct164 )) : LSOK Try.prog ⟨54, false, undef⟩ (ls164_3 F) (loopOf Try.f164 3) kr164 :=
  loop_ok (st164_3 F) mixed tt_ok hK (by kernel_rfl) (LTOK_by (l := [loopOf Try.f164 6]) (by kernel_rfl) ⟨ls_at (by kernel_rfl) (ok164_6 F hK), trivial⟩) (ev164_3 F)
theorem ev164 (F : Nat) (x : Args [.v i64, .v i64, .v mat, .v mat]) : fnK TT (ct164 ) kp164 [mat] [(3, ls164_3 F)] (bodyOf Try.f164) [.cell 8 27] [.v i64, .v i64, .v mat, .v mat] false false x = fn164 F x := by
  obtain ⟨x0, x1, x2, x3, _⟩ := x
  kernel_rfl
theorem ok164 (hK : KOK Try.prog (ct164 )) (cf : G164) (h : ∀ x y, cf x = some y → ∃ F, fn164 F x = some y) : KOne Try.prog 164 ⟨[.v i64, .v i64, .v mat, .v mat], [mat], false, false, 0, cf⟩ :=
  fn_one rfl (c := bodyOf Try.f164) mixed tt_ok hK Try.func164 (by kernel_rfl) (by kernel_rfl) (Nat.le_of_ble_eq_true (by kernel_rfl)) (by decide) fun x y hxy => by
    obtain ⟨F, hF⟩ := h x y hxy
    exact ⟨[(3, ls164_3 F)], LTOK_by (l := [loopOf Try.f164 3]) (by kernel_rfl) ⟨ls_at (by kernel_rfl) (ok164_3 F hK), trivial⟩, (ev164 F x).trans hF⟩
abbrev R163 : Type := Ress [.bool]
abbrev G163 : Type := Args [.v (.pair i64 (.pair i64 (.pair (.slice 27 mat) .unit))), .v mat] → Option R163
abbrev kp163 : List (Nat × List Nat) := [(0, [2, 3]), (1, [4])]
abbrev ct163 (g180 : G180) : CTab := [(180, ⟨[.v (.slice 27 mat), .v mat], [.bool], false, false, 0, g180⟩)]
def fn163 (g180 : G180) (F : Nat) (x : Args [.v (.pair i64 (.pair i64 (.pair (.slice 27 mat) .unit))), .v mat]) : Option R163 :=
  match x with
  | (x0, x1, _) => (match (g180 (x0.2.2.1, (x1, ()))) with | some r5 => (some (r5.1, ())) | none => none)
theorem ev163 (g180 : G180) (F : Nat) (x : Args [.v (.pair i64 (.pair i64 (.pair (.slice 27 mat) .unit))), .v mat]) : fnK TT (ct163 g180 ) kp163 [.bool] [] (bodyOf Try.f163) [.tmp 4] [.v (.pair i64 (.pair i64 (.pair (.slice 27 mat) .unit))), .v mat] false false x = fn163 g180 F x := by
  obtain ⟨x0, x1, _⟩ := x
  kernel_rfl
theorem ok163 (g180 : G180) (hK : KOK Try.prog (ct163 g180 )) (cf : G163) (h : ∀ x y, cf x = some y → ∃ F, fn163 g180 F x = some y) : KOne Try.prog 163 ⟨[.v (.pair i64 (.pair i64 (.pair (.slice 27 mat) .unit))), .v mat], [.bool], false, false, 0, cf⟩ :=
  fn_one rfl (c := bodyOf Try.f163) mixed tt_ok hK Try.func163 (by kernel_rfl) (by kernel_rfl) (Nat.le_of_ble_eq_true (by kernel_rfl)) (by decide) fun x y hxy => by
    obtain ⟨F, hF⟩ := h x y hxy
    exact ⟨[], LTOK_by (l := []) (by kernel_rfl) trivial, (ev163 g180 F x).trans hF⟩
abbrev R127 : Type := Ress [.bool]
abbrev G127 : Type := Args [.v (.pair i64 (.pair i64 (.pair (.slice 27 mat) .unit)))] → Option R127
abbrev kp127 : List (Nat × List Nat) := [(0, [1]), (1, [26, 1]), (2, [2]), (3, [1, 30, 28, 29]), (4, [31, 29, 28, 30, 1]), (5, [3, 29, 28, 30, 1, 4]), (6, [47, 29, 28, 30, 1, 4]), (7, [2]), (8, [51, 4, 1, 49, 30, 28, 29, 50]), (9, [52, 50, 29, 28, 30, 49, 1, 4, 51]), (10, [6, 50, 29, 28, 30, 49, 1, 4, 51]), (11, [64, 50, 29, 28, 30, 49, 1, 4, 51]), (12, [2]), (13, [51, 4, 1, 49, 30, 28, 29, 50]), (14, [1, 30, 28, 29]), (15, [2])]
abbrev ct127 (g61 : G61) (g165 : G165) (g164 : G164) (g163 : G163) (g162 : G162) : CTab := [(61, ⟨[.v i64, .v i64, .v (.slice 27 mat)], [.bool], false, false, 0, g61⟩), (165, ⟨[.v i64], [mat], false, false, 0, g165⟩), (164, ⟨[.v i64, .v i64, .v mat, .v mat], [mat], false, false, 0, g164⟩), (163, ⟨[.v (.pair i64 (.pair i64 (.pair (.slice 27 mat) .unit))), .v mat], [.bool], false, false, 0, g163⟩), (162, ⟨[.v mat, .v mat], [i64], false, false, 0, g162⟩)]
abbrev kr127 : Env → Option R127 := endK TT [.tmp 2] [.bool] false false
abbrev sh127_9 : Shape := [(1, .box false [.fz i64 0 false, .fz i64 0 false, .fz (.slice 27 mat) 0 true]), (4, bb mat), (28, .val false [.fz (.slice 27 mat) 0 true]), (29, vv i64), (30, vv i64), (49, .val false [.fz (.slice 27 mat) 0 true]), (50, vv i64), (51, vv i64)]
def st127_9 (g61 : G61) (g165 : G165) (g164 : G164) (g163 : G163) (g162 : G162) (F : Nat) (s : ShVal sh127_9) (k kx : ShVal sh127_9 → Option R127) : Option R127 :=
  match s with
  | ((t1_0, t1_1, t1_2, _), (t4, _), (t28, _), (t29, _), (t30, _), (t49, _), (t50, _), (t51, _), _) => (bif decide (t51 < t50) then (bif ib t51 (Int.ofNat (List.length t49)) then (match (g164 (t1_0, (t1_1, (t4, ((List.getD t49 (tn t51) (Ty.dflt (.arr 3 (.arr 3 (.int .u8))))), ()))))) with | some r34 => (match (g163 ((t1_0, (t1_1, (t1_2, ()))), (r34.1, ()))) with | some r35 => (bif (!r35.1) then (some (false, ())) else k ((t1_0, (t1_1, (t1_2, ()))), ((t4, ()), ((t28, ()), ((t29, ()), ((t30, ()), ((t49, ()), ((t50, ()), (((w6 (t51 + (1 : Int))), ()), ()))))))))) | none => none) | none => none) else none) else kx ((t1_0, (t1_1, (t1_2, ()))), ((t4, ()), ((t28, ()), ((t29, ()), ((t30, ()), ((t49, ()), ((t50, ()), ((t51, ()), ())))))))))
def ru127_9 (g61 : G61) (g165 : G165) (g164 : G164) (g163 : G163) (g162 : G162) (F : Nat) (s : ShVal sh127_9) (kx : ShVal sh127_9 → Option R127) : Option R127 := iter (fun s k => st127_9 g61 g165 g164 g163 g162 F s k kx) F s
abbrev ls127_9 (g61 : G61) (g165 : G165) (g164 : G164) (g163 : G163) (g162 : G162) (F : Nat) : LS R127 := ⟨sh127_9, 2, ru127_9 g61 g165 g164 g163 g162 F⟩
abbrev sh127_4 : Shape := [(1, .box false [.fz i64 0 false, .fz i64 0 false, .fz (.slice 27 mat) 0 true]), (28, .val false [.fz (.slice 27 mat) 0 true]), (29, vv i64), (30, vv i64)]
def st127_4 (g61 : G61) (g165 : G165) (g164 : G164) (g163 : G163) (g162 : G162) (F : Nat) (s : ShVal sh127_4) (k kx : ShVal sh127_4 → Option R127) : Option R127 :=
  match s with
  | ((t1_0, t1_1, t1_2, _), (t28, _), (t29, _), (t30, _), _) => (bif decide (t30 < t29) then (bif ib t30 (Int.ofNat (List.length t28)) then (bif decide ((0 : Int) < t30) then (bif ib (w6 (t30 - (1 : Int))) (Int.ofNat (List.length t1_2)) then (match (g162 ((List.getD t1_2 (tn (w6 (t30 - (1 : Int)))) (Ty.dflt (.arr 3 (.arr 3 (.int .u8))))), ((List.getD t28 (tn t30) (Ty.dflt (.arr 3 (.arr 3 (.int .u8))))), ()))) with | some r19 => (bif (bif true then decide ((0 : Int) ≤ r19.1) else false) then (some (false, ())) else (bif decide ((List.length t1_2) ≤ 9223372036854775807) then (ru127_9 g61 g165 g164 g163 g162 F ((t1_0, (t1_1, (t1_2, ()))), (((List.getD t28 (tn t30) (Ty.dflt (.arr 3 (.arr 3 (.int .u8))))), ()), ((t28, ()), ((t29, ()), ((t30, ()), ((t1_2, ()), (((Int.ofNat (List.length t1_2)), ()), (((0 : Int), ()), ())))))))) (fun s' => match s' with | ((t1_0, t1_1, t1_2, _), (t4, _), (t28, _), (t29, _), (t30, _), (t49, _), (t50, _), (t51, _), _) => k ((t1_0, (t1_1, (t1_2, ()))), ((t28, ()), ((t29, ()), (((w6 (t30 + (1 : Int))), ()), ())))))) else none)) | none => none) else none) else (bif decide ((List.length t1_2) ≤ 9223372036854775807) then (ru127_9 g61 g165 g164 g163 g162 F ((t1_0, (t1_1, (t1_2, ()))), (((List.getD t28 (tn t30) (Ty.dflt (.arr 3 (.arr 3 (.int .u8))))), ()), ((t28, ()), ((t29, ()), ((t30, ()), ((t1_2, ()), (((Int.ofNat (List.length t1_2)), ()), (((0 : Int), ()), ())))))))) (fun s' => match s' with | ((t1_0, t1_1, t1_2, _), (t4, _), (t28, _), (t29, _), (t30, _), (t49, _), (t50, _), (t51, _), _) => k ((t1_0, (t1_1, (t1_2, ()))), ((t28, ()), ((t29, ()), (((w6 (t30 + (1 : Int))), ()), ())))))) else none)) else none) else kx ((t1_0, (t1_1, (t1_2, ()))), ((t28, ()), ((t29, ()), ((t30, ()), ())))))
def ru127_4 (g61 : G61) (g165 : G165) (g164 : G164) (g163 : G163) (g162 : G162) (F : Nat) (s : ShVal sh127_4) (kx : ShVal sh127_4 → Option R127) : Option R127 := iter (fun s k => st127_4 g61 g165 g164 g163 g162 F s k kx) F s
abbrev ls127_4 (g61 : G61) (g165 : G165) (g164 : G164) (g163 : G163) (g162 : G162) (F : Nat) : LS R127 := ⟨sh127_4, 0, ru127_4 g61 g165 g164 g163 g162 F⟩
def fn127 (g61 : G61) (g165 : G165) (g164 : G164) (g163 : G163) (g162 : G162) (F : Nat) (x : Args [.v (.pair i64 (.pair i64 (.pair (.slice 27 mat) .unit)))]) : Option R127 :=
  match x with
  | (x0, _) => (bif decide ((List.length x0.2.2.1) ≤ 9223372036854775807) then (bif decide ((Int.ofNat (List.length x0.2.2.1)) < (1 : Int)) then (some (false, ())) else (bif decide ((List.length x0.2.2.1) ≤ 9223372036854775807) then (bif (bif false then true else decide ((48 : Int) < (Int.ofNat (List.length x0.2.2.1)))) then (some (false, ())) else (match (g61 (x0.1, (x0.2.1, (x0.2.2.1, ())))) with | some r8 => (bif (bif false then true else (!r8.1)) then (some (false, ())) else (bif decide ((List.length x0.2.2.1) ≤ 9223372036854775807) then (ru127_4 g61 g165 g164 g163 g162 F ((x0.1, (x0.2.1, (x0.2.2.1, ()))), ((x0.2.2.1, ()), (((Int.ofNat (List.length x0.2.2.1)), ()), (((0 : Int), ()), ())))) (fun s' => match s' with | ((t1_0, t1_1, t1_2, _), (t28, _), (t29, _), (t30, _), _) => (match (g165 (t1_1, ())) with | some r17 => (match (g163 ((t1_0, (t1_1, (t1_2, ()))), (r17.1, ()))) with | some r18 => (some (r18.1, ())) | none => none) | none => none))) else none)) | none => none)) else none)) else none)
theorem ev127_9 (g61 : G61) (g165 : G165) (g164 : G164) (g163 : G163) (g162 : G162) (F : Nat) (s : ShVal sh127_9) (k kx : ShVal sh127_9 → Option R127) : evL TT (ct127 g61 g165 g164 g163 g162 ) kp127 [] (loopOf Try.f127 9) (envOf sh127_9 s) (fitK sh127_9 k) (fun j e => bif Nat.beq j 2 then fitK sh127_9 kx e else none) kr127 = st127_9 g61 g165 g164 g163 g162 F s k kx := by
  obtain ⟨⟨t1_0, t1_1, t1_2, _⟩, ⟨t4, _⟩, ⟨t28, _⟩, ⟨t29, _⟩, ⟨t30, _⟩, ⟨t49, _⟩, ⟨t50, _⟩, ⟨t51, _⟩, _⟩ := s
  kernel_rfl
theorem ok127_9 (g61 : G61) (g165 : G165) (g164 : G164) (g163 : G163) (g162 : G162) (F : Nat) (hK : KOK Try.prog (ct127 g61 g165 g164 g163 g162 )) : LSOK Try.prog ⟨72, false, undef⟩ (ls127_9 g61 g165 g164 g163 g162 F) (loopOf Try.f127 9) kr127 :=
  loop_ok (st127_9 g61 g165 g164 g163 g162 F) mixed tt_ok hK (by kernel_rfl) (LTOK_by (l := []) (by kernel_rfl) trivial) (ev127_9 g61 g165 g164 g163 g162 F)
theorem ev127_4 (g61 : G61) (g165 : G165) (g164 : G164) (g163 : G163) (g162 : G162) (F : Nat) (s : ShVal sh127_4) (k kx : ShVal sh127_4 → Option R127) : evL TT (ct127 g61 g165 g164 g163 g162 ) kp127 [(9, ls127_9 g61 g165 g164 g163 g162 F)] (loopOf Try.f127 4) (envOf sh127_4 s) (fitK sh127_4 k) (fun j e => bif Nat.beq j 0 then fitK sh127_4 kx e else none) kr127 = st127_4 g61 g165 g164 g163 g162 F s k kx := by
  obtain ⟨⟨t1_0, t1_1, t1_2, _⟩, ⟨t28, _⟩, ⟨t29, _⟩, ⟨t30, _⟩, _⟩ := s
  kernel_rfl
theorem ok127_4 (g61 : G61) (g165 : G165) (g164 : G164) (g163 : G163) (g162 : G162) (F : Nat) (hK : KOK Try.prog (ct127 g61 g165 g164 g163 g162 )) : LSOK Try.prog ⟨72, false, undef⟩ (ls127_4 g61 g165 g164 g163 g162 F) (loopOf Try.f127 4) kr127 :=
  loop_ok (st127_4 g61 g165 g164 g163 g162 F) mixed tt_ok hK (by kernel_rfl) (LTOK_by (l := [loopOf Try.f127 9]) (by kernel_rfl) ⟨ls_at (by kernel_rfl) (ok127_9 g61 g165 g164 g163 g162 F hK), trivial⟩) (ev127_4 g61 g165 g164 g163 g162 F)
theorem ev127 (g61 : G61) (g165 : G165) (g164 : G164) (g163 : G163) (g162 : G162) (F : Nat) (x : Args [.v (.pair i64 (.pair i64 (.pair (.slice 27 mat) .unit)))]) : fnK TT (ct127 g61 g165 g164 g163 g162 ) kp127 [.bool] [(4, ls127_4 g61 g165 g164 g163 g162 F)] (bodyOf Try.f127) [.tmp 2] [.v (.pair i64 (.pair i64 (.pair (.slice 27 mat) .unit)))] false false x = fn127 g61 g165 g164 g163 g162 F x := by
  obtain ⟨x0, _⟩ := x
  kernel_rfl
theorem ok127 (g61 : G61) (g165 : G165) (g164 : G164) (g163 : G163) (g162 : G162) (hK : KOK Try.prog (ct127 g61 g165 g164 g163 g162 )) (cf : G127) (h : ∀ x y, cf x = some y → ∃ F, fn127 g61 g165 g164 g163 g162 F x = some y) : KOne Try.prog 127 ⟨[.v (.pair i64 (.pair i64 (.pair (.slice 27 mat) .unit)))], [.bool], false, false, 0, cf⟩ :=
  fn_one rfl (c := bodyOf Try.f127) mixed tt_ok hK Try.func127 (by kernel_rfl) (by kernel_rfl) (Nat.le_of_ble_eq_true (by kernel_rfl)) (by decide) fun x y hxy => by
    obtain ⟨F, hF⟩ := h x y hxy
    exact ⟨[(4, ls127_4 g61 g165 g164 g163 g162 F)], LTOK_by (l := [loopOf Try.f127 4]) (by kernel_rfl) ⟨ls_at (by kernel_rfl) (ok127_4 g61 g165 g164 g163 g162 F hK), trivial⟩, (ev127 g61 g165 g164 g163 g162 F x).trans hF⟩
open Go Go.RowKit Go.Proofs
theorem iter_all_go {S α : Type} {step : S → (S → Option α) → Option α} {r0 r1 : Option α} {f : Nat → Bool} {N : Nat} {st : Nat → S} (hs : ∀ i, i < N → ∀ k, step (st i) k = bif f i then k (st (i + 1)) else r0) (he : ∀ k, step (st N) k = r1) :
    ∀ (m i F : Nat), i + m = N → m < F → iter step F (st i) = bif (List.range' i m).all f then r1 else r0
  | 0, i, F, hi, hF => by
    obtain ⟨F, rfl⟩ : ∃ n, F = n + 1 := ⟨F - 1, by omega⟩
    have : i = N := by omega
    subst this
    simp only [iter, he, List.range'_zero, List.all_nil, cond_true]
  | m + 1, i, F, hi, hF => by
    obtain ⟨F, rfl⟩ : ∃ n, F = n + 1 := ⟨F - 1, by omega⟩
    simp only [iter]
    rw [hs i (by omega), iter_all_go hs he m (i + 1) F (by omega) (by omega), List.range'_succ, List.all_cons]
    cases f i <;> simp
theorem iter_all {S α : Type} {step : S → (S → Option α) → Option α} {r0 r1 : Option α} {f : Nat → Bool} {N : Nat} {st : Nat → S} (hs : ∀ i, i < N → ∀ k, step (st i) k = bif f i then k (st (i + 1)) else r0) (he : ∀ k, step (st N) k = r1) (F : Nat) (hF : N < F) :
    iter step F (st 0) = bif (List.range N).all f then r1 else r0 := by
  rw [iter_all_go hs he N 0 F (by omega) hF, List.range_eq_range']
theorem all_range {α : Type} {f : α → Bool} {d : α} : ∀ (l : List α), (List.range l.length).all (fun i => f (l.getD i d)) = l.all f := fun l => by
  rw [Bool.eq_iff_iff, List.all_eq_true, List.all_eq_true]
  constructor
  · intro h x hx
    obtain ⟨i, hi, rfl⟩ := List.mem_iff_getElem.1 hx
    have := h i (List.mem_range.2 hi)
    rwa [List.getD_eq_getElem?_getD, List.getElem?_eq_getElem hi, Option.getD_some] at this
  · intro h i hi
    have hi := List.mem_range.1 hi
    rw [List.getD_eq_getElem?_getD, List.getElem?_eq_getElem hi, Option.getD_some]
    exact h _ (List.getElem_mem hi)
theorem all_and {α : Type} {f g : α → Bool} : ∀ (l : List α), l.all (fun i => f i && g i) = (l.all f && l.all g)
  | [] => rfl
  | x :: r => by simp only [List.all_cons, all_and r]; cases f x <;> cases g x <;> simp
abbrev DM : Mat := Ty.dflt mat
def row3 (a b c : Int) : ex.den := (a, b, c, ())
def mat3 (a b c : ex.den) : Mat := (a, b, c, ())
def uniM (n : Int) : Mat := if n = 1 then mat3 (row3 1 0 0) (row3 0 0 0) (row3 0 0 0) else if n = 2 then mat3 (row3 1 0 0) (row3 0 1 0) (row3 0 0 0) else mat3 (row3 1 0 0) (row3 0 1 0) (row3 0 0 1)
def cf141 : G141 := fn141 5
theorem k141 : KOne Try.prog 141 ⟨[.v i64], [mat], false, false, 0, cf141⟩ := ok141 .nil cf141 fun x y h => ⟨5, h⟩
theorem g141_ok {n : Int} (hn : n = 1 ∨ n = 2 ∨ n = 3) : cf141 (n, ()) = some (uniM n, ()) := by rcases hn with rfl | rfl | rfl <;> kernel_rfl
def cf165 : G165 := fn165 5
theorem k165 : KOne Try.prog 165 ⟨[.v i64], [mat], false, false, 0, cf165⟩ := ok165 .nil cf165 fun x y h => ⟨5, h⟩
theorem g165_ok {n : Int} (hn : n = 1 ∨ n = 2 ∨ n = 3) : cf165 (n, ()) = some (uniM n, ()) := by rcases hn with rfl | rfl | rfl <;> kernel_rfl
def nzN (p : Int) : Nat → Option (Mat × Unit) → Option (Mat × Unit)
  | 0, x => x
  | k + 1, x => bif !decide (p = 0) then nzN p k x else none
theorem nzN_ok {p : Int} (h : p ≠ 0) : ∀ {k : Nat} {x : Option (Mat × Unit)}, nzN p k x = x
  | 0, _ => rfl
  | k + 1, x => by simp only [nzN, deq_f h, Bool.not_false, cond_true]; exact nzN_ok h
def adW (t a b : Int) : Int := w6 (t + w6 (w6 a * w6 b))
def s1W (g h : Mat) (i j : Nat) : Int := adW 0 (me g i 0) (me h 0 j)
def s2W (g h : Mat) (i j : Nat) : Int := adW (s1W g h i j) (me g i 1) (me h 1 j)
def s3W (g h : Mat) (i j : Nat) : Int := adW (s2W g h i j) (me g i 2) (me h 2 j)
def mdW (p x : Int) : Int := w8 (Int.tmod x p)
def tim1 (p : Int) (g h : Mat) : Mat := mat3 (row3 (mdW p (s1W g h 0 0)) 0 0) (row3 0 0 0) (row3 0 0 0)
def tim2 (p : Int) (g h : Mat) : Mat := mat3 (row3 (mdW p (s2W g h 0 0)) (mdW p (s2W g h 0 1)) 0) (row3 (mdW p (s2W g h 1 0)) (mdW p (s2W g h 1 1)) 0) (row3 0 0 0)
def tim3 (p : Int) (g h : Mat) : Mat := mat3 (row3 (mdW p (s3W g h 0 0)) (mdW p (s3W g h 0 1)) (mdW p (s3W g h 0 2))) (row3 (mdW p (s3W g h 1 0)) (mdW p (s3W g h 1 1)) (mdW p (s3W g h 1 2))) (row3 (mdW p (s3W g h 2 0)) (mdW p (s3W g h 2 1)) (mdW p (s3W g h 2 2)))
def timW (p n : Int) (g h : Mat) : Mat := if n = 1 then tim1 p g h else if n = 2 then tim2 p g h else tim3 p g h
theorem e140_1 (p : Int) (g h : Mat) : fn140 5 (p, (1 : Int), g, h, ()) = nzN p 1 (some (tim1 p g h, ())) := by kernel_rfl
theorem e140_2 (p : Int) (g h : Mat) : fn140 5 (p, (2 : Int), g, h, ()) = nzN p 4 (some (tim2 p g h, ())) := by kernel_rfl
theorem e140_3 (p : Int) (g h : Mat) : fn140 5 (p, (3 : Int), g, h, ()) = nzN p 9 (some (tim3 p g h, ())) := by kernel_rfl
theorem e164_1 (p : Int) (g h : Mat) : fn164 5 (p, (1 : Int), g, h, ()) = nzN p 1 (some (tim1 p g h, ())) := by kernel_rfl
theorem e164_2 (p : Int) (g h : Mat) : fn164 5 (p, (2 : Int), g, h, ()) = nzN p 4 (some (tim2 p g h, ())) := by kernel_rfl
theorem e164_3 (p : Int) (g h : Mat) : fn164 5 (p, (3 : Int), g, h, ()) = nzN p 9 (some (tim3 p g h, ())) := by kernel_rfl
def cf140 : G140 := fn140 5
theorem k140 : KOne Try.prog 140 ⟨[.v i64, .v i64, .v mat, .v mat], [mat], false, false, 0, cf140⟩ := ok140 .nil cf140 fun x y h => ⟨5, h⟩
def cf164 : G164 := fn164 5
theorem k164 : KOne Try.prog 164 ⟨[.v i64, .v i64, .v mat, .v mat], [mat], false, false, 0, cf164⟩ := ok164 .nil cf164 fun x y h => ⟨5, h⟩
theorem g140_ok {p n : Int} {g h : Mat} (hp : p ≠ 0) (hn : n = 1 ∨ n = 2 ∨ n = 3) : cf140 (p, n, g, h, ()) = some (timW p n g h, ()) := by
  rcases hn with rfl | rfl | rfl
  · exact (e140_1 p g h).trans (nzN_ok hp)
  · exact (e140_2 p g h).trans (nzN_ok hp)
  · exact (e140_3 p g h).trans (nzN_ok hp)
theorem g164_ok {p n : Int} {g h : Mat} (hp : p ≠ 0) (hn : n = 1 ∨ n = 2 ∨ n = 3) : cf164 (p, n, g, h, ()) = some (timW p n g h, ()) := by
  rcases hn with rfl | rfl | rfl
  · exact (e164_1 p g h).trans (nzN_ok hp)
  · exact (e164_2 p g h).trans (nzN_ok hp)
  · exact (e164_3 p g h).trans (nzN_ok hp)
def bfB (x y : Int) (r : Option (Bool × Unit)) : Option (Bool × Unit) := bif !decide (x = y) then some (decide (x < y), ()) else r
theorem e138 (a b : Mat) : fn138 5 (a, b, ()) = bfB (me a 0 0) (me b 0 0) (bfB (me a 0 1) (me b 0 1) (bfB (me a 0 2) (me b 0 2) (bfB (me a 1 0) (me b 1 0) (bfB (me a 1 1) (me b 1 1) (bfB (me a 1 2) (me b 1 2) (bfB (me a 2 0) (me b 2 0) (bfB (me a 2 1) (me b 2 1) (bfB (me a 2 2) (me b 2 2) (some (false, ())))))))))) := by kernel_rfl
theorem bfB3 {x0 x1 x2 y0 y1 y2 : Int} {r : Option (Bool × Unit)} (a0 : 0 ≤ x0 ∧ x0 ≤ 255) (a1 : 0 ≤ x1 ∧ x1 ≤ 255) (a2 : 0 ≤ x2 ∧ x2 ≤ 255) (b0 : 0 ≤ y0 ∧ y0 ≤ 255) (b1 : 0 ≤ y1 ∧ y1 ≤ 255) (b2 : 0 ≤ y2 ∧ y2 ≤ 255) :
    bfB x0 y0 (bfB x1 y1 (bfB x2 y2 r)) = bfB (65536 * x0 + 256 * x1 + x2) (65536 * y0 + 256 * y1 + y2) r := by
  unfold bfB
  by_cases h0 : x0 = y0
  · by_cases h1 : x1 = y1
    · by_cases h2 : x2 = y2
      · rw [deq_t h0, deq_t h1, deq_t h2, deq_t (by omega)]; rfl
      · rw [deq_t h0, deq_t h1, deq_f h2, deq_f (by omega)]
        simp only [Bool.not_true, Bool.not_false, cond_false, cond_true]
        congr 2; rw [decide_eq_decide]; omega
    · rw [deq_t h0, deq_f h1, deq_f (show 65536 * x0 + 256 * x1 + x2 ≠ 65536 * y0 + 256 * y1 + y2 by omega)]
      simp only [Bool.not_true, Bool.not_false, cond_false, cond_true]
      congr 2; rw [decide_eq_decide]; omega
  · rw [deq_f h0, deq_f (show 65536 * x0 + 256 * x1 + x2 ≠ 65536 * y0 + 256 * y1 + y2 by omega)]
    simp only [Bool.not_true, Bool.not_false, cond_false, cond_true]
    congr 2; rw [decide_eq_decide]; omega
theorem okMc_of {g : Mat} (h : okM g = true) : okMc g := fun i j => me_rng h i j
def cf138 : G138 := fn138 5
theorem k138 : KOne Try.prog 138 ⟨[.v mat, .v mat], [.bool], false, false, 0, cf138⟩ := ok138 .nil cf138 fun x y h => ⟨5, h⟩
theorem g138_ok {a b : Mat} (ha : okM a = true) (hb : okM b = true) : cf138 (a, b, ()) = some (decide (keyM a < keyM b), ()) := by
  have r := me_rng ha
  have s := me_rng hb
  rw [show cf138 (a, b, ()) = fn138 5 (a, b, ()) from rfl, e138, bfB3 (r 2 0) (r 2 1) (r 2 2) (s 2 0) (s 2 1) (s 2 2), bfB3 (r 1 0) (r 1 1) (r 1 2) (s 1 0) (s 1 1) (s 1 2), bfB3 (r 0 0) (r 0 1) (r 0 2) (s 0 0) (s 0 1) (s 0 2)]
  change bfB (rkM a 0) (rkM b 0) (bfB (rkM a 1) (rkM b 1) (bfB (rkM a 2) (rkM b 2) _)) = _
  have r0 := rkM_rng (okMc_of ha) 0; have r1 := rkM_rng (okMc_of ha) 1; have r2 := rkM_rng (okMc_of ha) 2
  have t0 := rkM_rng (okMc_of hb) 0; have t1 := rkM_rng (okMc_of hb) 1; have t2 := rkM_rng (okMc_of hb) 2
  unfold bfB keyM
  by_cases h0 : rkM a 0 = rkM b 0
  · by_cases h1 : rkM a 1 = rkM b 1
    · by_cases h2 : rkM a 2 = rkM b 2
      · rw [deq_t h0, deq_t h1, deq_t h2]
        simp only [Bool.not_true, cond_false]
        congr 2; rw [eq_comm, decide_eq_false_iff_not]; omega
      · rw [deq_t h0, deq_t h1, deq_f h2]
        simp only [Bool.not_true, Bool.not_false, cond_false, cond_true]
        congr 2; rw [decide_eq_decide]; omega
    · rw [deq_t h0, deq_f h1]
      simp only [Bool.not_true, Bool.not_false, cond_false, cond_true]
      congr 2; rw [decide_eq_decide]; omega
  · rw [deq_f h0]
    simp only [Bool.not_true, Bool.not_false, cond_false, cond_true]
    congr 2; rw [decide_eq_decide]; omega
def fndI (m : Mat) (L : List Mat) : Int := if m ∈ L then (fstM m L : Int) else -1
theorem run139 {m : Mat} {F0 N : Nat} : ∀ (r pre : List Mat) (F : Nat), r.length < F → (pre ++ r).length = N → N ≤ 2000000 →
    iter (fun s k => st139_2 F0 s k (fun s' => match s' with | ((t0, _), (t3, _), (t5, _), _) => (some ((-(1 : Int)), ())))) F ((pre ++ r, ()), ((m, ()), (((pre.length : Int), ()), ()))) = some (if m ∈ r then ((pre.length + fstM m r : Nat) : Int) else -1, ())
  | [], pre, F, hF, hl, hN => by
    obtain ⟨F, rfl⟩ : ∃ f, F = f + 1 := ⟨F - 1, by simp at hF; omega⟩
    rw [List.append_nil] at hl ⊢
    simp only [iter, st139_2]
    simp (disch := omega) only [dln_t, cond_true, ofn, dlt_f, cond_false]
    simp
  | x :: r, pre, F, hF, hl, hN => by
    obtain ⟨F, rfl⟩ : ∃ f, F = f + 1 := ⟨F - 1, by simp at hF; omega⟩
    have l1 : pre.length < (pre ++ x :: r).length := by simp
    have g1 : ∀ dd, (pre ++ x :: r).getD pre.length dd = x := fun dd => getD_pre
    have ih := run139 (m := m) (F0 := F0) r (pre ++ [x]) F (by simp at hF; omega) (by simpa using hl) hN
    simp only [List.append_assoc, List.singleton_append, List.length_append, List.length_singleton] at ih
    simp only [iter, st139_2]
    simp (disch := omega) only [dln_t, cond_true, ofn, dlt_t, ib_t, tn_cast, w6_id, g1]
    by_cases q : x = m
    · subst q
      rw [show Ty.eqd (.arr 3 (.arr 3 (.int .u8))) x x = true from eqdM.2 rfl, cond_true]
      simp [fstM]
    · rw [show Ty.eqd (.arr 3 (.arr 3 (.int .u8))) x m = false from Bool.eq_false_iff.2 fun h => q (eqdM.1 h), cond_false]
      refine ih.trans ?_
      have : m ∈ x :: r ↔ m ∈ r := by simp [Ne.symm q]
      simp only [this, fstM, if_neg (Ne.symm q)]
      split
      · congr 2; omega
      · rfl
def cf139 : G139 := fun x => if (show List Mat from x.1).length ≤ 2000000 then some (fndI x.2.1 x.1, ()) else none
theorem k139 : KOne Try.prog 139 ⟨[.v (.slice 27 mat), .v mat], [i64], false, false, 0, cf139⟩ := ok139 .nil cf139 fun x y h => by
  obtain ⟨L, m, _⟩ := x
  change List Mat at L
  simp only [cf139] at h
  split at h
  · rename_i hc
    injection h with h; subst h
    refine ⟨L.length + 1, ?_⟩
    have := run139 (m := m) (F0 := L.length + 1) (N := L.length) L [] (L.length + 1) (by omega) (by simp) hc
    simp only [List.nil_append, List.length_nil, Nat.zero_add] at this
    exact this
  · cases h
theorem g139_ok {m : Mat} {L : List Mat} (h : L.length ≤ 2000000) : cf139 (L, m, ()) = some (fndI m L, ()) := if_pos h
theorem fndI_neg {m : Mat} {L : List Mat} : decide (fndI m L < 0) = !decide (m ∈ L) := by
  unfold fndI
  by_cases h : m ∈ L
  · rw [if_pos h, decide_eq_true h, dlt_f (by omega)]; rfl
  · rw [if_neg h, decide_eq_false h]; rfl
theorem fndI_nn {m : Mat} {L : List Mat} : decide (0 ≤ fndI m L) = decide (m ∈ L) := by
  unfold fndI
  by_cases h : m ∈ L
  · rw [if_pos h, decide_eq_true h, dle_t (by omega)]
  · rw [if_neg h, decide_eq_false h]; rfl
def cf163 : G163 := fun x => if (els x.1).length ≤ 2000000 then some (decide ((show Mat from x.2.1) ∈ els x.1), ()) else none
theorem k163 : KOne Try.prog 163 ⟨[.v (.pair i64 (.pair i64 (.pair (.slice 27 mat) .unit))), .v mat], [.bool], false, false, 0, cf163⟩ := ok163 _ (.cons k180 .nil) cf163 fun x y h => by
  obtain ⟨⟨p, n, L, _⟩, m, _⟩ := x
  change List Mat at L
  simp only [cf163] at h
  split at h
  · rename_i hc
    injection h with h; subst h
    have g : cf180 (L, m, ()) = some (decide ((show Mat from m) ∈ L), ()) := if_pos hc
    exact ⟨0, by simp only [fn163, g]; rfl⟩
  · cases h
theorem g163_ok {p n : Int} {L : List Mat} {m : Mat} (h : L.length ≤ 2000000) : cf163 ((p, n, L, ()), m, ()) = some (decide (m ∈ L), ()) := if_pos h
def atM (L : List Mat) (i : Nat) : Mat := L.getD i DM
def srtB' (L : List Mat) (i : Nat) : Bool := decide (i = 0) || decide (keyM (atM L (i - 1)) < keyM (atM L i))
def cloB (p n : Int) (L : List Mat) (i j : Nat) : Bool := decide (timW p n (atM L i) (atM L j) ∈ L)
def grB (g : Gr) : Bool :=
  (isP g.1 && inR g.2.1) && (decide ((1 : Int) ≤ (els g).length) && decide (((els g).length : Int) ≤ 48)) && ((List.range (els g).length).all fun i => matB g.1 g.2.1 (atM (els g) i)) && ((List.range (els g).length).all fun i => srtB' (els g) i) &&
    ((List.range (els g).length).all fun i => (List.range (els g).length).all fun j => cloB g.1 g.2.1 (els g) i j) && decide (uniM g.2.1 ∈ els g)
theorem okM_at {L : List Mat} (h : L.all okM = true) {i : Nat} (hi : i < L.length) : okM (atM L i) = true := by
  unfold atM
  rw [List.getD_eq_getElem?_getD, List.getElem?_eq_getElem hi, Option.getD_some]
  exact List.all_eq_true.1 h _ (List.getElem_mem hi)
theorem g82_ok (p : Int) : cf82 (p, ()) = some (isP p, ()) := rfl
theorem g73_ok (x lo hi : Int) : cf73 (x, lo, hi, ()) = some (decide (lo ≤ x) && decide (x ≤ hi), ()) := rfl
theorem a1_72 {p n : Int} {L : List Mat} (ho : L.all okM = true) (hl : L.length ≤ 48) {F0 : Nat} {kx : ShVal sh72_4 → Option R72} (F : Nat) (hF : L.length < F) :
    iter (fun s k => st72_4 cf82 cf73 cf140 cf139 cf141 cf138 cf58 F0 s k kx) F ((p, n, L, ()), (((0 : Int), ()), ())) = bif (List.range L.length).all (fun i => matB p n (atM L i) && srtB' L i) then kx ((p, n, L, ()), (((L.length : Int), ()), ())) else some (false, ()) :=
  iter_all (st := fun i => ((p, n, L, ()), (((i : Int), ()), ()))) (fun i hi k => by
    have g1 : cf58 (p, n, L.getD i (Ty.dflt mat), ()) = some (matB p n (atM L i), ()) := g58_ok (okM_at ho hi)
    simp only [st72_4]
    simp (disch := omega) only [dln_t, cond_true, ofn, dlt_t, ib_t, tn_cast, w6_id]
    rw [g1]
    simp only
    cases matB p n (atM L i) with
    | false => rfl
    | true =>
      simp only [Bool.not_true, cond_false, Bool.true_and]
      by_cases h0 : i = 0
      · subst h0
        rw [dlt_f (by omega)]; rfl
      · rw [dlt_t (by omega), cond_true]
        simp (disch := omega) only [ib_t, cond_true]
        have e : tn ((i : Int) - 1) = i - 1 := by show ((i : Int) - 1).toNat = _; omega
        rw [e]
        have g2 : cf138 (L.getD (i - 1) (Ty.dflt mat), L.getD i (Ty.dflt mat), ()) = some (decide (keyM (atM L (i - 1)) < keyM (atM L i)), ()) := g138_ok (okM_at ho (by omega)) (okM_at ho hi)
        rw [g2]
        simp only [srtB', decide_eq_false h0, Bool.false_or]
        cases decide (keyM (atM L (i - 1)) < keyM (atM L i)) <;> rfl) (fun k => by
    simp only [st72_4]
    simp (disch := omega) only [dln_t, cond_true, ofn, dlt_f, cond_false]) F hF
theorem a2_72 {p n : Int} {L : List Mat} (hp : p ≠ 0) (hn : n = 1 ∨ n = 2 ∨ n = 3) (hl : L.length ≤ 48) {i : Nat} (hi : i < L.length) {F0 : Nat} {kx : ShVal sh72_12 → Option R72} (F : Nat) (hF : L.length < F) :
    iter (fun s k => st72_12 cf82 cf73 cf140 cf139 cf141 cf138 cf58 F0 s k kx) F ((p, n, L, ()), ((((i : Nat) : Int), ()), (((0 : Int), ()), ()))) = bif (List.range L.length).all (fun j => cloB p n L i j) then kx ((p, n, L, ()), (((i : Int), ()), (((L.length : Int), ()), ()))) else some (false, ()) :=
  iter_all (st := fun j => ((p, n, L, ()), (((i : Int), ()), (((j : Int), ()), ())))) (fun j hj k => by
    simp only [st72_12]
    simp (disch := omega) only [dln_t, cond_true, ofn, dlt_t, ib_t, tn_cast, w6_id]
    have g1 : cf140 (p, n, L.getD i (Ty.dflt mat), L.getD j (Ty.dflt mat), ()) = some (timW p n (atM L i) (atM L j), ()) := g140_ok hp hn
    rw [g1]
    simp only
    rw [g139_ok (by omega)]
    simp only
    rw [fndI_neg]
    change (bif !cloB p n L i j then _ else _) = _
    cases cloB p n L i j <;> rfl) (fun k => by
    simp only [st72_12]
    simp (disch := omega) only [dln_t, cond_true, ofn, dlt_f, cond_false]) F hF
theorem a3_72 {p n : Int} {L : List Mat} (hp : p ≠ 0) (hn : n = 1 ∨ n = 2 ∨ n = 3) (hl : L.length ≤ 48) {F0 : Nat} (hF0 : L.length < F0) {kx : ShVal sh72_9 → Option R72} (F : Nat) (hF : L.length < F) :
    iter (fun s k => st72_9 cf82 cf73 cf140 cf139 cf141 cf138 cf58 F0 s k kx) F ((p, n, L, ()), (((0 : Int), ()), ())) = bif (List.range L.length).all (fun i => (List.range L.length).all fun j => cloB p n L i j) then kx ((p, n, L, ()), (((L.length : Int), ()), ())) else some (false, ()) :=
  iter_all (st := fun i => ((p, n, L, ()), (((i : Int), ()), ()))) (fun i hi k => by
    simp only [st72_9, ru72_12]
    simp (disch := omega) only [dln_t, cond_true, ofn, dlt_t]
    rw [a2_72 hp hn hl hi F0 hF0]
    simp (disch := omega) only [w6_id]
    rfl) (fun k => by
    simp only [st72_9]
    simp (disch := omega) only [dln_t, cond_true, ofn, dlt_f, cond_false]) F hF
theorem isP_ne {p : Int} (h : isP p = true) : p ≠ 0 := by have := isP_pos h; omega
noncomputable def cf72 : G72 := fun x => if (els x.1).all okM = true ∧ (els x.1).length ≤ 2000000 then some (grB x.1, ()) else none
theorem k72 : KOne Try.prog 72 ⟨[.v (.pair i64 (.pair i64 (.pair (.slice 27 mat) .unit)))], [.bool], false, false, 0, cf72⟩ := ok72 _ _ _ _ _ _ _ (.cons k82 (.cons k73 (.cons k140 (.cons k139 (.cons k141 (.cons k138 (.cons k58 .nil))))))) cf72 fun x y h => by
  obtain ⟨⟨p, n, L, _⟩, _⟩ := x
  change List Mat at L
  change Int at p
  change Int at n
  simp only [cf72] at h
  split at h
  · rename_i hc
    injection h with h; subst h
    have ho : L.all okM = true := hc.1
    have hl : L.length ≤ 2000000 := hc.2
    refine ⟨L.length + 1, ?_⟩
    simp only [fn72]
    simp (disch := omega) only [dln_t, cond_true, ofn]
    rw [g82_ok p, g73_ok n 1 3]
    simp only
    change _ = some ((isP p && inR n) && (decide ((1 : Int) ≤ (L.length : Int)) && decide ((L.length : Int) ≤ 48)) && ((List.range L.length).all fun i => matB p n (atM L i)) && ((List.range L.length).all fun i => srtB' L i) && ((List.range L.length).all fun i => (List.range L.length).all fun j => cloB p n L i j) && decide (uniM n ∈ L), ())
    cases hP : isP p with
    | false => rfl
    | true =>
      simp only [Bool.not_true, cond_false, Bool.true_and]
      change (bif !(inR n) then _ else _) = _
      cases hR : inR n with
      | false => rfl
      | true =>
        simp only [Bool.not_true, cond_false, Bool.true_and]
        by_cases h1 : (L.length : Int) < 1
        · rw [dlt_t h1, dle_f (show (L.length : Int) < 1 from h1)]; rfl
        · rw [dlt_f (show (1 : Int) ≤ L.length by omega), dle_t (show (1 : Int) ≤ L.length by omega)]
          simp only [cond_false, Bool.true_and]
          by_cases h2 : (48 : Int) < L.length
          · rw [dlt_t h2, dle_f h2]; rfl
          · rw [dlt_f (show (L.length : Int) ≤ 48 by omega), dle_t (show (L.length : Int) ≤ 48 by omega)]
            simp only [cond_false, Bool.true_and]
            simp only [ru72_4, ru72_9]
            rw [a1_72 ho (by omega) _ (by omega), all_and]
            cases ((List.range L.length).all fun i => matB p n (atM L i)) with
            | false => rfl
            | true =>
              cases ((List.range L.length).all fun i => srtB' L i) with
              | false => rfl
              | true =>
                simp only [Bool.and_self, cond_true, Bool.true_and]
                rw [a3_72 (isP_ne hP) (inR_cases hR) (by omega) (by omega) _ (by omega)]
                cases ((List.range L.length).all fun i => (List.range L.length).all fun j => cloB p n L i j) with
                | false => rfl
                | true =>
                  simp only [cond_true, Bool.true_and]
                  rw [g141_ok (inR_cases hR)]
                  simp only
                  rw [g139_ok (by omega)]
                  simp only
                  rw [fndI_nn]
  · cases h
theorem g72_ok {g : Gr} (h1 : (els g).all okM = true) (h2 : (els g).length ≤ 2000000) : cf72 (g, ()) = some (grB g, ()) := if_pos ⟨h1, h2⟩
theorem cmp_nn {A B : Mat} : decide ((0 : Int) ≤ cmpM A B) = !decide (keyM A < keyM B) := by
  unfold cmpM sgn
  split
  · rename_i h; rw [decide_eq_true h]; rfl
  · rename_i h; rw [decide_eq_false h]; split <;> rfl
theorem g162_ok {A B : Mat} (ha : okM A = true) (hb : okM B = true) : cf162 (A, B, ()) = some (cmpM A B, ()) := if_pos ⟨okMc_of ha, okMc_of hb⟩
theorem a2_127 {p n : Int} {L : List Mat} {g61 : G61} {g165 : G165} {g162 : G162} (hp : p ≠ 0) (hn : n = 1 ∨ n = 2 ∨ n = 3) (hl : L.length ≤ 48) {i : Nat} {F0 : Nat} {kx : ShVal sh127_9 → Option R127} (F : Nat) (hF : L.length < F) :
    iter (fun s k => st127_9 g61 g165 cf164 cf163 g162 F0 s k kx) F ((p, n, L, ()), ((atM L i, ()), ((L, ()), (((L.length : Int), ()), (((i : Int), ()), ((L, ()), (((L.length : Int), ()), (((0 : Int), ()), ())))))))) =
      bif (List.range L.length).all (fun j => cloB p n L i j) then kx ((p, n, L, ()), ((atM L i, ()), ((L, ()), (((L.length : Int), ()), (((i : Int), ()), ((L, ()), (((L.length : Int), ()), (((L.length : Int), ()), ())))))))) else some (false, ()) :=
  iter_all (st := fun j => ((p, n, L, ()), ((atM L i, ()), ((L, ()), (((L.length : Int), ()), (((i : Int), ()), ((L, ()), (((L.length : Int), ()), (((j : Int), ()), ()))))))))) (fun j hj k => by
    simp only [st127_9]
    simp (disch := omega) only [cond_true, ofn, dlt_t, ib_t, tn_cast, w6_id]
    have g1 : cf164 (p, n, atM L i, L.getD j (Ty.dflt mat), ()) = some (timW p n (atM L i) (atM L j), ()) := g164_ok hp hn
    rw [g1]
    simp only
    rw [g163_ok (by omega)]
    simp only
    change (bif !cloB p n L i j then _ else _) = _
    cases cloB p n L i j <;> rfl) (fun k => by
    simp only [st127_9]
    simp (disch := omega) only [ofn, dlt_f, cond_false]) F hF
theorem a1_127 {p n : Int} {L : List Mat} {g61 : G61} {g165 : G165} (hp : p ≠ 0) (hn : n = 1 ∨ n = 2 ∨ n = 3) (ho : L.all okM = true) (hl : L.length ≤ 48) {F0 : Nat} (hF0 : L.length < F0) {kx : ShVal sh127_4 → Option R127} (F : Nat) (hF : L.length < F) :
    iter (fun s k => st127_4 g61 g165 cf164 cf163 cf162 F0 s k kx) F ((p, n, L, ()), ((L, ()), (((L.length : Int), ()), (((0 : Int), ()), ())))) =
      bif (List.range L.length).all (fun i => srtB' L i && (List.range L.length).all fun j => cloB p n L i j) then kx ((p, n, L, ()), ((L, ()), (((L.length : Int), ()), (((L.length : Int), ()), ())))) else some (false, ()) :=
  iter_all (st := fun i => ((p, n, L, ()), ((L, ()), (((L.length : Int), ()), (((i : Int), ()), ()))))) (fun i hi k => by
    simp only [st127_4, ru127_9]
    simp (disch := omega) only [dln_t, cond_true, ofn, dlt_t, ib_t, tn_cast, w6_id]
    have in2 := a2_127 (g61 := g61) (g165 := g165) (g162 := cf162) (i := i) hp hn hl (F0 := F0) (kx := fun s' => match s' with | ((t1_0, t1_1, t1_2, _), (t4, _), (t28, _), (t29, _), (t30, _), (t49, _), (t50, _), (t51, _), _) => k ((t1_0, (t1_1, (t1_2, ()))), ((t28, ()), ((t29, ()), (((w6 (t30 + (1 : Int))), ()), ()))))) F0 hF0
    by_cases h0 : i = 0
    · subst h0
      rw [dlt_f (by omega), cond_false]
      refine in2.trans ?_
      simp (disch := omega) only [w6_id]
      rfl
    · rw [dlt_t (by omega), cond_true]
      simp (disch := omega) only [ib_t, cond_true]
      have e : tn ((i : Int) - 1) = i - 1 := by show ((i : Int) - 1).toNat = _; omega
      rw [e]
      have g2 : cf162 (L.getD (i - 1) (Ty.dflt mat), L.getD i (Ty.dflt mat), ()) = some (cmpM (atM L (i - 1)) (atM L i), ()) := g162_ok (okM_at ho (by omega)) (okM_at ho hi)
      rw [g2]
      simp only
      rw [cmp_nn]
      simp only [srtB', decide_eq_false h0, Bool.false_or]
      cases decide (keyM (atM L (i - 1)) < keyM (atM L i)) with
      | false => rfl
      | true =>
        simp only [Bool.not_true, cond_false, Bool.true_and]
        refine in2.trans ?_
        simp (disch := omega) only [w6_id]
        rfl) (fun k => by
    simp only [st127_4]
    simp (disch := omega) only [ofn, dlt_f, cond_false]) F hF
noncomputable def cf127 : G127 := fun x => if (els x.1).all okM = true ∧ (els x.1).length ≤ 2000000 then some (grB x.1, ()) else none
theorem k127 : KOne Try.prog 127 ⟨[.v (.pair i64 (.pair i64 (.pair (.slice 27 mat) .unit)))], [.bool], false, false, 0, cf127⟩ := ok127 _ _ _ _ _ (.cons k61 (.cons k165 (.cons k164 (.cons k163 (.cons k162 .nil))))) cf127 fun x y h => by
  obtain ⟨⟨p, n, L, _⟩, _⟩ := x
  change List Mat at L
  change Int at p
  change Int at n
  simp only [cf127] at h
  split at h
  · rename_i hc
    injection h with h; subst h
    have ho : L.all okM = true := hc.1
    have hl : L.length ≤ 2000000 := hc.2
    refine ⟨L.length + 1, ?_⟩
    simp only [fn127]
    simp (disch := omega) only [dln_t, cond_true, ofn]
    change _ = some ((isP p && inR n) && (decide ((1 : Int) ≤ (L.length : Int)) && decide ((L.length : Int) ≤ 48)) && ((List.range L.length).all fun i => matB p n (atM L i)) && ((List.range L.length).all fun i => srtB' L i) && ((List.range L.length).all fun i => (List.range L.length).all fun j => cloB p n L i j) && decide (uniM n ∈ L), ())
    have ea : ((List.range L.length).all fun i => matB p n (atM L i)) = L.all (matB p n) := all_range (d := DM) L
    rw [ea]
    skip
    by_cases h1 : (L.length : Int) < 1
    · rw [dlt_t h1, dle_f (show (L.length : Int) < 1 from h1)]
      simp only [cond_true, Bool.false_and, Bool.and_false]
    · rw [dlt_f (show (1 : Int) ≤ L.length by omega), dle_t (show (1 : Int) ≤ L.length by omega)]
      simp only [cond_false, Bool.true_and]
      by_cases h2 : (48 : Int) < L.length
      · rw [dlt_t h2, dle_f h2]
        simp only [cond_true, Bool.false_and, Bool.and_false]
      · rw [dlt_f (show (L.length : Int) ≤ 48 by omega), dle_t (show (L.length : Int) ≤ 48 by omega)]
        simp only [cond_false, Bool.and_true]
        have e61 : cf61 (p, n, L, ()) = some (L.all (matB p n) && (isP p && inR n), ()) := if_pos ⟨by show L.length ≤ 1000000; omega, ho⟩
        rw [e61]
        simp only
        cases hA : L.all (matB p n) with
        | false => cases isP p <;> cases inR n <;> rfl
        | true =>
          cases hP : isP p with
          | false => rfl
          | true =>
            cases hR : inR n with
            | false => rfl
            | true =>
              simp only [Bool.and_self, Bool.not_true, cond_false, Bool.true_and]
              simp only [ru127_4]
              rw [a1_127 (isP_ne hP) (inR_cases hR) ho (by omega) (by omega) _ (by omega), all_and]
              cases ((List.range L.length).all fun i => srtB' L i) with
              | false => rfl
              | true =>
                simp only [Bool.true_and]
                cases ((List.range L.length).all fun i => (List.range L.length).all fun j => cloB p n L i j) with
                | false => rfl
                | true =>
                  simp only [cond_true, Bool.true_and]
                  rw [g165_ok (inR_cases hR)]
                  simp only
                  rw [g163_ok (by omega)]
  · cases h
theorem g127_ok {g : Gr} (h1 : (els g).all okM = true) (h2 : (els g).length ≤ 2000000) : cf127 (g, ()) = some (grB g, ()) := if_pos ⟨h1, h2⟩
structure IsG (g : Gr) : Prop where
  hP : isP g.1 = true
  hR : inR g.2.1 = true
  len : 1 ≤ (els g).length ∧ (els g).length ≤ 48
  mat : ∀ i, i < (els g).length → matB g.1 g.2.1 (atM (els g) i) = true
  srt : ∀ i, i < (els g).length → 0 < i → keyM (atM (els g) (i - 1)) < keyM (atM (els g) i)
  clo : ∀ i j, i < (els g).length → j < (els g).length → timW g.1 g.2.1 (atM (els g) i) (atM (els g) j) ∈ els g
  uni : uniM g.2.1 ∈ els g
theorem grB_is {g : Gr} (h : grB g = true) : IsG g := by
  simp only [grB, Bool.and_eq_true, decide_eq_true_eq, List.all_eq_true, List.mem_range] at h
  obtain ⟨⟨⟨⟨⟨⟨h1, h2⟩, h3, h4⟩, h5⟩, h6⟩, h7⟩, h8⟩ := h
  refine ⟨h1, h2, ⟨by omega, by omega⟩, h5, fun i hi h0 => ?_, fun i j hi hj => ?_, h8⟩
  · have := h6 i hi
    simp only [srtB', Bool.or_eq_true, decide_eq_true_eq] at this
    rcases this with q | q
    · omega
    · exact q
  · have := h7 i hi j hj
    simpa only [cloB, decide_eq_true_eq] using this
theorem IsG.k {g : Gr} (h : IsG g) : ∃ k : Nat, g.2.1 = (k : Int) ∧ 1 ≤ k ∧ k ≤ 3 := by
  rcases inR_cases h.hR with q | q | q
  · exact ⟨1, q, by omega, by omega⟩
  · exact ⟨2, q, by omega, by omega⟩
  · exact ⟨3, q, by omega, by omega⟩
theorem okG_of {g : Gr} (h : okV (.pair i64 (.pair i64 (.pair (.slice 23 mat) .unit))) g = true) : (els g).length ≤ 9223372036854775807 ∧ (els g).all okM = true := by
  obtain ⟨p, n, L, u⟩ := g
  simp only [okV, Bool.and_true, Bool.and_eq_true, decide_eq_true_eq] at h
  exact ⟨h.2.2.1, h.2.2.2⟩
abbrev R130 : Type := Ress [i64]
abbrev G130 : Type := Args [.v i64, .v i64, .v mat] → Option R130
abbrev kp130 : List (Nat × List Nat) := [(0, [1, 5, 0]), (1, [7, 5, 0]), (2, [15, 7, 5, 0]), (4, [7, 5, 0]), (3, [7, 5, 0]), (5, [5, 8, 0]), (6, [9, 5, 8, 0]), (7, [23, 8, 9, 5, 0]), (9, [11, 10, 8, 9, 5, 0]), (10, [8, 12, 9, 5, 0]), (11, [9, 5, 8, 0]), (8, [9, 5, 8, 0]), (12, [6])]
abbrev ct130 (g74 : G74) : CTab := [(74, ⟨[.v i64, .v i64], [i64], false, false, 0, g74⟩)]
abbrev kr130 : Env → Option R130 := endK TT [.tmp 6] [i64] false false
abbrev sh130_2 : Shape := [(0, vv i64), (5, bb mat), (7, vv i64)]
def st130_2 (g74 : G74) (F : Nat) (s : ShVal sh130_2) (k kx : ShVal sh130_2 → Option R130) : Option R130 :=
  match s with
  | ((t0, _), (t5, _), (t7, _), _) => (bif decide (t7 < (3 : Int)) then (bif ib t7 (Int.ofNat 3) then (bif ib t7 (Int.ofNat 3) then k ((t0, ()), (((tset (tset (1 : Int) 3 (tget (Ty.dflt (.arr 3 (.int .u8))) 3 t5 (tn t7)) (tn t7)) 3 t5 (tn t7)), ()), (((w6 (t7 + (1 : Int))), ()), ()))) else none) else none) else kx ((t0, ()), ((t5, ()), ((t7, ()), ()))))
def ru130_2 (g74 : G74) (F : Nat) (s : ShVal sh130_2) (kx : ShVal sh130_2 → Option R130) : Option R130 := iter (fun s k => st130_2 g74 F s k kx) F s
abbrev ls130_2 (g74 : G74) (F : Nat) : LS R130 := ⟨sh130_2, 0, ru130_2 g74 F⟩
abbrev sh130_7 : Shape := [(0, vv i64), (5, bb mat), (8, vv i64), (9, vv i64)]
def st130_7 (g74 : G74) (F : Nat) (s : ShVal sh130_7) (k kx : ShVal sh130_7 → Option R130) : Option R130 :=
  match s with
  | ((t0, _), (t5, _), (t8, _), (t9, _), _) => (bif decide (t9 < (3 : Int)) then (bif ib (Int.tmod (w6 (t9 + (1 : Int))) (3 : Int)) (Int.ofNat 3) then (bif ib (Int.tmod (w6 (t9 + (2 : Int))) (3 : Int)) (Int.ofNat 3) then (bif ib (Int.tmod (w6 (t9 + (2 : Int))) (3 : Int)) (Int.ofNat 3) then (bif ib (Int.tmod (w6 (t9 + (1 : Int))) (3 : Int)) (Int.ofNat 3) then (bif ib t9 (Int.ofNat 3) then k ((t0, ()), ((t5, ()), (((w6 (t8 + (w6 ((w6 (tget (0 : Int) 3 (tget (Ty.dflt (.arr 3 (.int .u8))) 3 t5 (tn (0 : Int))) (tn t9))) * (w6 ((w6 ((w6 (tget (0 : Int) 3 (tget (Ty.dflt (.arr 3 (.int .u8))) 3 t5 (tn (1 : Int))) (tn (Int.tmod (w6 (t9 + (1 : Int))) (3 : Int))))) * (w6 (tget (0 : Int) 3 (tget (Ty.dflt (.arr 3 (.int .u8))) 3 t5 (tn (2 : Int))) (tn (Int.tmod (w6 (t9 + (2 : Int))) (3 : Int))))))) - (w6 ((w6 (tget (0 : Int) 3 (tget (Ty.dflt (.arr 3 (.int .u8))) 3 t5 (tn (1 : Int))) (tn (Int.tmod (w6 (t9 + (2 : Int))) (3 : Int))))) * (w6 (tget (0 : Int) 3 (tget (Ty.dflt (.arr 3 (.int .u8))) 3 t5 (tn (2 : Int))) (tn (Int.tmod (w6 (t9 + (1 : Int))) (3 : Int))))))))))))), ()), (((w6 (t9 + (1 : Int))), ()), ())))) else none) else none) else none) else none) else none) else kx ((t0, ()), ((t5, ()), ((t8, ()), ((t9, ()), ())))))
def ru130_7 (g74 : G74) (F : Nat) (s : ShVal sh130_7) (kx : ShVal sh130_7 → Option R130) : Option R130 := iter (fun s k => st130_7 g74 F s k kx) F s
abbrev ls130_7 (g74 : G74) (F : Nat) : LS R130 := ⟨sh130_7, 2, ru130_7 g74 F⟩
def fn130 (g74 : G74) (F : Nat) (x : Args [.v i64, .v i64, .v mat]) : Option R130 :=
  match x with
  | (x0, x1, x2, _) => (ru130_2 g74 F ((x0, ()), ((x2, ()), ((x1, ()), ()))) (fun s' => match s' with | ((t0, _), (t5, _), (t7, _), _) => (ru130_7 g74 F ((t0, ()), ((t5, ()), (((0 : Int), ()), (((0 : Int), ()), ())))) (fun s' => match s' with | ((t0, _), (t5, _), (t8, _), (t9, _), _) => (match (g74 (t0, (t8, ()))) with | some r16 => (some (r16.1, ())) | none => none)))))
theorem ev130_2 (g74 : G74) (F : Nat) (s : ShVal sh130_2) (k kx : ShVal sh130_2 → Option R130) : evL TT (ct130 g74 ) kp130 [] (loopOf Try.f130 2) (envOf sh130_2 s) (fitK sh130_2 k) (fun j e => bif Nat.beq j 0 then fitK sh130_2 kx e else none) kr130 = st130_2 g74 F s k kx := by
  obtain ⟨⟨t0, _⟩, ⟨t5, _⟩, ⟨t7, _⟩, _⟩ := s
  kernel_rfl
theorem ok130_2 (g74 : G74) (F : Nat) (hK : KOK Try.prog (ct130 g74 )) : LSOK Try.prog ⟨67, false, undef⟩ (ls130_2 g74 F) (loopOf Try.f130 2) kr130 :=
  loop_ok (st130_2 g74 F) mixed tt_ok hK (by kernel_rfl) (LTOK_by (l := []) (by kernel_rfl) trivial) (ev130_2 g74 F)
theorem ev130_7 (g74 : G74) (F : Nat) (s : ShVal sh130_7) (k kx : ShVal sh130_7 → Option R130) : evL TT (ct130 g74 ) kp130 [] (loopOf Try.f130 7) (envOf sh130_7 s) (fitK sh130_7 k) (fun j e => bif Nat.beq j 2 then fitK sh130_7 kx e else none) kr130 = st130_7 g74 F s k kx := by
  obtain ⟨⟨t0, _⟩, ⟨t5, _⟩, ⟨t8, _⟩, ⟨t9, _⟩, _⟩ := s
  kernel_rfl
theorem ok130_7 (g74 : G74) (F : Nat) (hK : KOK Try.prog (ct130 g74 )) : LSOK Try.prog ⟨67, false, undef⟩ (ls130_7 g74 F) (loopOf Try.f130 7) kr130 :=
  loop_ok (st130_7 g74 F) mixed tt_ok hK (by kernel_rfl) (LTOK_by (l := []) (by kernel_rfl) trivial) (ev130_7 g74 F)
theorem ev130 (g74 : G74) (F : Nat) (x : Args [.v i64, .v i64, .v mat]) : fnK TT (ct130 g74 ) kp130 [i64] [(2, ls130_2 g74 F), (7, ls130_7 g74 F)] (bodyOf Try.f130) [.tmp 6] [.v i64, .v i64, .v mat] false false x = fn130 g74 F x := by
  obtain ⟨x0, x1, x2, _⟩ := x
  kernel_rfl
theorem ok130 (g74 : G74) (hK : KOK Try.prog (ct130 g74 )) (cf : G130) (h : ∀ x y, cf x = some y → ∃ F, fn130 g74 F x = some y) : KOne Try.prog 130 ⟨[.v i64, .v i64, .v mat], [i64], false, false, 0, cf⟩ :=
  fn_one rfl (c := bodyOf Try.f130) mixed tt_ok hK Try.func130 (by kernel_rfl) (by kernel_rfl) (Nat.le_of_ble_eq_true (by kernel_rfl)) (by decide) fun x y hxy => by
    obtain ⟨F, hF⟩ := h x y hxy
    exact ⟨[(2, ls130_2 g74 F), (7, ls130_7 g74 F)], LTOK_by (l := [loopOf Try.f130 2, loopOf Try.f130 7]) (by kernel_rfl) ⟨ls_at (by kernel_rfl) (ok130_2 g74 F hK), ⟨ls_at (by kernel_rfl) (ok130_7 g74 F hK), trivial⟩⟩, (ev130 g74 F x).trans hF⟩
abbrev R132 : Type := Ress [i64]
abbrev G132 : Type := Args [.v i64, .v i64, .p mat] → Option R132
abbrev kp132 : List (Nat × List Nat) := [(0, [0, 1, 2]), (1, [5])]
abbrev ct132 : CTab := []
def fn132 (F : Nat) (x : Args [.v i64, .v i64, .p mat]) : Option R132 :=
  match x with
  | (x0, x1, x2, _) => (bif ib x0 (Int.ofNat 3) then (bif ib x1 (Int.ofNat 3) then (some ((w6 (tget (0 : Int) 3 (tget (Ty.dflt (.arr 3 (.int .u8))) 3 x2 (tn x0)) (tn x1))), ())) else none) else none)
theorem ev132 (F : Nat) (x : Args [.v i64, .v i64, .p mat]) : fnK TT (ct132 ) kp132 [i64] [] (bodyOf Try.f132) [.tmp 5] [.v i64, .v i64, .p mat] false false x = fn132 F x := by
  obtain ⟨x0, x1, x2, _⟩ := x
  kernel_rfl
theorem ok132 (hK : KOK Try.prog (ct132 )) (cf : G132) (h : ∀ x y, cf x = some y → ∃ F, fn132 F x = some y) : KOne Try.prog 132 ⟨[.v i64, .v i64, .p mat], [i64], false, false, 0, cf⟩ :=
  fn_one rfl (c := bodyOf Try.f132) mixed tt_ok hK Try.func132 (by kernel_rfl) (by kernel_rfl) (Nat.le_of_ble_eq_true (by kernel_rfl)) (by decide) fun x y hxy => by
    obtain ⟨F, hF⟩ := h x y hxy
    exact ⟨[], LTOK_by (l := []) (by kernel_rfl) trivial, (ev132 F x).trans hF⟩
abbrev R59 : Type := Ress [(.slice 2 i64)]
abbrev G59 : Type := Args [.v i64, .v i64, .v mat] → Option R59
abbrev kp59 : List (Nat × List Nat) := [(0, [1, 5, 0]), (1, [1, 8, 5, 7, 0]), (2, [1, 8, 9, 5, 7, 0]), (3, [14, 7, 5, 9, 8, 1, 0]), (5, [5, 9, 8, 1, 7, 0]), (6, [10, 5, 9, 8, 1, 7, 0]), (7, [29, 8, 10, 5, 9, 1, 7, 0]), (9, [10, 5, 9, 8, 1, 7, 0]), (8, [10, 5, 9, 8, 1, 7, 0]), (4, [1, 8, 9, 5, 7, 0]), (10, [5, 1, 11, 0, 8]), (11, [67, 5, 1, 11, 0, 8]), (12, [6]), (13, [75, 11, 8, 0, 1, 5]), (14, [6]), (15, [6])]
abbrev ct59 (g74 : G74) (g130 : G130) : CTab := [(74, ⟨[.v i64, .v i64], [i64], false, false, 0, g74⟩), (130, ⟨[.v i64, .v i64, .v mat], [i64], false, false, 0, g130⟩)]
abbrev kr59 : Env → Option R59 := endK TT [.tmp 6] [(.slice 2 i64)] true true
abbrev sh59_7 : Shape := [(0, vv i64), (1, vv i64), (5, bb mat), (7, vv i64), (8, vv i64), (9, vv i64), (10, vv i64)]
def st59_7 (g74 : G74) (g130 : G130) (F : Nat) (s : ShVal sh59_7) (k kx : ShVal sh59_7 → Option R59) : Option R59 :=
  match s with
  | ((t0, _), (t1, _), (t5, _), (t7, _), (t8, _), (t9, _), (t10, _), _) => (bif decide (t10 < t1) then (bif ib t9 (Int.ofNat 3) then (bif ib t9 (Int.ofNat 3) then (bif ib t10 (Int.ofNat 3) then (bif ib t10 (Int.ofNat 3) then (bif ib t9 (Int.ofNat 3) then (bif ib t10 (Int.ofNat 3) then (bif ib t10 (Int.ofNat 3) then (bif ib t9 (Int.ofNat 3) then k ((t0, ()), ((t1, ()), ((t5, ()), ((t7, ()), (((w6 ((w6 (t8 + (w6 ((w6 (tget (0 : Int) 3 (tget (Ty.dflt (.arr 3 (.int .u8))) 3 t5 (tn t9)) (tn t9))) * (w6 (tget (0 : Int) 3 (tget (Ty.dflt (.arr 3 (.int .u8))) 3 t5 (tn t10)) (tn t10))))))) - (w6 ((w6 (tget (0 : Int) 3 (tget (Ty.dflt (.arr 3 (.int .u8))) 3 t5 (tn t9)) (tn t10))) * (w6 (tget (0 : Int) 3 (tget (Ty.dflt (.arr 3 (.int .u8))) 3 t5 (tn t10)) (tn t9))))))), ()), ((t9, ()), (((w6 (t10 + (1 : Int))), ()), ()))))))) else none) else none) else none) else none) else none) else none) else none) else none) else kx ((t0, ()), ((t1, ()), ((t5, ()), ((t7, ()), ((t8, ()), ((t9, ()), ((t10, ()), ()))))))))
def ru59_7 (g74 : G74) (g130 : G130) (F : Nat) (s : ShVal sh59_7) (kx : ShVal sh59_7 → Option R59) : Option R59 := iter (fun s k => st59_7 g74 g130 F s k kx) F s
abbrev ls59_7 (g74 : G74) (g130 : G130) (F : Nat) : LS R59 := ⟨sh59_7, 2, ru59_7 g74 g130 F⟩
abbrev sh59_3 : Shape := [(0, vv i64), (1, vv i64), (5, bb mat), (7, vv i64), (8, vv i64), (9, vv i64)]
def st59_3 (g74 : G74) (g130 : G130) (F : Nat) (s : ShVal sh59_3) (k kx : ShVal sh59_3 → Option R59) : Option R59 :=
  match s with
  | ((t0, _), (t1, _), (t5, _), (t7, _), (t8, _), (t9, _), _) => (bif decide (t9 < t1) then (bif ib t9 (Int.ofNat 3) then (bif ib t9 (Int.ofNat 3) then (ru59_7 g74 g130 F ((t0, ()), ((t1, ()), ((t5, ()), (((w6 (t7 + (w6 (tget (0 : Int) 3 (tget (Ty.dflt (.arr 3 (.int .u8))) 3 t5 (tn t9)) (tn t9))))), ()), ((t8, ()), ((t9, ()), (((w6 (t9 + (1 : Int))), ()), ()))))))) (fun s' => match s' with | ((t0, _), (t1, _), (t5, _), (t7, _), (t8, _), (t9, _), (t10, _), _) => k ((t0, ()), ((t1, ()), ((t5, ()), ((t7, ()), ((t8, ()), (((w6 (t9 + (1 : Int))), ()), ())))))))) else none) else none) else kx ((t0, ()), ((t1, ()), ((t5, ()), ((t7, ()), ((t8, ()), ((t9, ()), ())))))))
def ru59_3 (g74 : G74) (g130 : G130) (F : Nat) (s : ShVal sh59_3) (kx : ShVal sh59_3 → Option R59) : Option R59 := iter (fun s k => st59_3 g74 g130 F s k kx) F s
abbrev ls59_3 (g74 : G74) (g130 : G130) (F : Nat) : LS R59 := ⟨sh59_3, 0, ru59_3 g74 g130 F⟩
def fn59 (g74 : G74) (g130 : G130) (F : Nat) (x : Args [.v i64, .v i64, .v mat]) : Option R59 :=
  match x with
  | (x0, x1, x2, _) => (ru59_3 g74 g130 F ((x0, ()), ((x1, ()), ((x2, ()), (((0 : Int), ()), (((0 : Int), ()), (((0 : Int), ()), ())))))) (fun s' => match s' with | ((t0, _), (t1, _), (t5, _), (t7, _), (t8, _), (t9, _), _) => (match (g74 (t0, ((w6 (-t7)), ()))) with | some r15 => (bif decide (t1 = (2 : Int)) then (match (g74 (t0, (t8, ()))) with | some r18 => (some ((((1 : Int) :: (r15.1 :: [])) ++ (r18.1 :: [])), ())) | none => none) else (bif decide (t1 = (3 : Int)) then (match (g74 (t0, (t8, ()))) with | some r19 => (match (g130 (t0, (t1, (t5, ())))) with | some r20 => (match (g74 (t0, ((w6 (-r20.1)), ()))) with | some r21 => (some ((((1 : Int) :: (r15.1 :: [])) ++ (r19.1 :: (r21.1 :: []))), ())) | none => none) | none => none) | none => none) else (some (((1 : Int) :: (r15.1 :: [])), ())))) | none => none)))
theorem ev59_7 (g74 : G74) (g130 : G130) (F : Nat) (s : ShVal sh59_7) (k kx : ShVal sh59_7 → Option R59) : evL TT (ct59 g74 g130 ) kp59 [] (loopOf Try.f59 7) (envOf sh59_7 s) (fitK sh59_7 k) (fun j e => bif Nat.beq j 2 then fitK sh59_7 kx e else none) kr59 = st59_7 g74 g130 F s k kx := by
  obtain ⟨⟨t0, _⟩, ⟨t1, _⟩, ⟨t5, _⟩, ⟨t7, _⟩, ⟨t8, _⟩, ⟨t9, _⟩, ⟨t10, _⟩, _⟩ := s
  kernel_rfl
theorem ok59_7 (g74 : G74) (g130 : G130) (F : Nat) (hK : KOK Try.prog (ct59 g74 g130 )) : LSOK Try.prog ⟨90, false, undef⟩ (ls59_7 g74 g130 F) (loopOf Try.f59 7) kr59 :=
  loop_ok (st59_7 g74 g130 F) mixed tt_ok hK (by kernel_rfl) (LTOK_by (l := []) (by kernel_rfl) trivial) (ev59_7 g74 g130 F)
theorem ev59_3 (g74 : G74) (g130 : G130) (F : Nat) (s : ShVal sh59_3) (k kx : ShVal sh59_3 → Option R59) : evL TT (ct59 g74 g130 ) kp59 [(7, ls59_7 g74 g130 F)] (loopOf Try.f59 3) (envOf sh59_3 s) (fitK sh59_3 k) (fun j e => bif Nat.beq j 0 then fitK sh59_3 kx e else none) kr59 = st59_3 g74 g130 F s k kx := by
  obtain ⟨⟨t0, _⟩, ⟨t1, _⟩, ⟨t5, _⟩, ⟨t7, _⟩, ⟨t8, _⟩, ⟨t9, _⟩, _⟩ := s
  kernel_rfl
theorem ok59_3 (g74 : G74) (g130 : G130) (F : Nat) (hK : KOK Try.prog (ct59 g74 g130 )) : LSOK Try.prog ⟨90, false, undef⟩ (ls59_3 g74 g130 F) (loopOf Try.f59 3) kr59 :=
  loop_ok (st59_3 g74 g130 F) mixed tt_ok hK (by kernel_rfl) (LTOK_by (l := [loopOf Try.f59 7]) (by kernel_rfl) ⟨ls_at (by kernel_rfl) (ok59_7 g74 g130 F hK), trivial⟩) (ev59_3 g74 g130 F)
theorem ev59 (g74 : G74) (g130 : G130) (F : Nat) (x : Args [.v i64, .v i64, .v mat]) : fnK TT (ct59 g74 g130 ) kp59 [(.slice 2 i64)] [(3, ls59_3 g74 g130 F)] (bodyOf Try.f59) [.tmp 6] [.v i64, .v i64, .v mat] true true x = fn59 g74 g130 F x := by
  obtain ⟨x0, x1, x2, _⟩ := x
  kernel_rfl
theorem ok59 (g74 : G74) (g130 : G130) (hK : KOK Try.prog (ct59 g74 g130 )) (cf : G59) (h : ∀ x y, cf x = some y → ∃ F, fn59 g74 g130 F x = some y) : KOne Try.prog 59 ⟨[.v i64, .v i64, .v mat], [(.slice 2 i64)], true, true, 0, cf⟩ :=
  fn_one rfl (c := bodyOf Try.f59) mixed tt_ok hK Try.func59 (by kernel_rfl) (by kernel_rfl) (Nat.le_of_ble_eq_true (by kernel_rfl)) (by decide) fun x y hxy => by
    obtain ⟨F, hF⟩ := h x y hxy
    exact ⟨[(3, ls59_3 g74 g130 F)], LTOK_by (l := [loopOf Try.f59 3]) (by kernel_rfl) ⟨ls_at (by kernel_rfl) (ok59_3 g74 g130 F hK), trivial⟩, (ev59 g74 g130 F x).trans hF⟩
abbrev R62 : Type := Ress [(.slice 2 i64)]
abbrev G62 : Type := Args [.v i64, .v i64, .v mat] → Option R62
abbrev kp62 : List (Nat × List Nat) := [(0, [1, 5, 0]), (1, [1, 7, 5, 0]), (2, [1, 9, 7, 5, 8, 0]), (3, [1, 16, 9, 7, 5, 8, 0, 15]), (4, [17, 8, 5, 7, 9, 16, 1, 0, 15]), (5, [8, 5, 10, 7, 9, 16, 1, 0, 15]), (6, [5, 10, 7, 9, 16, 1, 8, 0, 15]), (7, [11, 5, 10, 7, 9, 16, 1, 8, 0, 15]), (8, [29, 9, 11, 5, 10, 7, 16, 1, 8, 0, 15]), (10, [11, 5, 10, 7, 9, 16, 1, 8, 0, 15]), (9, [11, 5, 10, 7, 9, 16, 1, 8, 0, 15]), (11, [1, 16, 9, 7, 5, 8, 0, 15]), (12, [12, 9, 1, 5, 0]), (13, [58, 12, 9, 1, 5, 0]), (14, [12, 1, 5, 0]), (15, [64, 12, 1, 5, 0]), (16, [0, 12]), (17, [75, 0, 12, 74]), (18, [76, 75, 0, 12, 74]), (19, [13, 75, 0, 12, 74]), (20, [75, 0, 12, 74]), (21, [75, 0, 12, 74]), (22, [6])]
abbrev ct62 (g132 : G132) (g133 : G133) : CTab := [(132, ⟨[.v i64, .v i64, .p mat], [i64], false, false, 0, g132⟩), (133, ⟨[.v i64, .v i64, .v mat], [i64], false, false, 0, g133⟩)]
abbrev kr62 : Env → Option R62 := endK TT [.tmp 6] [(.slice 2 i64)] true true
abbrev sh62_8 : Shape := [(0, vv i64), (1, vv i64), (5, bb mat), (7, .fn 132 [5]), (8, vv i64), (9, vv i64), (10, vv i64), (11, vv i64), (15, vv i64), (16, vv i64)]
def st62_8 (g132 : G132) (g133 : G133) (F : Nat) (s : ShVal sh62_8) (k kx : ShVal sh62_8 → Option R62) : Option R62 :=
  match s with
  | ((t0, _), (t1, _), (t5, _), _, (t8, _), (t9, _), (t10, _), (t11, _), (t15, _), (t16, _), _) => (bif decide (t11 < t1) then (match (g132 (t10, (t10, (t5, ())))) with | some r32 => (match (g132 (t11, (t11, (t5, ())))) with | some r33 => (match (g132 (t10, (t11, (t5, ())))) with | some r34 => (match (g132 (t11, (t10, (t5, ())))) with | some r35 => k ((t0, ()), ((t1, ()), ((t5, ()), ((), ((t8, ()), (((w6 (t9 + (w6 ((w6 (r32.1 * r33.1)) - (w6 (r34.1 * r35.1)))))), ()), ((t10, ()), (((w6 (t11 + (1 : Int))), ()), ((t15, ()), ((t16, ()), ())))))))))) | none => none) | none => none) | none => none) | none => none) else kx ((t0, ()), ((t1, ()), ((t5, ()), ((), ((t8, ()), ((t9, ()), ((t10, ()), ((t11, ()), ((t15, ()), ((t16, ()), ())))))))))))
def ru62_8 (g132 : G132) (g133 : G133) (F : Nat) (s : ShVal sh62_8) (kx : ShVal sh62_8 → Option R62) : Option R62 := iter (fun s k => st62_8 g132 g133 F s k kx) F s
abbrev ls62_8 (g132 : G132) (g133 : G133) (F : Nat) : LS R62 := ⟨sh62_8, 2, ru62_8 g132 g133 F⟩
abbrev sh62_4 : Shape := [(0, vv i64), (1, vv i64), (5, bb mat), (7, .fn 132 [5]), (8, vv i64), (9, vv i64), (15, vv i64), (16, vv i64)]
def st62_4 (g132 : G132) (g133 : G133) (F : Nat) (s : ShVal sh62_4) (k kx : ShVal sh62_4 → Option R62) : Option R62 :=
  match s with
  | ((t0, _), (t1, _), (t5, _), _, (t8, _), (t9, _), (t15, _), (t16, _), _) => (bif decide (t16 < t15) then (match (g132 (t16, (t16, (t5, ())))) with | some r19 => (ru62_8 g132 g133 F ((t0, ()), ((t1, ()), ((t5, ()), ((), (((w6 (t8 + r19.1)), ()), ((t9, ()), ((t16, ()), (((w6 (t16 + (1 : Int))), ()), ((t15, ()), ((t16, ()), ())))))))))) (fun s' => match s' with | ((t0, _), (t1, _), (t5, _), _, (t8, _), (t9, _), (t10, _), (t11, _), (t15, _), (t16, _), _) => k ((t0, ()), ((t1, ()), ((t5, ()), ((), ((t8, ()), ((t9, ()), ((t15, ()), (((w6 (t16 + (1 : Int))), ()), ())))))))))) | none => none) else kx ((t0, ()), ((t1, ()), ((t5, ()), ((), ((t8, ()), ((t9, ()), ((t15, ()), ((t16, ()), ())))))))))
def ru62_4 (g132 : G132) (g133 : G133) (F : Nat) (s : ShVal sh62_4) (kx : ShVal sh62_4 → Option R62) : Option R62 := iter (fun s k => st62_4 g132 g133 F s k kx) F s
abbrev ls62_4 (g132 : G132) (g133 : G133) (F : Nat) : LS R62 := ⟨sh62_4, 0, ru62_4 g132 g133 F⟩
abbrev sh62_18 : Shape := [(0, vv i64), (12, vr 2 i64 193 true), (74, vv i64), (75, vv i64)]
def st62_18 (g132 : G132) (g133 : G133) (F : Nat) (s : ShVal sh62_18) (k kx : ShVal sh62_18 → Option R62) : Option R62 :=
  match s with
  | ((t0, _), (t12, _), (t74, _), (t75, _), _) => (bif decide (t75 < t74) then (bif ib t75 (Int.ofNat (List.length t12)) then (bif (!decide (t0 = (0 : Int))) then (bif (!decide (t0 = (0 : Int))) then (bif ib t75 (Int.ofNat (List.length t12)) then k ((t0, ()), (((List.set t12 (tn t75) (Int.tmod (w6 ((Int.tmod (List.getD t12 (tn t75) (0 : Int)) t0) + t0)) t0)), ()), ((t74, ()), (((w6 (t75 + (1 : Int))), ()), ())))) else none) else none) else none) else none) else kx ((t0, ()), ((t12, ()), ((t74, ()), ((t75, ()), ())))))
def ru62_18 (g132 : G132) (g133 : G133) (F : Nat) (s : ShVal sh62_18) (kx : ShVal sh62_18 → Option R62) : Option R62 := iter (fun s k => st62_18 g132 g133 F s k kx) F s
abbrev ls62_18 (g132 : G132) (g133 : G133) (F : Nat) : LS R62 := ⟨sh62_18, 4, ru62_18 g132 g133 F⟩
def fn62 (g132 : G132) (g133 : G133) (F : Nat) (x : Args [.v i64, .v i64, .v mat]) : Option R62 :=
  match x with
  | (x0, x1, x2, _) => (ru62_4 g132 g133 F ((x0, ()), ((x1, ()), ((x2, ()), ((), (((0 : Int), ()), (((0 : Int), ()), ((x1, ()), (((0 : Int), ()), ())))))))) (fun s' => match s' with | ((t0, _), (t1, _), (t5, _), _, (t8, _), (t9, _), (t15, _), (t16, _), _) => (bif decide ((1 : Int) < t1) then (bif decide ((2 : Int) < t1) then (match (g133 (t0, (t1, (t5, ())))) with | some r21 => (ru62_18 g132 g133 F ((t0, ()), ((((((1 : Int) :: ((w6 (-t8)) :: [])) ++ (t9 :: [])) ++ ((w6 (-r21.1)) :: [])), ()), (((Int.ofNat (List.length ((((1 : Int) :: ((w6 (-t8)) :: [])) ++ (t9 :: [])) ++ ((w6 (-r21.1)) :: [])))), ()), (((0 : Int), ()), ())))) (fun s' => match s' with | ((t0, _), (t12, _), (t74, _), (t75, _), _) => (some (t12, ())))) | none => none) else (ru62_18 g132 g133 F ((t0, ()), (((((1 : Int) :: ((w6 (-t8)) :: [])) ++ (t9 :: [])), ()), (((Int.ofNat (List.length (((1 : Int) :: ((w6 (-t8)) :: [])) ++ (t9 :: [])))), ()), (((0 : Int), ()), ())))) (fun s' => match s' with | ((t0, _), (t12, _), (t74, _), (t75, _), _) => (some (t12, ()))))) else (bif decide ((2 : Int) < t1) then (match (g133 (t0, (t1, (t5, ())))) with | some r20 => (ru62_18 g132 g133 F ((t0, ()), (((((1 : Int) :: ((w6 (-t8)) :: [])) ++ ((w6 (-r20.1)) :: [])), ()), (((Int.ofNat (List.length (((1 : Int) :: ((w6 (-t8)) :: [])) ++ ((w6 (-r20.1)) :: [])))), ()), (((0 : Int), ()), ())))) (fun s' => match s' with | ((t0, _), (t12, _), (t74, _), (t75, _), _) => (some (t12, ())))) | none => none) else (ru62_18 g132 g133 F ((t0, ()), ((((1 : Int) :: ((w6 (-t8)) :: [])), ()), (((Int.ofNat (List.length ((1 : Int) :: ((w6 (-t8)) :: [])))), ()), (((0 : Int), ()), ())))) (fun s' => match s' with | ((t0, _), (t12, _), (t74, _), (t75, _), _) => (some (t12, ()))))))))
theorem ev62_8 (g132 : G132) (g133 : G133) (F : Nat) (s : ShVal sh62_8) (k kx : ShVal sh62_8 → Option R62) : evL TT (ct62 g132 g133 ) kp62 [] (loopOf Try.f62 8) (envOf sh62_8 s) (fitK sh62_8 k) (fun j e => bif Nat.beq j 2 then fitK sh62_8 kx e else none) kr62 = st62_8 g132 g133 F s k kx := by
  obtain ⟨⟨t0, _⟩, ⟨t1, _⟩, ⟨t5, _⟩, _, ⟨t8, _⟩, ⟨t9, _⟩, ⟨t10, _⟩, ⟨t11, _⟩, ⟨t15, _⟩, ⟨t16, _⟩, _⟩ := s
  kernel_rfl
theorem ok62_8 (g132 : G132) (g133 : G133) (F : Nat) (hK : KOK Try.prog (ct62 g132 g133 )) : LSOK Try.prog ⟨93, false, undef⟩ (ls62_8 g132 g133 F) (loopOf Try.f62 8) kr62 :=
  loop_ok (st62_8 g132 g133 F) mixed tt_ok hK (by kernel_rfl) (LTOK_by (l := []) (by kernel_rfl) trivial) (ev62_8 g132 g133 F)
theorem ev62_4 (g132 : G132) (g133 : G133) (F : Nat) (s : ShVal sh62_4) (k kx : ShVal sh62_4 → Option R62) : evL TT (ct62 g132 g133 ) kp62 [(8, ls62_8 g132 g133 F)] (loopOf Try.f62 4) (envOf sh62_4 s) (fitK sh62_4 k) (fun j e => bif Nat.beq j 0 then fitK sh62_4 kx e else none) kr62 = st62_4 g132 g133 F s k kx := by
  obtain ⟨⟨t0, _⟩, ⟨t1, _⟩, ⟨t5, _⟩, _, ⟨t8, _⟩, ⟨t9, _⟩, ⟨t15, _⟩, ⟨t16, _⟩, _⟩ := s
  kernel_rfl
theorem ok62_4 (g132 : G132) (g133 : G133) (F : Nat) (hK : KOK Try.prog (ct62 g132 g133 )) : LSOK Try.prog ⟨93, false, undef⟩ (ls62_4 g132 g133 F) (loopOf Try.f62 4) kr62 :=
  loop_ok (st62_4 g132 g133 F) mixed tt_ok hK (by kernel_rfl) (LTOK_by (l := [loopOf Try.f62 8]) (by kernel_rfl) ⟨ls_at (by kernel_rfl) (ok62_8 g132 g133 F hK), trivial⟩) (ev62_4 g132 g133 F)
theorem ev62_18 (g132 : G132) (g133 : G133) (F : Nat) (s : ShVal sh62_18) (k kx : ShVal sh62_18 → Option R62) : evL TT (ct62 g132 g133 ) kp62 [] (loopOf Try.f62 18) (envOf sh62_18 s) (fitK sh62_18 k) (fun j e => bif Nat.beq j 4 then fitK sh62_18 kx e else none) kr62 = st62_18 g132 g133 F s k kx := by
  obtain ⟨⟨t0, _⟩, ⟨t12, _⟩, ⟨t74, _⟩, ⟨t75, _⟩, _⟩ := s
  kernel_rfl
theorem ok62_18 (g132 : G132) (g133 : G133) (F : Nat) (hK : KOK Try.prog (ct62 g132 g133 )) : LSOK Try.prog ⟨93, false, undef⟩ (ls62_18 g132 g133 F) (loopOf Try.f62 18) kr62 :=
  loop_ok (st62_18 g132 g133 F) mixed tt_ok hK (by kernel_rfl) (LTOK_by (l := []) (by kernel_rfl) trivial) (ev62_18 g132 g133 F)
theorem ev62 (g132 : G132) (g133 : G133) (F : Nat) (x : Args [.v i64, .v i64, .v mat]) : fnK TT (ct62 g132 g133 ) kp62 [(.slice 2 i64)] [(4, ls62_4 g132 g133 F), (18, ls62_18 g132 g133 F)] (bodyOf Try.f62) [.tmp 6] [.v i64, .v i64, .v mat] true true x = fn62 g132 g133 F x := by
  obtain ⟨x0, x1, x2, _⟩ := x
  kernel_rfl
theorem ok62 (g132 : G132) (g133 : G133) (hK : KOK Try.prog (ct62 g132 g133 )) (cf : G62) (h : ∀ x y, cf x = some y → ∃ F, fn62 g132 g133 F x = some y) : KOne Try.prog 62 ⟨[.v i64, .v i64, .v mat], [(.slice 2 i64)], true, true, 0, cf⟩ :=
  fn_one rfl (c := bodyOf Try.f62) mixed tt_ok hK Try.func62 (by kernel_rfl) (by kernel_rfl) (Nat.le_of_ble_eq_true (by kernel_rfl)) (by decide) fun x y hxy => by
    obtain ⟨F, hF⟩ := h x y hxy
    exact ⟨[(4, ls62_4 g132 g133 F), (18, ls62_18 g132 g133 F)], LTOK_by (l := [loopOf Try.f62 4, loopOf Try.f62 18]) (by kernel_rfl) ⟨ls_at (by kernel_rfl) (ok62_4 g132 g133 F hK), ⟨ls_at (by kernel_rfl) (ok62_18 g132 g133 F hK), trivial⟩⟩, (ev62 g132 g133 F x).trans hF⟩
def cf132 : Args [.v i64, .v i64, .p mat] → Option R132 := fn132 0
theorem k132 : KOne Try.prog 132 ⟨[.v i64, .v i64, .p mat], [i64], false, false, 0, cf132⟩ := ok132 .nil cf132 fun x y h => ⟨0, h⟩
def tr1 (t x : Int) : Int := w6 (t + w6 x)
def mn1 (t a d b c : Int) : Int := w6 (w6 (t + w6 (w6 a * w6 d)) - w6 (w6 b * w6 c))
def mn2 (t a d b c : Int) : Int := w6 (t + w6 (w6 (w6 a * w6 d) - w6 (w6 b * w6 c)))
def sd1 (s a b c d e : Int) : Int := w6 (s + w6 (w6 a * w6 (w6 (w6 b * w6 c) - w6 (w6 d * w6 e))))
theorem tr1_ok {t x : Int} (ht : -1000000 ≤ t ∧ t ≤ 1000000) (hx : 0 ≤ x ∧ x ≤ 255) : tr1 t x = t + x := by
  unfold tr1; simp (disch := omega) only [w6_id]
theorem mn1_ok {t a b c d : Int} (ht : -1000000 ≤ t ∧ t ≤ 1000000) (ha : 0 ≤ a ∧ a ≤ 255) (hb : 0 ≤ b ∧ b ≤ 255) (hc : 0 ≤ c ∧ c ≤ 255) (hd : 0 ≤ d ∧ d ≤ 255) : mn1 t a d b c = t + a * d - b * c := by
  have h1 := by2 ha hd
  have h2 := by2 hb hc
  unfold mn1; simp (disch := omega) only [w6_id]
theorem mn2_ok {t a b c d : Int} (ht : -1000000 ≤ t ∧ t ≤ 1000000) (ha : 0 ≤ a ∧ a ≤ 255) (hb : 0 ≤ b ∧ b ≤ 255) (hc : 0 ≤ c ∧ c ≤ 255) (hd : 0 ≤ d ∧ d ≤ 255) : mn2 t a d b c = t + (a * d - b * c) := by
  have h1 := by2 ha hd
  have h2 := by2 hb hc
  unfold mn2; simp (disch := omega) only [w6_id]
theorem sd1_ok {s a b c d e : Int} (hs : -100000000 ≤ s ∧ s ≤ 100000000) (ha : 0 ≤ a ∧ a ≤ 255) (hb : 0 ≤ b ∧ b ≤ 255) (hc : 0 ≤ c ∧ c ≤ 255) (hd : 0 ≤ d ∧ d ≤ 255) (he : 0 ≤ e ∧ e ≤ 255) : sd1 s a b c d e = s + a * (b * c - d * e) ∧ -16581375 ≤ a * (b * c - d * e) ∧ a * (b * c - d * e) ≤ 16581375 := by
  have h1 := by2 hb hc
  have h2 := by2 hd he
  have h3 := by3 ha (y := b * c - d * e) (by omega)
  refine ⟨?_, h3⟩
  unfold sd1; simp (disch := omega) only [w6_id]
def cf130 : Args [.v i64, .v i64, .v mat] → Option R130 := fn130 cf74 8
theorem k130 : KOne Try.prog 130 ⟨[.v i64, .v i64, .v mat], [i64], false, false, 0, cf130⟩ := ok130 _ (.cons k74 .nil) cf130 fun x y h => ⟨8, h⟩
theorem e130 (g74 : Args [.v i64, .v i64] → Option (Ress [i64])) (p : Int) (g : Mat) : fn130 g74 8 (p, (3 : Int), g, ()) = (match g74 (p, sd1 (sd1 (sd1 0 (me g 0 0) (me g 1 1) (me g 2 2) (me g 1 2) (me g 2 1)) (me g 0 1) (me g 1 2) (me g 2 0) (me g 1 0) (me g 2 2)) (me g 0 2) (me g 1 0) (me g 2 1) (me g 1 1) (me g 2 0), ()) with | some r => some (r.1, ()) | none => none) := by kernel_rfl
theorem g130_ok {p : Int} {g : Mat} (hg : okM g = true) (hp : 2 ≤ p ∧ p ≤ 13) : cf130 (p, (3 : Int), g, ()) = some (detN 3 (me g) % p, ()) := by
  have r := me_rng hg
  obtain ⟨s1, s2⟩ := sd1_ok (s := 0) (by omega) (r 0 0) (r 1 1) (r 2 2) (r 1 2) (r 2 1)
  obtain ⟨s3, s4⟩ := sd1_ok (s := 0 + me g 0 0 * (me g 1 1 * me g 2 2 - me g 1 2 * me g 2 1)) (by omega) (r 0 1) (r 1 2) (r 2 0) (r 1 0) (r 2 2)
  obtain ⟨s5, s6⟩ := sd1_ok (s := 0 + me g 0 0 * (me g 1 1 * me g 2 2 - me g 1 2 * me g 2 1) + me g 0 1 * (me g 1 2 * me g 2 0 - me g 1 0 * me g 2 2)) (by omega) (r 0 2) (r 1 0) (r 2 1) (r 1 1) (r 2 0)
  rw [cf130, e130, s1, s3, s5, g74_ok (by omega)]
  simp only [detN, det3]
  rw [show ((0 : Int) + me g 0 0 * (me g 1 1 * me g 2 2 - me g 1 2 * me g 2 1) + me g 0 1 * (me g 1 2 * me g 2 0 - me g 1 0 * me g 2 2) + me g 0 2 * (me g 1 0 * me g 2 1 - me g 1 1 * me g 2 0)) = me g 0 0 * (me g 1 1 * me g 2 2 - me g 1 2 * me g 2 1) - me g 0 1 * (me g 1 0 * me g 2 2 - me g 1 2 * me g 2 0) + me g 0 2 * (me g 1 0 * me g 2 1 - me g 1 1 * me g 2 0) by grind]
  rfl
def trI (n : Int) (g : Mat) : Int := if n = 1 then me g 0 0 else if n = 2 then me g 0 0 + me g 1 1 else me g 0 0 + me g 1 1 + me g 2 2
def miI (n : Int) (g : Mat) : Int := if n = 2 then me g 0 0 * me g 1 1 - me g 0 1 * me g 1 0 else me g 0 0 * me g 1 1 - me g 0 1 * me g 1 0 + (me g 0 0 * me g 2 2 - me g 0 2 * me g 2 0) + (me g 1 1 * me g 2 2 - me g 1 2 * me g 2 1)
def charL (p n : Int) (g : Mat) : List Int :=
  if n = 1 then [1, (-(trI n g)) % p] else if n = 2 then [1, (-(trI n g)) % p, miI n g % p] else [1, (-(trI n g)) % p, miI n g % p, (-(detN 3 (me g) % p)) % p]
def cf59 : Args [.v i64, .v i64, .v mat] → Option R59 := fn59 cf74 cf130 8
theorem k59 : KOne Try.prog 59 ⟨[.v i64, .v i64, .v mat], [.slice 2 i64], true, true, 0, cf59⟩ := ok59 _ _ (.cons k74 (.cons k130 .nil)) cf59 fun x y h => ⟨8, h⟩
theorem e59_1 (g74 : Args [.v i64, .v i64] → Option (Ress [i64])) (g130 : Args [.v i64, .v i64, .v mat] → Option (Ress [i64])) (p : Int) (g : Mat) : fn59 g74 g130 8 (p, (1 : Int), g, ()) =
    (match g74 (p, w6 (-(tr1 0 (me g 0 0))), ()) with | some r15 => some ([1, r15.1], ()) | none => none) := by kernel_rfl
theorem e59_2 (g74 : Args [.v i64, .v i64] → Option (Ress [i64])) (g130 : Args [.v i64, .v i64, .v mat] → Option (Ress [i64])) (p : Int) (g : Mat) : fn59 g74 g130 8 (p, (2 : Int), g, ()) =
    (match g74 (p, w6 (-(tr1 (tr1 0 (me g 0 0)) (me g 1 1))), ()) with | some r15 => (match g74 (p, mn1 0 (me g 0 0) (me g 1 1) (me g 0 1) (me g 1 0), ()) with | some r18 => some ([1, r15.1] ++ [r18.1], ()) | none => none) | none => none) := by kernel_rfl
theorem e59_3 (g74 : Args [.v i64, .v i64] → Option (Ress [i64])) (g130 : Args [.v i64, .v i64, .v mat] → Option (Ress [i64])) (p : Int) (g : Mat) : fn59 g74 g130 8 (p, (3 : Int), g, ()) =
    (match g74 (p, w6 (-(tr1 (tr1 (tr1 0 (me g 0 0)) (me g 1 1)) (me g 2 2))), ()) with | some r15 => (match g74 (p, mn1 (mn1 (mn1 0 (me g 0 0) (me g 1 1) (me g 0 1) (me g 1 0)) (me g 0 0) (me g 2 2) (me g 0 2) (me g 2 0)) (me g 1 1) (me g 2 2) (me g 1 2) (me g 2 1), ()) with | some r19 => (match g130 (p, (3 : Int), g, ()) with | some r20 => (match g74 (p, w6 (-r20.1), ()) with | some r21 => some ([1, r15.1] ++ [r19.1, r21.1], ()) | none => none) | none => none) | none => none) | none => none) := by kernel_rfl
theorem g59_ok {p n : Int} {g : Mat} (hg : okM g = true) (hp : 2 ≤ p ∧ p ≤ 13) (hn : n = 1 ∨ n = 2 ∨ n = 3) : cf59 (p, n, g, ()) = some (charL p n g, ()) := by
  have r := me_rng hg
  have r00 := r 0 0
  have r11 := r 1 1
  have r22 := r 2 2
  have a := by2 (r 0 0) (r 1 1)
  have b := by2 (r 0 1) (r 1 0)
  have c := by2 (r 0 0) (r 2 2)
  have d := by2 (r 0 2) (r 2 0)
  have e := by2 (r 1 1) (r 2 2)
  have f := by2 (r 1 2) (r 2 1)
  have t1 := tr1_ok (t := 0) (by omega) (r 0 0)
  have t2 := tr1_ok (t := 0 + me g 0 0) (by omega) (r 1 1)
  have t3 := tr1_ok (t := 0 + me g 0 0 + me g 1 1) (by omega) (r 2 2)
  have m1 := mn1_ok (t := 0) (by omega) (r 0 0) (r 0 1) (r 1 0) (r 1 1)
  have m2 := mn1_ok (t := 0 + me g 0 0 * me g 1 1 - me g 0 1 * me g 1 0) (by omega) (r 0 0) (r 0 2) (r 2 0) (r 2 2)
  have m3 := mn1_ok (t := 0 + me g 0 0 * me g 1 1 - me g 0 1 * me g 1 0 + me g 0 0 * me g 2 2 - me g 0 2 * me g 2 0) (by omega) (r 1 1) (r 1 2) (r 2 1) (r 2 2)
  have z := md_rng (p := p) (x := detN 3 (me g)) (by omega)
  rcases hn with rfl | rfl | rfl
  · rw [cf59, e59_1, t1, w6_id (by omega) (by omega), g74_ok (by omega)]
    simp only [charL, trI, if_true, Int.zero_add]
  · rw [cf59, e59_2, t1, t2, m1, w6_id (by omega) (by omega), g74_ok (by omega), g74_ok (by omega)]
    have : charL p 2 g = [1, (-(me g 0 0 + me g 1 1)) % p, (me g 0 0 * me g 1 1 - me g 0 1 * me g 1 0) % p] := rfl
    rw [this]
    simp only [Int.zero_add]
    rfl
  · rw [cf59, e59_3, t1, t2, t3, m1, m2, m3, w6_id (by omega) (by omega), g74_ok (by omega), g74_ok (by omega)]
    simp only
    rw [g130_ok hg hp]
    simp only
    rw [w6_id (by omega) (by omega), g74_ok (by omega)]
    have : charL p 3 g = [1, (-(me g 0 0 + me g 1 1 + me g 2 2)) % p, (me g 0 0 * me g 1 1 - me g 0 1 * me g 1 0 + (me g 0 0 * me g 2 2 - me g 0 2 * me g 2 0) + (me g 1 1 * me g 2 2 - me g 1 2 * me g 2 1)) % p, (-(detN 3 (me g) % p)) % p] := rfl
    rw [this]
    rw [show ((0 : Int) + me g 0 0 * me g 1 1 - me g 0 1 * me g 1 0 + me g 0 0 * me g 2 2 - me g 0 2 * me g 2 0 + me g 1 1 * me g 2 2 - me g 1 2 * me g 2 1) = me g 0 0 * me g 1 1 - me g 0 1 * me g 1 0 + (me g 0 0 * me g 2 2 - me g 0 2 * me g 2 0) + (me g 1 1 * me g 2 2 - me g 1 2 * me g 2 1) by omega]
    simp only [Int.zero_add]
    rfl
theorem norm62 {p : Int} {L : List Int} (hp : 2 ≤ p ∧ p ≤ 13) (hl : L.length ≤ 7) (hr : ∀ i, -1000000000 ≤ el L i ∧ el L i ≤ 1000000000) {g132 : Args [.v i64, .v i64, .p mat] → Option (Ress [i64])} {g133 : Args [.v i64, .v i64, .v mat] → Option (Ress [i64])} {F0 : Nat} {kx : ShVal sh62_18 → Option R62} :
    ru62_18 g132 g133 8 ((p, ()), ((L, ()), ((((L.length : Nat) : Int), ()), (((0 : Int), ()), ())))) kx = kx ((p, ()), ((L.map (· % p), ()), ((((L.length : Nat) : Int), ()), ((((L.length : Nat) : Int), ()), ())))) := by
  have hm : (L.map (· % p)).length = L.length := by simp
  have key := iter_run (step := fun s k => st62_18 g132 g133 8 s k kx) (r := kx ((p, ()), ((L.map (· % p), ()), ((((L.length : Nat) : Int), ()), ((((L.length : Nat) : Int), ()), ()))))) L.length 8
    (fun j => ((p, ()), (((L.map (· % p)).take j ++ L.drop j, ()), ((((L.length : Nat) : Int), ()), (((j : Int), ()), ()))))) (by omega) (fun j hj k => ?_) (fun k => ?_)
  · simpa [ru62_18] using key
  · have l1 := split_len (i := j) hm (by omega)
    have g1 := split_get (i := j) hm (by omega)
    have s1 := split_set (i := j) hm (by omega)
    have z := hr j
    obtain ⟨e1, e2⟩ := tmod_md (p := p) (x := el L j) (by omega)
    have e : Int.tmod (Int.tmod (el L j) p + p) p = el (L.map (· % p)) j := by
      rw [e1]
      simp [el, List.getD_eq_getElem?_getD, List.getElem?_eq_getElem hj]
    rw [← s1]
    generalize (L.map (· % p)).take j ++ L.drop j = X at *
    simp (disch := omega) only [st62_18, dlt_t, cond_true, ib_t, ofn, tn_cast, deq_f, Bool.not_false, g1, w6_id]
    rw [e]
    rfl
  · rw [show (L.map (· % p)).take L.length ++ L.drop L.length = L.map (· % p) by rw [List.drop_length, List.append_nil, ← hm, List.take_length]]
    simp (disch := omega) only [st62_18, dlt_f, cond_false]
def cf62 : Args [.v i64, .v i64, .v mat] → Option R62 := fn62 cf132 cf133 8
theorem k62 : KOne Try.prog 62 ⟨[.v i64, .v i64, .v mat], [.slice 2 i64], true, true, 0, cf62⟩ := ok62 _ _ (.cons k132 (.cons k133 .nil)) cf62 fun x y h => ⟨8, h⟩
abbrev out62 : ShVal sh62_18 → Option R62 := fun s' => match s' with | ((t0, _), (t12, _), (t74, _), (t75, _), _) => (some (t12, ()))
theorem e62_1 (g133 : Args [.v i64, .v i64, .v mat] → Option (Ress [i64])) (p : Int) (g : Mat) : fn62 cf132 g133 8 (p, (1 : Int), g, ()) =
    ru62_18 cf132 g133 8 ((p, ()), (([1, w6 (-(tr1 0 (me g 0 0)))], ()), (((([1, w6 (-(tr1 0 (me g 0 0)))] : List Int).length : Nat) : Int), ()), (((0 : Int), ()), ()))) out62 := by kernel_rfl
theorem e62_2 (g133 : Args [.v i64, .v i64, .v mat] → Option (Ress [i64])) (p : Int) (g : Mat) : fn62 cf132 g133 8 (p, (2 : Int), g, ()) =
    ru62_18 cf132 g133 8 ((p, ()), (([1, w6 (-(tr1 (tr1 0 (me g 0 0)) (me g 1 1))), mn2 0 (me g 0 0) (me g 1 1) (me g 0 1) (me g 1 0)], ()), (((([1, w6 (-(tr1 (tr1 0 (me g 0 0)) (me g 1 1))), mn2 0 (me g 0 0) (me g 1 1) (me g 0 1) (me g 1 0)] : List Int).length : Nat) : Int), ()), (((0 : Int), ()), ()))) out62 := by kernel_rfl
theorem e62_3 (g133 : Args [.v i64, .v i64, .v mat] → Option (Ress [i64])) (p : Int) (g : Mat) : fn62 cf132 g133 8 (p, (3 : Int), g, ()) =
    (match g133 (p, (3 : Int), g, ()) with
    | some r => ru62_18 cf132 g133 8 ((p, ()), (([1, w6 (-(tr1 (tr1 (tr1 0 (me g 0 0)) (me g 1 1)) (me g 2 2))), mn2 (mn2 (mn2 0 (me g 0 0) (me g 1 1) (me g 0 1) (me g 1 0)) (me g 0 0) (me g 2 2) (me g 0 2) (me g 2 0)) (me g 1 1) (me g 2 2) (me g 1 2) (me g 2 1), w6 (-r.1)], ()), (((([1, w6 (-(tr1 (tr1 (tr1 0 (me g 0 0)) (me g 1 1)) (me g 2 2))), mn2 (mn2 (mn2 0 (me g 0 0) (me g 1 1) (me g 0 1) (me g 1 0)) (me g 0 0) (me g 2 2) (me g 0 2) (me g 2 0)) (me g 1 1) (me g 2 2) (me g 1 2) (me g 2 1), w6 (-r.1)] : List Int).length : Nat) : Int), ()), (((0 : Int), ()), ()))) out62
    | none => none) := by kernel_rfl
theorem el_rng {L : List Int} (h : ∀ x ∈ L, -1000000000 ≤ x ∧ x ≤ 1000000000) (i : Nat) : -1000000000 ≤ el L i ∧ el L i ≤ 1000000000 := by
  rcases Nat.lt_or_ge i L.length with q | q
  · rw [el_get q]; exact h _ (List.getElem_mem q)
  · rw [el_ge q]; omega
theorem g62_ok {p n : Int} {g : Mat} (hg : okM g = true) (hp : 2 ≤ p ∧ p ≤ 13) (hn : n = 1 ∨ n = 2 ∨ n = 3) : cf62 (p, n, g, ()) = some (charL p n g, ()) := by
  have r := me_rng hg
  have r00 := r 0 0
  have r11 := r 1 1
  have r22 := r 2 2
  have a := by2 (r 0 0) (r 1 1)
  have b := by2 (r 0 1) (r 1 0)
  have c := by2 (r 0 0) (r 2 2)
  have d := by2 (r 0 2) (r 2 0)
  have e := by2 (r 1 1) (r 2 2)
  have f := by2 (r 1 2) (r 2 1)
  have t1 := tr1_ok (t := 0) (by omega) (r 0 0)
  have t2 := tr1_ok (t := 0 + me g 0 0) (by omega) (r 1 1)
  have t3 := tr1_ok (t := 0 + me g 0 0 + me g 1 1) (by omega) (r 2 2)
  have m1 := mn2_ok (t := 0) (by omega) (r 0 0) (r 0 1) (r 1 0) (r 1 1)
  have m2 := mn2_ok (t := 0 + (me g 0 0 * me g 1 1 - me g 0 1 * me g 1 0)) (by omega) (r 0 0) (r 0 2) (r 2 0) (r 2 2)
  have m3 := mn2_ok (t := 0 + (me g 0 0 * me g 1 1 - me g 0 1 * me g 1 0) + (me g 0 0 * me g 2 2 - me g 0 2 * me g 2 0)) (by omega) (r 1 1) (r 1 2) (r 2 1) (r 2 2)
  have z := md_rng (p := p) (x := detN 3 (me g)) (by omega)
  have one : (1 : Int) % p = 1 := Int.emod_eq_of_lt (by omega) (by omega)
  rcases hn with rfl | rfl | rfl
  · rw [cf62, e62_1, t1, w6_id (by omega) (by omega), norm62 (F0 := 0) hp (by simp) (el_rng (by simp; omega))]
    simp only [out62, List.map_cons, List.map_nil, one, charL, trI, if_true, Int.zero_add]
  · rw [cf62, e62_2, t1, t2, m1, w6_id (by omega) (by omega), norm62 (F0 := 0) hp (by simp) (el_rng (by simp; omega))]
    have : charL p 2 g = [1, (-(me g 0 0 + me g 1 1)) % p, (me g 0 0 * me g 1 1 - me g 0 1 * me g 1 0) % p] := rfl
    rw [this]
    simp only [out62, List.map_cons, List.map_nil, one, Int.zero_add]
  · rw [cf62, e62_3, t1, t2, t3, m1, m2, m3, w6_id (x := -_) (by omega) (by omega), g133_ok hg hp (by omega)]
    simp only
    rw [show tn 3 = 3 from rfl, w6_id (x := -(detN 3 (me g) % p)) (by omega) (by omega), norm62 (F0 := 0) hp (by simp) (el_rng (by simp; omega))]
    have : charL p 3 g = [1, (-(me g 0 0 + me g 1 1 + me g 2 2)) % p, (me g 0 0 * me g 1 1 - me g 0 1 * me g 1 0 + (me g 0 0 * me g 2 2 - me g 0 2 * me g 2 0) + (me g 1 1 * me g 2 2 - me g 1 2 * me g 2 1)) % p, (-(detN 3 (me g) % p)) % p] := rfl
    rw [this]
    simp only [out62, List.map_cons, List.map_nil, one, Int.zero_add]
abbrev R31 : Type := Ress [(.slice 2 i64), i64]
abbrev G31 : Type := Args [.v (.pair i64 (.pair i64 (.pair (.slice 27 mat) .unit))), .v i64] → Option R31
abbrev kp31 : List (Nat × List Nat) := [(0, [2, 1]), (1, [16, 2, 1]), (3, [20, 1, 2]), (5, [24, 2, 1]), (6, [5, 4]), (4, [5, 4]), (2, [5, 4]), (7, [1, 6, 7, 2]), (8, [1, 8, 6, 7, 2]), (9, [41, 7, 6, 8, 1, 2]), (11, [7, 6, 9, 10, 8, 1, 2]), (12, [7, 6, 9, 10, 11, 8, 1, 2]), (13, [56, 11, 10, 9, 6, 7, 8, 1, 2]), (15, [12, 11, 10, 9, 6, 7, 8, 1, 2]), (16, [60, 12, 11, 10, 9, 6, 7, 8, 1, 2]), (17, [11, 10, 9, 12, 6, 7, 8, 1, 2]), (18, [13, 11, 10, 9, 12, 6, 7, 8, 1, 2]), (19, [69, 12, 13, 11, 10, 9, 6, 7, 8, 1, 2]), (21, [13, 11, 10, 9, 12, 6, 7, 8, 1, 2]), (20, [13, 11, 10, 9, 12, 6, 7, 8, 1, 2]), (22, [12, 11, 7, 6, 9, 10, 8, 1, 2]), (23, [11, 7, 6, 9, 10, 8, 1, 2]), (14, [7, 6, 9, 10, 11, 8, 1, 2]), (10, [1, 8, 6, 7, 2]), (24, [6, 14, 7, 1]), (25, [15, 6, 14, 7, 1]), (26, [111, 15, 6, 14, 7, 1]), (28, [15, 6, 14, 7, 1]), (27, [15, 6, 14, 7, 1]), (29, [5, 4])]
abbrev ct31 (g72 : G72) (g73 : G73) (g59 : G59) (g74 : G74) (g75 : G75) : CTab := [(72, ⟨[.v (.pair i64 (.pair i64 (.pair (.slice 27 mat) .unit)))], [.bool], false, false, 0, g72⟩), (73, ⟨[.v i64, .v i64, .v i64], [.bool], false, false, 0, g73⟩), (59, ⟨[.v i64, .v i64, .v mat], [(.slice 2 i64)], true, true, 0, g59⟩), (74, ⟨[.v i64, .v i64], [i64], false, false, 0, g74⟩), (75, ⟨[.v i64, .v i64], [i64], false, false, 0, g75⟩)]
abbrev kr31 : Env → Option R31 := endK TT [.tmp 4, .tmp 5] [(.slice 2 i64), i64] true false
abbrev sh31_19 : Shape := [(1, vv i64), (2, .box false [.fz i64 0 false, .fz i64 0 false, .fz (.slice 27 mat) 0 true]), (6, vv i64), (7, vr 2 i64 113 false), (8, vv i64), (9, vr 2 i64 145 true), (10, vr 2 i64 161 false), (11, vv i64), (12, vv i64), (13, vv i64)]
def st31_19 (g72 : G72) (g73 : G73) (g59 : G59) (g74 : G74) (g75 : G75) (F : Nat) (s : ShVal sh31_19) (k kx : ShVal sh31_19 → Option R31) : Option R31 :=
  match s with
  | ((t1, _), (t2_0, t2_1, t2_2, _), (t6, _), (t7, _), (t8, _), (t9, _), (t10, _), (t11, _), (t12, _), (t13, _), _) => (bif decide ((List.length t9) ≤ 9223372036854775807) then (bif decide (t13 < (Int.ofNat (List.length t9))) then (bif (bif true then decide (t13 ≤ t11) else false) then (bif ib t13 (Int.ofNat (List.length t9)) then (bif ib (w6 (t11 - t13)) (Int.ofNat (List.length t10)) then (match (g74 (t6, ((w6 (t12 - (w6 ((List.getD t9 (tn t13) (0 : Int)) * (List.getD t10 (tn (w6 (t11 - t13))) (0 : Int)))))), ()))) with | some r55 => k ((t1, ()), ((t2_0, (t2_1, (t2_2, ()))), ((t6, ()), ((t7, ()), ((t8, ()), ((t9, ()), ((t10, ()), ((t11, ()), ((r55.1, ()), (((w6 (t13 + (1 : Int))), ()), ())))))))))) | none => none) else none) else none) else kx ((t1, ()), ((t2_0, (t2_1, (t2_2, ()))), ((t6, ()), ((t7, ()), ((t8, ()), ((t9, ()), ((t10, ()), ((t11, ()), ((t12, ()), ((t13, ()), ()))))))))))) else kx ((t1, ()), ((t2_0, (t2_1, (t2_2, ()))), ((t6, ()), ((t7, ()), ((t8, ()), ((t9, ()), ((t10, ()), ((t11, ()), ((t12, ()), ((t13, ()), ()))))))))))) else none)
def ru31_19 (g72 : G72) (g73 : G73) (g59 : G59) (g74 : G74) (g75 : G75) (F : Nat) (s : ShVal sh31_19) (kx : ShVal sh31_19 → Option R31) : Option R31 := iter (fun s k => st31_19 g72 g73 g59 g74 g75 F s k kx) F s
abbrev ls31_19 (g72 : G72) (g73 : G73) (g59 : G59) (g74 : G74) (g75 : G75) (F : Nat) : LS R31 := ⟨sh31_19, 5, ru31_19 g72 g73 g59 g74 g75 F⟩
abbrev sh31_13 : Shape := [(1, vv i64), (2, .box false [.fz i64 0 false, .fz i64 0 false, .fz (.slice 27 mat) 0 true]), (6, vv i64), (7, vr 2 i64 113 false), (8, vv i64), (9, vr 2 i64 145 true), (10, vr 2 i64 161 false), (11, vv i64)]
def st31_13 (g72 : G72) (g73 : G73) (g59 : G59) (g74 : G74) (g75 : G75) (F : Nat) (s : ShVal sh31_13) (k kx : ShVal sh31_13 → Option R31) : Option R31 :=
  match s with
  | ((t1, _), (t2_0, t2_1, t2_2, _), (t6, _), (t7, _), (t8, _), (t9, _), (t10, _), (t11, _), _) => (bif decide (t11 ≤ t1) then (bif decide (t11 = (0 : Int)) then (ru31_19 g72 g73 g59 g74 g75 F ((t1, ()), ((t2_0, (t2_1, (t2_2, ()))), ((t6, ()), ((t7, ()), ((t8, ()), ((t9, ()), ((t10, ()), ((t11, ()), (((1 : Int), ()), (((1 : Int), ()), ())))))))))) (fun s' => match s' with | ((t1, _), (t2_0, t2_1, t2_2, _), (t6, _), (t7, _), (t8, _), (t9, _), (t10, _), (t11, _), (t12, _), (t13, _), _) => (bif (growOk (List.length t10) (List.length (t12 :: []))) then (bif ib t11 (Int.ofNat (List.length t7)) then (bif (!decide (t6 = (0 : Int))) then (bif ib t11 (Int.ofNat (List.length t7)) then k ((t1, ()), ((t2_0, (t2_1, (t2_2, ()))), ((t6, ()), (((List.set t7 (tn t11) (Int.tmod (w6 ((List.getD t7 (tn t11) (0 : Int)) + t12)) t6)), ()), ((t8, ()), ((t9, ()), (((t10 ++ (t12 :: [])), ()), (((w6 (t11 + (1 : Int))), ()), ())))))))) else none) else none) else none) else none))) else (ru31_19 g72 g73 g59 g74 g75 F ((t1, ()), ((t2_0, (t2_1, (t2_2, ()))), ((t6, ()), ((t7, ()), ((t8, ()), ((t9, ()), ((t10, ()), ((t11, ()), (((0 : Int), ()), (((1 : Int), ()), ())))))))))) (fun s' => match s' with | ((t1, _), (t2_0, t2_1, t2_2, _), (t6, _), (t7, _), (t8, _), (t9, _), (t10, _), (t11, _), (t12, _), (t13, _), _) => (bif (growOk (List.length t10) (List.length (t12 :: []))) then (bif ib t11 (Int.ofNat (List.length t7)) then (bif (!decide (t6 = (0 : Int))) then (bif ib t11 (Int.ofNat (List.length t7)) then k ((t1, ()), ((t2_0, (t2_1, (t2_2, ()))), ((t6, ()), (((List.set t7 (tn t11) (Int.tmod (w6 ((List.getD t7 (tn t11) (0 : Int)) + t12)) t6)), ()), ((t8, ()), ((t9, ()), (((t10 ++ (t12 :: [])), ()), (((w6 (t11 + (1 : Int))), ()), ())))))))) else none) else none) else none) else none)))) else kx ((t1, ()), ((t2_0, (t2_1, (t2_2, ()))), ((t6, ()), ((t7, ()), ((t8, ()), ((t9, ()), ((t10, ()), ((t11, ()), ())))))))))
def ru31_13 (g72 : G72) (g73 : G73) (g59 : G59) (g74 : G74) (g75 : G75) (F : Nat) (s : ShVal sh31_13) (kx : ShVal sh31_13 → Option R31) : Option R31 := iter (fun s k => st31_13 g72 g73 g59 g74 g75 F s k kx) F s
abbrev ls31_13 (g72 : G72) (g73 : G73) (g59 : G59) (g74 : G74) (g75 : G75) (F : Nat) : LS R31 := ⟨sh31_13, 3, ru31_13 g72 g73 g59 g74 g75 F⟩
abbrev sh31_9 : Shape := [(1, vv i64), (2, .box false [.fz i64 0 false, .fz i64 0 false, .fz (.slice 27 mat) 0 true]), (6, vv i64), (7, vr 2 i64 113 false), (8, vv i64)]
def st31_9 (g72 : G72) (g73 : G73) (g59 : G59) (g74 : G74) (g75 : G75) (F : Nat) (s : ShVal sh31_9) (k kx : ShVal sh31_9 → Option R31) : Option R31 :=
  match s with
  | ((t1, _), (t2_0, t2_1, t2_2, _), (t6, _), (t7, _), (t8, _), _) => (bif decide ((List.length t2_2) ≤ 9223372036854775807) then (bif decide (t8 < (Int.ofNat (List.length t2_2))) then (bif ib t8 (Int.ofNat (List.length t2_2)) then (match (g59 (t6, (t2_1, ((List.getD t2_2 (tn t8) (Ty.dflt (.arr 3 (.arr 3 (.int .u8))))), ())))) with | some r24 => (ru31_13 g72 g73 g59 g74 g75 F ((t1, ()), ((t2_0, (t2_1, (t2_2, ()))), ((t6, ()), ((t7, ()), ((t8, ()), ((r24.1, ()), (([], ()), (((0 : Int), ()), ())))))))) (fun s' => match s' with | ((t1, _), (t2_0, t2_1, t2_2, _), (t6, _), (t7, _), (t8, _), (t9, _), (t10, _), (t11, _), _) => k ((t1, ()), ((t2_0, (t2_1, (t2_2, ()))), ((t6, ()), ((t7, ()), (((w6 (t8 + (1 : Int))), ()), ()))))))) | none => none) else none) else kx ((t1, ()), ((t2_0, (t2_1, (t2_2, ()))), ((t6, ()), ((t7, ()), ((t8, ()), ())))))) else none)
def ru31_9 (g72 : G72) (g73 : G73) (g59 : G59) (g74 : G74) (g75 : G75) (F : Nat) (s : ShVal sh31_9) (kx : ShVal sh31_9 → Option R31) : Option R31 := iter (fun s k => st31_9 g72 g73 g59 g74 g75 F s k kx) F s
abbrev ls31_9 (g72 : G72) (g73 : G73) (g59 : G59) (g74 : G74) (g75 : G75) (F : Nat) : LS R31 := ⟨sh31_9, 1, ru31_9 g72 g73 g59 g74 g75 F⟩
abbrev sh31_26 : Shape := [(1, vv i64), (6, vv i64), (7, vr 2 i64 113 false), (14, vv i64), (15, vv i64)]
def st31_26 (g72 : G72) (g73 : G73) (g59 : G59) (g74 : G74) (g75 : G75) (F : Nat) (s : ShVal sh31_26) (k kx : ShVal sh31_26 → Option R31) : Option R31 :=
  match s with
  | ((t1, _), (t6, _), (t7, _), (t14, _), (t15, _), _) => (bif decide (t15 ≤ t1) then (bif ib t15 (Int.ofNat (List.length t7)) then (bif (!decide (t6 = (0 : Int))) then (bif ib t15 (Int.ofNat (List.length t7)) then k ((t1, ()), ((t6, ()), (((List.set t7 (tn t15) (Int.tmod (w6 ((List.getD t7 (tn t15) (0 : Int)) * t14)) t6)), ()), ((t14, ()), (((w6 (t15 + (1 : Int))), ()), ()))))) else none) else none) else none) else kx ((t1, ()), ((t6, ()), ((t7, ()), ((t14, ()), ((t15, ()), ()))))))
def ru31_26 (g72 : G72) (g73 : G73) (g59 : G59) (g74 : G74) (g75 : G75) (F : Nat) (s : ShVal sh31_26) (kx : ShVal sh31_26 → Option R31) : Option R31 := iter (fun s k => st31_26 g72 g73 g59 g74 g75 F s k kx) F s
abbrev ls31_26 (g72 : G72) (g73 : G73) (g59 : G59) (g74 : G74) (g75 : G75) (F : Nat) : LS R31 := ⟨sh31_26, 7, ru31_26 g72 g73 g59 g74 g75 F⟩
def fn31 (g72 : G72) (g73 : G73) (g59 : G59) (g74 : G74) (g75 : G75) (F : Nat) (x : Args [.v (.pair i64 (.pair i64 (.pair (.slice 27 mat) .unit))), .v i64]) : Option R31 :=
  match x with
  | (x0, x1, _) => (match (g72 ((x0.1, (x0.2.1, (x0.2.2.1, ()))), ())) with | some r9 => (bif (!r9.1) then (some ([], ((1 : Int), ()))) else (match (g73 (x1, ((0 : Int), ((40 : Int), ())))) with | some r11 => (bif (!r11.1) then (some ([], ((2 : Int), ()))) else (bif decide ((List.length x0.2.2.1) ≤ 9223372036854775807) then (bif (!decide (x0.1 = (0 : Int))) then (bif decide ((Int.tmod (Int.ofNat (List.length x0.2.2.1)) x0.1) = (0 : Int)) then (some ([], ((5 : Int), ()))) else (bif ((decide ((0 : Int) ≤ (w6 (x1 + (1 : Int)))) && decide ((w6 (x1 + (1 : Int))) ≤ (1099511627776 : Int))) && decide ((w6 (x1 + (1 : Int))) = (w6 (x1 + (1 : Int))))) then (ru31_9 g72 g73 g59 g74 g75 F ((x1, ()), ((x0.1, (x0.2.1, (x0.2.2.1, ()))), ((x0.1, ()), (((List.replicate (tn (w6 (x1 + (1 : Int)))) (0 : Int)), ()), (((0 : Int), ()), ()))))) (fun s' => match s' with | ((t1, _), (t2_0, t2_1, t2_2, _), (t6, _), (t7, _), (t8, _), _) => (bif decide ((List.length t2_2) ≤ 9223372036854775807) then (bif (!decide (t6 = (0 : Int))) then (match (g75 (t6, ((Int.tmod (Int.ofNat (List.length t2_2)) t6), ()))) with | some r23 => (ru31_26 g72 g73 g59 g74 g75 F ((t1, ()), ((t6, ()), ((t7, ()), ((r23.1, ()), (((0 : Int), ()), ()))))) (fun s' => match s' with | ((t1, _), (t6, _), (t7, _), (t14, _), (t15, _), _) => (some (t7, ((0 : Int), ()))))) | none => none) else none) else none))) else none)) else none) else none)) | none => none)) | none => none)
theorem ev31_19 (g72 : G72) (g73 : G73) (g59 : G59) (g74 : G74) (g75 : G75) (F : Nat) (s : ShVal sh31_19) (k kx : ShVal sh31_19 → Option R31) : evL TT (ct31 g72 g73 g59 g74 g75 ) kp31 [] (loopOf Try.f31 19) (envOf sh31_19 s) (fitK sh31_19 k) (fun j e => bif Nat.beq j 5 then fitK sh31_19 kx e else none) kr31 = st31_19 g72 g73 g59 g74 g75 F s k kx := by
  obtain ⟨⟨t1, _⟩, ⟨t2_0, t2_1, t2_2, _⟩, ⟨t6, _⟩, ⟨t7, _⟩, ⟨t8, _⟩, ⟨t9, _⟩, ⟨t10, _⟩, ⟨t11, _⟩, ⟨t12, _⟩, ⟨t13, _⟩, _⟩ := s
  kernel_rfl
theorem ok31_19 (g72 : G72) (g73 : G73) (g59 : G59) (g74 : G74) (g75 : G75) (F : Nat) (hK : KOK Try.prog (ct31 g72 g73 g59 g74 g75 )) : LSOK Try.prog ⟨126, false, undef⟩ (ls31_19 g72 g73 g59 g74 g75 F) (loopOf Try.f31 19) kr31 :=
  loop_ok (st31_19 g72 g73 g59 g74 g75 F) mixed tt_ok hK (by kernel_rfl) (LTOK_by (l := []) (by kernel_rfl) trivial) (ev31_19 g72 g73 g59 g74 g75 F)
theorem ev31_13 (g72 : G72) (g73 : G73) (g59 : G59) (g74 : G74) (g75 : G75) (F : Nat) (s : ShVal sh31_13) (k kx : ShVal sh31_13 → Option R31) : evL TT (ct31 g72 g73 g59 g74 g75 ) kp31 [(19, ls31_19 g72 g73 g59 g74 g75 F)] (loopOf Try.f31 13) (envOf sh31_13 s) (fitK sh31_13 k) (fun j e => bif Nat.beq j 3 then fitK sh31_13 kx e else none) kr31 = st31_13 g72 g73 g59 g74 g75 F s k kx := by
  obtain ⟨⟨t1, _⟩, ⟨t2_0, t2_1, t2_2, _⟩, ⟨t6, _⟩, ⟨t7, _⟩, ⟨t8, _⟩, ⟨t9, _⟩, ⟨t10, _⟩, ⟨t11, _⟩, _⟩ := s
  kernel_rfl
theorem ok31_13 (g72 : G72) (g73 : G73) (g59 : G59) (g74 : G74) (g75 : G75) (F : Nat) (hK : KOK Try.prog (ct31 g72 g73 g59 g74 g75 )) : LSOK Try.prog ⟨126, false, undef⟩ (ls31_13 g72 g73 g59 g74 g75 F) (loopOf Try.f31 13) kr31 :=
  loop_ok (st31_13 g72 g73 g59 g74 g75 F) mixed tt_ok hK (by kernel_rfl) (LTOK_by (l := [loopOf Try.f31 19]) (by kernel_rfl) ⟨ls_at (by kernel_rfl) (ok31_19 g72 g73 g59 g74 g75 F hK), trivial⟩) (ev31_13 g72 g73 g59 g74 g75 F)
theorem ev31_9 (g72 : G72) (g73 : G73) (g59 : G59) (g74 : G74) (g75 : G75) (F : Nat) (s : ShVal sh31_9) (k kx : ShVal sh31_9 → Option R31) : evL TT (ct31 g72 g73 g59 g74 g75 ) kp31 [(13, ls31_13 g72 g73 g59 g74 g75 F)] (loopOf Try.f31 9) (envOf sh31_9 s) (fitK sh31_9 k) (fun j e => bif Nat.beq j 1 then fitK sh31_9 kx e else none) kr31 = st31_9 g72 g73 g59 g74 g75 F s k kx := by
  obtain ⟨⟨t1, _⟩, ⟨t2_0, t2_1, t2_2, _⟩, ⟨t6, _⟩, ⟨t7, _⟩, ⟨t8, _⟩, _⟩ := s
  kernel_rfl
theorem ok31_9 (g72 : G72) (g73 : G73) (g59 : G59) (g74 : G74) (g75 : G75) (F : Nat) (hK : KOK Try.prog (ct31 g72 g73 g59 g74 g75 )) : LSOK Try.prog ⟨126, false, undef⟩ (ls31_9 g72 g73 g59 g74 g75 F) (loopOf Try.f31 9) kr31 :=
  loop_ok (st31_9 g72 g73 g59 g74 g75 F) mixed tt_ok hK (by kernel_rfl) (LTOK_by (l := [loopOf Try.f31 13]) (by kernel_rfl) ⟨ls_at (by kernel_rfl) (ok31_13 g72 g73 g59 g74 g75 F hK), trivial⟩) (ev31_9 g72 g73 g59 g74 g75 F)
theorem ev31_26 (g72 : G72) (g73 : G73) (g59 : G59) (g74 : G74) (g75 : G75) (F : Nat) (s : ShVal sh31_26) (k kx : ShVal sh31_26 → Option R31) : evL TT (ct31 g72 g73 g59 g74 g75 ) kp31 [] (loopOf Try.f31 26) (envOf sh31_26 s) (fitK sh31_26 k) (fun j e => bif Nat.beq j 7 then fitK sh31_26 kx e else none) kr31 = st31_26 g72 g73 g59 g74 g75 F s k kx := by
  obtain ⟨⟨t1, _⟩, ⟨t6, _⟩, ⟨t7, _⟩, ⟨t14, _⟩, ⟨t15, _⟩, _⟩ := s
  kernel_rfl
theorem ok31_26 (g72 : G72) (g73 : G73) (g59 : G59) (g74 : G74) (g75 : G75) (F : Nat) (hK : KOK Try.prog (ct31 g72 g73 g59 g74 g75 )) : LSOK Try.prog ⟨126, false, undef⟩ (ls31_26 g72 g73 g59 g74 g75 F) (loopOf Try.f31 26) kr31 :=
  loop_ok (st31_26 g72 g73 g59 g74 g75 F) mixed tt_ok hK (by kernel_rfl) (LTOK_by (l := []) (by kernel_rfl) trivial) (ev31_26 g72 g73 g59 g74 g75 F)
theorem ev31 (g72 : G72) (g73 : G73) (g59 : G59) (g74 : G74) (g75 : G75) (F : Nat) (x : Args [.v (.pair i64 (.pair i64 (.pair (.slice 27 mat) .unit))), .v i64]) : fnK TT (ct31 g72 g73 g59 g74 g75 ) kp31 [(.slice 2 i64), i64] [(9, ls31_9 g72 g73 g59 g74 g75 F), (26, ls31_26 g72 g73 g59 g74 g75 F)] (bodyOf Try.f31) [.tmp 4, .tmp 5] [.v (.pair i64 (.pair i64 (.pair (.slice 27 mat) .unit))), .v i64] true false x = fn31 g72 g73 g59 g74 g75 F x := by
  obtain ⟨x0, x1, _⟩ := x
  kernel_rfl
theorem ok31 (g72 : G72) (g73 : G73) (g59 : G59) (g74 : G74) (g75 : G75) (hK : KOK Try.prog (ct31 g72 g73 g59 g74 g75 )) (cf : G31) (h : ∀ x y, cf x = some y → ∃ F, fn31 g72 g73 g59 g74 g75 F x = some y) : KOne Try.prog 31 ⟨[.v (.pair i64 (.pair i64 (.pair (.slice 27 mat) .unit))), .v i64], [(.slice 2 i64), i64], true, false, 0, cf⟩ :=
  fn_one rfl (c := bodyOf Try.f31) mixed tt_ok hK Try.func31 (by kernel_rfl) (by kernel_rfl) (Nat.le_of_ble_eq_true (by kernel_rfl)) (by decide) fun x y hxy => by
    obtain ⟨F, hF⟩ := h x y hxy
    exact ⟨[(9, ls31_9 g72 g73 g59 g74 g75 F), (26, ls31_26 g72 g73 g59 g74 g75 F)], LTOK_by (l := [loopOf Try.f31 9, loopOf Try.f31 26]) (by kernel_rfl) ⟨ls_at (by kernel_rfl) (ok31_9 g72 g73 g59 g74 g75 F hK), ⟨ls_at (by kernel_rfl) (ok31_26 g72 g73 g59 g74 g75 F hK), trivial⟩⟩, (ev31 g72 g73 g59 g74 g75 F x).trans hF⟩
abbrev R78 : Type := Ress [.bool]
abbrev G78 : Type := Args [.v (.pair i64 (.pair i64 (.pair (.slice 27 mat) .unit)))] → Option R78
abbrev kp78 : List (Nat × List Nat) := [(0, [1]), (1, [2])]
abbrev ct78 : CTab := []
def fn78 (F : Nat) (x : Args [.v (.pair i64 (.pair i64 (.pair (.slice 27 mat) .unit)))]) : Option R78 :=
  match x with
  | (x0, _) => (bif decide ((List.length x0.2.2.1) ≤ 9223372036854775807) then (bif (!decide (x0.1 = (0 : Int))) then (some (decide ((Int.tmod (Int.ofNat (List.length x0.2.2.1)) x0.1) = (0 : Int)), ())) else none) else none)
theorem ev78 (F : Nat) (x : Args [.v (.pair i64 (.pair i64 (.pair (.slice 27 mat) .unit)))]) : fnK TT (ct78 ) kp78 [.bool] [] (bodyOf Try.f78) [.tmp 2] [.v (.pair i64 (.pair i64 (.pair (.slice 27 mat) .unit)))] false false x = fn78 F x := by
  obtain ⟨x0, _⟩ := x
  kernel_rfl
theorem ok78 (hK : KOK Try.prog (ct78 )) (cf : G78) (h : ∀ x y, cf x = some y → ∃ F, fn78 F x = some y) : KOne Try.prog 78 ⟨[.v (.pair i64 (.pair i64 (.pair (.slice 27 mat) .unit)))], [.bool], false, false, 0, cf⟩ :=
  fn_one rfl (c := bodyOf Try.f78) mixed tt_ok hK Try.func78 (by kernel_rfl) (by kernel_rfl) (Nat.le_of_ble_eq_true (by kernel_rfl)) (by decide) fun x y hxy => by
    obtain ⟨F, hF⟩ := h x y hxy
    exact ⟨[], LTOK_by (l := []) (by kernel_rfl) trivial, (ev78 F x).trans hF⟩
abbrev R77 : Type := Ress [i64]
abbrev G77 : Type := Args [.v (.pair i64 (.pair i64 (.pair (.slice 27 mat) .unit))), .v i64, .v i64] → Option R77
abbrev kp77 : List (Nat × List Nat) := [(0, [3, 2, 1]), (1, [7, 2, 1]), (3, [11]), (4, [6]), (2, [6]), (5, [6])]
abbrev ct77 (g127 : G127) : CTab := [(127, ⟨[.v (.pair i64 (.pair i64 (.pair (.slice 27 mat) .unit)))], [.bool], false, false, 0, g127⟩)]
def fn77 (g127 : G127) (F : Nat) (x : Args [.v (.pair i64 (.pair i64 (.pair (.slice 27 mat) .unit))), .v i64, .v i64]) : Option R77 :=
  match x with
  | (x0, x1, x2, _) => (match (g127 ((x0.1, (x0.2.1, (x0.2.2.1, ()))), ())) with | some r6 => (bif (!r6.1) then (some ((1 : Int), ())) else (bif decide (x1 < (0 : Int)) then (some ((2 : Int), ())) else (bif (bif false then true else decide (x2 < x1)) then (some ((2 : Int), ())) else (some ((0 : Int), ()))))) | none => none)
theorem ev77 (g127 : G127) (F : Nat) (x : Args [.v (.pair i64 (.pair i64 (.pair (.slice 27 mat) .unit))), .v i64, .v i64]) : fnK TT (ct77 g127 ) kp77 [i64] [] (bodyOf Try.f77) [.tmp 6] [.v (.pair i64 (.pair i64 (.pair (.slice 27 mat) .unit))), .v i64, .v i64] false false x = fn77 g127 F x := by
  obtain ⟨x0, x1, x2, _⟩ := x
  kernel_rfl
theorem ok77 (g127 : G127) (hK : KOK Try.prog (ct77 g127 )) (cf : G77) (h : ∀ x y, cf x = some y → ∃ F, fn77 g127 F x = some y) : KOne Try.prog 77 ⟨[.v (.pair i64 (.pair i64 (.pair (.slice 27 mat) .unit))), .v i64, .v i64], [i64], false, false, 0, cf⟩ :=
  fn_one rfl (c := bodyOf Try.f77) mixed tt_ok hK Try.func77 (by kernel_rfl) (by kernel_rfl) (Nat.le_of_ble_eq_true (by kernel_rfl)) (by decide) fun x y hxy => by
    obtain ⟨F, hF⟩ := h x y hxy
    exact ⟨[], LTOK_by (l := []) (by kernel_rfl) trivial, (ev77 g127 F x).trans hF⟩
abbrev R33 : Type := Ress [(.slice 2 i64), i64]
abbrev G33 : Type := Args [.v (.pair i64 (.pair i64 (.pair (.slice 27 mat) .unit))), .v i64] → Option R33
abbrev kp33 : List (Nat × List Nat) := [(0, [1, 2]), (1, [1, 2, 6]), (2, [21, 1, 2, 6]), (3, [5, 4]), (4, [24, 2, 1]), (5, [5, 4]), (6, [7, 1, 2]), (7, [7, 8, 1, 2]), (8, [33, 7, 8, 1, 2, 31, 32]), (9, [34, 8, 7, 33, 1, 2, 31, 32]), (10, [10, 8, 7, 33, 1, 2, 31, 32]), (11, [8, 7, 11, 33, 1, 2, 31, 32]), (12, [8, 7, 11, 12, 33, 1, 2, 31, 32]), (13, [47, 8, 7, 11, 12, 33, 1, 2, 31, 32, 46]), (14, [48, 12, 11, 7, 47, 8, 33, 1, 2, 31, 32, 46]), (15, [13, 12, 11, 7, 47, 8, 33, 1, 2, 31, 32, 46]), (16, [51, 13, 12, 11, 7, 47, 8, 33, 1, 2, 31, 32, 46]), (17, [13, 12, 11, 7, 47, 8, 33, 1, 2, 31, 32, 46]), (18, [14, 13, 12, 11, 7, 47, 8, 33, 1, 2, 31, 32, 46]), (19, [62, 14, 13, 12, 11, 7, 47, 8, 33, 1, 2, 31, 32, 46]), (21, [14, 13, 12, 11, 7, 47, 8, 33, 1, 2, 31, 32, 46]), (20, [14, 13, 12, 11, 7, 47, 8, 33, 1, 2, 31, 32, 46]), (22, [13, 47, 8, 7, 11, 12, 33, 1, 2, 31, 32, 46]), (23, [47, 8, 7, 11, 12, 33, 1, 2, 31, 32, 46]), (24, [47, 8, 7, 11, 12, 33, 1, 2, 31, 32, 46]), (25, [33, 7, 8, 1, 2, 31, 32]), (26, [7, 15, 8]), (27, [112, 7, 15, 8, 111]), (28, [113, 112, 7, 15, 8, 111]), (29, [16, 112, 7, 15, 8, 111]), (30, [112, 7, 15, 8, 111]), (31, [112, 7, 15, 8, 111]), (32, [5, 4])]
abbrev ct33 (g77 : G77) (g62 : G62) (g79 : G79) (g78 : G78) : CTab := [(77, ⟨[.v (.pair i64 (.pair i64 (.pair (.slice 27 mat) .unit))), .v i64, .v i64], [i64], false, false, 0, g77⟩), (62, ⟨[.v i64, .v i64, .v mat], [(.slice 2 i64)], true, true, 0, g62⟩), (79, ⟨[.v i64, .v i64], [i64], false, false, 0, g79⟩), (78, ⟨[.v (.pair i64 (.pair i64 (.pair (.slice 27 mat) .unit)))], [.bool], false, false, 0, g78⟩)]
abbrev kr33 : Env → Option R33 := endK TT [.tmp 4, .tmp 5] [(.slice 2 i64), i64] true false
abbrev sh33_19 : Shape := [(1, vv i64), (2, .box false [.fz i64 0 false, .fz i64 0 false, .fz (.slice 27 mat) 0 true]), (7, vv i64), (8, vr 2 i64 129 false), (11, vr 2 i64 177 true), (12, vr 2 i64 193 false), (13, vv i64), (14, vv i64), (31, .val false [.fz (.slice 27 mat) 0 true]), (32, vv i64), (33, vv i64), (46, vv i64), (47, vv i64)]
def st33_19 (g77 : G77) (g62 : G62) (g79 : G79) (g78 : G78) (F : Nat) (s : ShVal sh33_19) (k kx : ShVal sh33_19 → Option R33) : Option R33 :=
  match s with
  | ((t1, _), (t2_0, t2_1, t2_2, _), (t7, _), (t8, _), (t11, _), (t12, _), (t13, _), (t14, _), (t31, _), (t32, _), (t33, _), (t46, _), (t47, _), _) => (bif decide ((List.length t11) ≤ 9223372036854775807) then (bif decide (t14 < (Int.ofNat (List.length t11))) then (bif (bif true then decide (t14 ≤ t13) else false) then (bif ib t13 (Int.ofNat (List.length t12)) then (bif ib t14 (Int.ofNat (List.length t11)) then (bif ib (w6 (t13 - t14)) (Int.ofNat (List.length t12)) then (bif ib t13 (Int.ofNat (List.length t12)) then k ((t1, ()), ((t2_0, (t2_1, (t2_2, ()))), ((t7, ()), ((t8, ()), ((t11, ()), (((List.set t12 (tn t13) (w6 ((List.getD t12 (tn t13) (0 : Int)) + (w6 ((w6 (t7 - (List.getD t11 (tn t14) (0 : Int)))) * (List.getD t12 (tn (w6 (t13 - t14))) (0 : Int))))))), ()), ((t13, ()), (((w6 (t14 + (1 : Int))), ()), ((t31, ()), ((t32, ()), ((t33, ()), ((t46, ()), ((t47, ()), ()))))))))))))) else none) else none) else none) else none) else kx ((t1, ()), ((t2_0, (t2_1, (t2_2, ()))), ((t7, ()), ((t8, ()), ((t11, ()), ((t12, ()), ((t13, ()), ((t14, ()), ((t31, ()), ((t32, ()), ((t33, ()), ((t46, ()), ((t47, ()), ())))))))))))))) else kx ((t1, ()), ((t2_0, (t2_1, (t2_2, ()))), ((t7, ()), ((t8, ()), ((t11, ()), ((t12, ()), ((t13, ()), ((t14, ()), ((t31, ()), ((t32, ()), ((t33, ()), ((t46, ()), ((t47, ()), ())))))))))))))) else none)
def ru33_19 (g77 : G77) (g62 : G62) (g79 : G79) (g78 : G78) (F : Nat) (s : ShVal sh33_19) (kx : ShVal sh33_19 → Option R33) : Option R33 := iter (fun s k => st33_19 g77 g62 g79 g78 F s k kx) F s
abbrev ls33_19 (g77 : G77) (g62 : G62) (g79 : G79) (g78 : G78) (F : Nat) : LS R33 := ⟨sh33_19, 4, ru33_19 g77 g62 g79 g78 F⟩
abbrev sh33_14 : Shape := [(1, vv i64), (2, .box false [.fz i64 0 false, .fz i64 0 false, .fz (.slice 27 mat) 0 true]), (7, vv i64), (8, vr 2 i64 129 false), (11, vr 2 i64 177 true), (12, vr 2 i64 193 false), (31, .val false [.fz (.slice 27 mat) 0 true]), (32, vv i64), (33, vv i64), (46, vv i64), (47, vv i64)]
def st33_14 (g77 : G77) (g62 : G62) (g79 : G79) (g78 : G78) (F : Nat) (s : ShVal sh33_14) (k kx : ShVal sh33_14 → Option R33) : Option R33 :=
  match s with
  | ((t1, _), (t2_0, t2_1, t2_2, _), (t7, _), (t8, _), (t11, _), (t12, _), (t31, _), (t32, _), (t33, _), (t46, _), (t47, _), _) => (bif decide (t47 < t46) then (bif decide (t47 = (0 : Int)) then (bif ib (0 : Int) (Int.ofNat (List.length t12)) then (ru33_19 g77 g62 g79 g78 F ((t1, ()), ((t2_0, (t2_1, (t2_2, ()))), ((t7, ()), ((t8, ()), ((t11, ()), (((List.set t12 (tn (0 : Int)) (1 : Int)), ()), ((t47, ()), (((1 : Int), ()), ((t31, ()), ((t32, ()), ((t33, ()), ((t46, ()), ((t47, ()), ()))))))))))))) (fun s' => match s' with | ((t1, _), (t2_0, t2_1, t2_2, _), (t7, _), (t8, _), (t11, _), (t12, _), (t13, _), (t14, _), (t31, _), (t32, _), (t33, _), (t46, _), (t47, _), _) => (bif ib t13 (Int.ofNat (List.length t12)) then (bif (!decide (t7 = (0 : Int))) then (bif ib t13 (Int.ofNat (List.length t12)) then (bif ib t13 (Int.ofNat (List.length t8)) then (bif ib t13 (Int.ofNat (List.length (List.set t12 (tn t13) (Int.tmod (List.getD t12 (tn t13) (0 : Int)) t7)))) then (bif ib t13 (Int.ofNat (List.length t8)) then k ((t1, ()), ((t2_0, (t2_1, (t2_2, ()))), ((t7, ()), (((List.set t8 (tn t13) (w6 ((List.getD t8 (tn t13) (0 : Int)) + (List.getD (List.set t12 (tn t13) (Int.tmod (List.getD t12 (tn t13) (0 : Int)) t7)) (tn t13) (0 : Int))))), ()), ((t11, ()), (((List.set t12 (tn t13) (Int.tmod (List.getD t12 (tn t13) (0 : Int)) t7)), ()), ((t31, ()), ((t32, ()), ((t33, ()), ((t46, ()), (((w6 (t47 + (1 : Int))), ()), ()))))))))))) else none) else none) else none) else none) else none) else none))) else none) else (ru33_19 g77 g62 g79 g78 F ((t1, ()), ((t2_0, (t2_1, (t2_2, ()))), ((t7, ()), ((t8, ()), ((t11, ()), ((t12, ()), ((t47, ()), (((1 : Int), ()), ((t31, ()), ((t32, ()), ((t33, ()), ((t46, ()), ((t47, ()), ()))))))))))))) (fun s' => match s' with | ((t1, _), (t2_0, t2_1, t2_2, _), (t7, _), (t8, _), (t11, _), (t12, _), (t13, _), (t14, _), (t31, _), (t32, _), (t33, _), (t46, _), (t47, _), _) => (bif ib t13 (Int.ofNat (List.length t12)) then (bif (!decide (t7 = (0 : Int))) then (bif ib t13 (Int.ofNat (List.length t12)) then (bif ib t13 (Int.ofNat (List.length t8)) then (bif ib t13 (Int.ofNat (List.length (List.set t12 (tn t13) (Int.tmod (List.getD t12 (tn t13) (0 : Int)) t7)))) then (bif ib t13 (Int.ofNat (List.length t8)) then k ((t1, ()), ((t2_0, (t2_1, (t2_2, ()))), ((t7, ()), (((List.set t8 (tn t13) (w6 ((List.getD t8 (tn t13) (0 : Int)) + (List.getD (List.set t12 (tn t13) (Int.tmod (List.getD t12 (tn t13) (0 : Int)) t7)) (tn t13) (0 : Int))))), ()), ((t11, ()), (((List.set t12 (tn t13) (Int.tmod (List.getD t12 (tn t13) (0 : Int)) t7)), ()), ((t31, ()), ((t32, ()), ((t33, ()), ((t46, ()), (((w6 (t47 + (1 : Int))), ()), ()))))))))))) else none) else none) else none) else none) else none) else none)))) else kx ((t1, ()), ((t2_0, (t2_1, (t2_2, ()))), ((t7, ()), ((t8, ()), ((t11, ()), ((t12, ()), ((t31, ()), ((t32, ()), ((t33, ()), ((t46, ()), ((t47, ()), ()))))))))))))
def ru33_14 (g77 : G77) (g62 : G62) (g79 : G79) (g78 : G78) (F : Nat) (s : ShVal sh33_14) (kx : ShVal sh33_14 → Option R33) : Option R33 := iter (fun s k => st33_14 g77 g62 g79 g78 F s k kx) F s
abbrev ls33_14 (g77 : G77) (g62 : G62) (g79 : G79) (g78 : G78) (F : Nat) : LS R33 := ⟨sh33_14, 2, ru33_14 g77 g62 g79 g78 F⟩
abbrev sh33_9 : Shape := [(1, vv i64), (2, .box false [.fz i64 0 false, .fz i64 0 false, .fz (.slice 27 mat) 0 true]), (7, vv i64), (8, vr 2 i64 129 false), (31, .val false [.fz (.slice 27 mat) 0 true]), (32, vv i64), (33, vv i64)]
def st33_9 (g77 : G77) (g62 : G62) (g79 : G79) (g78 : G78) (F : Nat) (s : ShVal sh33_9) (k kx : ShVal sh33_9 → Option R33) : Option R33 :=
  match s with
  | ((t1, _), (t2_0, t2_1, t2_2, _), (t7, _), (t8, _), (t31, _), (t32, _), (t33, _), _) => (bif decide (t33 < t32) then (bif ib t33 (Int.ofNat (List.length t31)) then (match (g62 (t7, (t2_1, ((List.getD t31 (tn t33) (Ty.dflt (.arr 3 (.arr 3 (.int .u8))))), ())))) with | some r27 => (bif ((decide ((0 : Int) ≤ (w6 (t1 + (1 : Int)))) && decide ((w6 (t1 + (1 : Int))) ≤ (1099511627776 : Int))) && decide ((w6 (t1 + (1 : Int))) = (w6 (t1 + (1 : Int))))) then (bif decide ((List.length (List.replicate (tn (w6 (t1 + (1 : Int)))) (0 : Int))) ≤ 9223372036854775807) then (ru33_14 g77 g62 g79 g78 F ((t1, ()), ((t2_0, (t2_1, (t2_2, ()))), ((t7, ()), ((t8, ()), ((r27.1, ()), (((List.replicate (tn (w6 (t1 + (1 : Int)))) (0 : Int)), ()), ((t31, ()), ((t32, ()), ((t33, ()), (((Int.ofNat (List.length (List.replicate (tn (w6 (t1 + (1 : Int)))) (0 : Int)))), ()), (((0 : Int), ()), ()))))))))))) (fun s' => match s' with | ((t1, _), (t2_0, t2_1, t2_2, _), (t7, _), (t8, _), (t11, _), (t12, _), (t31, _), (t32, _), (t33, _), (t46, _), (t47, _), _) => k ((t1, ()), ((t2_0, (t2_1, (t2_2, ()))), ((t7, ()), ((t8, ()), ((t31, ()), ((t32, ()), (((w6 (t33 + (1 : Int))), ()), ()))))))))) else none) else none) | none => none) else none) else kx ((t1, ()), ((t2_0, (t2_1, (t2_2, ()))), ((t7, ()), ((t8, ()), ((t31, ()), ((t32, ()), ((t33, ()), ()))))))))
def ru33_9 (g77 : G77) (g62 : G62) (g79 : G79) (g78 : G78) (F : Nat) (s : ShVal sh33_9) (kx : ShVal sh33_9 → Option R33) : Option R33 := iter (fun s k => st33_9 g77 g62 g79 g78 F s k kx) F s
abbrev ls33_9 (g77 : G77) (g62 : G62) (g79 : G79) (g78 : G78) (F : Nat) : LS R33 := ⟨sh33_9, 0, ru33_9 g77 g62 g79 g78 F⟩
abbrev sh33_28 : Shape := [(7, vv i64), (8, vr 2 i64 129 false), (15, vv i64), (111, vv i64), (112, vv i64)]
def st33_28 (g77 : G77) (g62 : G62) (g79 : G79) (g78 : G78) (F : Nat) (s : ShVal sh33_28) (k kx : ShVal sh33_28 → Option R33) : Option R33 :=
  match s with
  | ((t7, _), (t8, _), (t15, _), (t111, _), (t112, _), _) => (bif decide (t112 < t111) then (bif ib t112 (Int.ofNat (List.length t8)) then (bif (!decide (t7 = (0 : Int))) then (bif (!decide (t7 = (0 : Int))) then (bif ib t112 (Int.ofNat (List.length t8)) then k ((t7, ()), (((List.set t8 (tn t112) (Int.tmod (w6 ((Int.tmod (List.getD t8 (tn t112) (0 : Int)) t7) * t15)) t7)), ()), ((t15, ()), ((t111, ()), (((w6 (t112 + (1 : Int))), ()), ()))))) else none) else none) else none) else none) else kx ((t7, ()), ((t8, ()), ((t15, ()), ((t111, ()), ((t112, ()), ()))))))
def ru33_28 (g77 : G77) (g62 : G62) (g79 : G79) (g78 : G78) (F : Nat) (s : ShVal sh33_28) (kx : ShVal sh33_28 → Option R33) : Option R33 := iter (fun s k => st33_28 g77 g62 g79 g78 F s k kx) F s
abbrev ls33_28 (g77 : G77) (g62 : G62) (g79 : G79) (g78 : G78) (F : Nat) : LS R33 := ⟨sh33_28, 6, ru33_28 g77 g62 g79 g78 F⟩
def fn33 (g77 : G77) (g62 : G62) (g79 : G79) (g78 : G78) (F : Nat) (x : Args [.v (.pair i64 (.pair i64 (.pair (.slice 27 mat) .unit))), .v i64]) : Option R33 :=
  match x with
  | (x0, x1, _) => (match (g77 ((x0.1, (x0.2.1, (x0.2.2.1, ()))), (x1, ((40 : Int), ())))) with | some r8 => (bif (!decide (r8.1 = (0 : Int))) then (some ([], (r8.1, ()))) else (match (g78 ((x0.1, (x0.2.1, (x0.2.2.1, ()))), ())) with | some r11 => (bif r11.1 then (some ([], ((5 : Int), ()))) else (bif ((decide ((0 : Int) ≤ (w6 (x1 + (1 : Int)))) && decide ((w6 (x1 + (1 : Int))) ≤ (1099511627776 : Int))) && decide ((w6 (x1 + (1 : Int))) = (w6 (x1 + (1 : Int))))) then (bif decide ((List.length x0.2.2.1) ≤ 9223372036854775807) then (ru33_9 g77 g62 g79 g78 F ((x1, ()), ((x0.1, (x0.2.1, (x0.2.2.1, ()))), ((x0.1, ()), (((List.replicate (tn (w6 (x1 + (1 : Int)))) (0 : Int)), ()), ((x0.2.2.1, ()), (((Int.ofNat (List.length x0.2.2.1)), ()), (((0 : Int), ()), ()))))))) (fun s' => match s' with | ((t1, _), (t2_0, t2_1, t2_2, _), (t7, _), (t8, _), (t31, _), (t32, _), (t33, _), _) => (bif decide ((List.length t2_2) ≤ 9223372036854775807) then (bif (!decide (t7 = (0 : Int))) then (match (g79 ((Int.tmod (Int.ofNat (List.length t2_2)) t7), (t7, ()))) with | some r25 => (bif decide ((List.length t8) ≤ 9223372036854775807) then (ru33_28 g77 g62 g79 g78 F ((t7, ()), ((t8, ()), ((r25.1, ()), (((Int.ofNat (List.length t8)), ()), (((0 : Int), ()), ()))))) (fun s' => match s' with | ((t7, _), (t8, _), (t15, _), (t111, _), (t112, _), _) => (some (t8, ((0 : Int), ()))))) else none) | none => none) else none) else none))) else none) else none)) | none => none)) | none => none)
theorem ev33_19 (g77 : G77) (g62 : G62) (g79 : G79) (g78 : G78) (F : Nat) (s : ShVal sh33_19) (k kx : ShVal sh33_19 → Option R33) : evL TT (ct33 g77 g62 g79 g78 ) kp33 [] (loopOf Try.f33 19) (envOf sh33_19 s) (fitK sh33_19 k) (fun j e => bif Nat.beq j 4 then fitK sh33_19 kx e else none) kr33 = st33_19 g77 g62 g79 g78 F s k kx := by
  obtain ⟨⟨t1, _⟩, ⟨t2_0, t2_1, t2_2, _⟩, ⟨t7, _⟩, ⟨t8, _⟩, ⟨t11, _⟩, ⟨t12, _⟩, ⟨t13, _⟩, ⟨t14, _⟩, ⟨t31, _⟩, ⟨t32, _⟩, ⟨t33, _⟩, ⟨t46, _⟩, ⟨t47, _⟩, _⟩ := s
  kernel_rfl
theorem ok33_19 (g77 : G77) (g62 : G62) (g79 : G79) (g78 : G78) (F : Nat) (hK : KOK Try.prog (ct33 g77 g62 g79 g78 )) : LSOK Try.prog ⟨130, false, undef⟩ (ls33_19 g77 g62 g79 g78 F) (loopOf Try.f33 19) kr33 :=
  loop_ok (st33_19 g77 g62 g79 g78 F) mixed tt_ok hK (by kernel_rfl) (LTOK_by (l := []) (by kernel_rfl) trivial) (ev33_19 g77 g62 g79 g78 F)
theorem ev33_14 (g77 : G77) (g62 : G62) (g79 : G79) (g78 : G78) (F : Nat) (s : ShVal sh33_14) (k kx : ShVal sh33_14 → Option R33) : evL TT (ct33 g77 g62 g79 g78 ) kp33 [(19, ls33_19 g77 g62 g79 g78 F)] (loopOf Try.f33 14) (envOf sh33_14 s) (fitK sh33_14 k) (fun j e => bif Nat.beq j 2 then fitK sh33_14 kx e else none) kr33 = st33_14 g77 g62 g79 g78 F s k kx := by
  obtain ⟨⟨t1, _⟩, ⟨t2_0, t2_1, t2_2, _⟩, ⟨t7, _⟩, ⟨t8, _⟩, ⟨t11, _⟩, ⟨t12, _⟩, ⟨t31, _⟩, ⟨t32, _⟩, ⟨t33, _⟩, ⟨t46, _⟩, ⟨t47, _⟩, _⟩ := s
  kernel_rfl
theorem ok33_14 (g77 : G77) (g62 : G62) (g79 : G79) (g78 : G78) (F : Nat) (hK : KOK Try.prog (ct33 g77 g62 g79 g78 )) : LSOK Try.prog ⟨130, false, undef⟩ (ls33_14 g77 g62 g79 g78 F) (loopOf Try.f33 14) kr33 :=
  loop_ok (st33_14 g77 g62 g79 g78 F) mixed tt_ok hK (by kernel_rfl) (LTOK_by (l := [loopOf Try.f33 19]) (by kernel_rfl) ⟨ls_at (by kernel_rfl) (ok33_19 g77 g62 g79 g78 F hK), trivial⟩) (ev33_14 g77 g62 g79 g78 F)
theorem ev33_9 (g77 : G77) (g62 : G62) (g79 : G79) (g78 : G78) (F : Nat) (s : ShVal sh33_9) (k kx : ShVal sh33_9 → Option R33) : evL TT (ct33 g77 g62 g79 g78 ) kp33 [(14, ls33_14 g77 g62 g79 g78 F)] (loopOf Try.f33 9) (envOf sh33_9 s) (fitK sh33_9 k) (fun j e => bif Nat.beq j 0 then fitK sh33_9 kx e else none) kr33 = st33_9 g77 g62 g79 g78 F s k kx := by
  obtain ⟨⟨t1, _⟩, ⟨t2_0, t2_1, t2_2, _⟩, ⟨t7, _⟩, ⟨t8, _⟩, ⟨t31, _⟩, ⟨t32, _⟩, ⟨t33, _⟩, _⟩ := s
  kernel_rfl
theorem ok33_9 (g77 : G77) (g62 : G62) (g79 : G79) (g78 : G78) (F : Nat) (hK : KOK Try.prog (ct33 g77 g62 g79 g78 )) : LSOK Try.prog ⟨130, false, undef⟩ (ls33_9 g77 g62 g79 g78 F) (loopOf Try.f33 9) kr33 :=
  loop_ok (st33_9 g77 g62 g79 g78 F) mixed tt_ok hK (by kernel_rfl) (LTOK_by (l := [loopOf Try.f33 14]) (by kernel_rfl) ⟨ls_at (by kernel_rfl) (ok33_14 g77 g62 g79 g78 F hK), trivial⟩) (ev33_9 g77 g62 g79 g78 F)
theorem ev33_28 (g77 : G77) (g62 : G62) (g79 : G79) (g78 : G78) (F : Nat) (s : ShVal sh33_28) (k kx : ShVal sh33_28 → Option R33) : evL TT (ct33 g77 g62 g79 g78 ) kp33 [] (loopOf Try.f33 28) (envOf sh33_28 s) (fitK sh33_28 k) (fun j e => bif Nat.beq j 6 then fitK sh33_28 kx e else none) kr33 = st33_28 g77 g62 g79 g78 F s k kx := by
  obtain ⟨⟨t7, _⟩, ⟨t8, _⟩, ⟨t15, _⟩, ⟨t111, _⟩, ⟨t112, _⟩, _⟩ := s
  kernel_rfl
theorem ok33_28 (g77 : G77) (g62 : G62) (g79 : G79) (g78 : G78) (F : Nat) (hK : KOK Try.prog (ct33 g77 g62 g79 g78 )) : LSOK Try.prog ⟨130, false, undef⟩ (ls33_28 g77 g62 g79 g78 F) (loopOf Try.f33 28) kr33 :=
  loop_ok (st33_28 g77 g62 g79 g78 F) mixed tt_ok hK (by kernel_rfl) (LTOK_by (l := []) (by kernel_rfl) trivial) (ev33_28 g77 g62 g79 g78 F)
theorem ev33 (g77 : G77) (g62 : G62) (g79 : G79) (g78 : G78) (F : Nat) (x : Args [.v (.pair i64 (.pair i64 (.pair (.slice 27 mat) .unit))), .v i64]) : fnK TT (ct33 g77 g62 g79 g78 ) kp33 [(.slice 2 i64), i64] [(9, ls33_9 g77 g62 g79 g78 F), (28, ls33_28 g77 g62 g79 g78 F)] (bodyOf Try.f33) [.tmp 4, .tmp 5] [.v (.pair i64 (.pair i64 (.pair (.slice 27 mat) .unit))), .v i64] true false x = fn33 g77 g62 g79 g78 F x := by
  obtain ⟨x0, x1, _⟩ := x
  kernel_rfl
theorem ok33 (g77 : G77) (g62 : G62) (g79 : G79) (g78 : G78) (hK : KOK Try.prog (ct33 g77 g62 g79 g78 )) (cf : G33) (h : ∀ x y, cf x = some y → ∃ F, fn33 g77 g62 g79 g78 F x = some y) : KOne Try.prog 33 ⟨[.v (.pair i64 (.pair i64 (.pair (.slice 27 mat) .unit))), .v i64], [(.slice 2 i64), i64], true, false, 0, cf⟩ :=
  fn_one rfl (c := bodyOf Try.f33) mixed tt_ok hK Try.func33 (by kernel_rfl) (by kernel_rfl) (Nat.le_of_ble_eq_true (by kernel_rfl)) (by decide) fun x y hxy => by
    obtain ⟨F, hF⟩ := h x y hxy
    exact ⟨[(9, ls33_9 g77 g62 g79 g78 F), (28, ls33_28 g77 g62 g79 g78 F)], LTOK_by (l := [loopOf Try.f33 9, loopOf Try.f33 28]) (by kernel_rfl) ⟨ls_at (by kernel_rfl) (ok33_9 g77 g62 g79 g78 F hK), ⟨ls_at (by kernel_rfl) (ok33_28 g77 g62 g79 g78 F hK), trivial⟩⟩, (ev33 g77 g62 g79 g78 F x).trans hF⟩
def mk (N : Nat) (f : Nat → Int) : List Int := (List.range N).map f
theorem mk_len {N : Nat} {f : Nat → Int} : (mk N f).length = N := by simp [mk]
theorem mk_get {N i : Nat} {f : Nat → Int} {d : Int} (h : i < N) : (mk N f).getD i d = f i := by
  unfold mk; rw [List.getD_eq_getElem?_getD, List.getElem?_map, List.getElem?_range h]; rfl
theorem mk_congr {N : Nat} {f g : Nat → Int} (h : ∀ i, i < N → f i = g i) : mk N f = mk N g := List.map_congr_left fun i hi => h i (List.mem_range.1 hi)
theorem mk_set {N i : Nat} {f : Nat → Int} {x : Int} (hi : i < N) : (mk N f).set i x = mk N fun j => if i = j then x else f j := range_set hi
theorem mk_rep {N : Nat} {x : Int} : List.replicate N x = mk N fun _ => x := by
  unfold mk; rw [List.map_const']; simp
theorem mk_snoc {N : Nat} {f : Nat → Int} : mk (N + 1) f = mk N f ++ [f N] := by unfold mk; rw [List.range_succ, List.map_append]; rfl
def d0 (k : Nat) : Int := if k = 0 then 1 else 0
def mv (p : Int) (c : List Int) (A : Nat → Int) (k : Nat) : Nat → Int
  | 0 => d0 k
  | j + 1 => (mv p c A k j - el c (j + 1) * A (k - (j + 1))) % p
def mi (p : Int) (c : List Int) (A : Nat → Int) (k : Nat) : Nat → Int
  | 0 => d0 k
  | j + 1 => mi p c A k j + (p - el c (j + 1)) * A (k - (j + 1))
def stepsM (c : List Int) (k : Nat) : Nat := min (c.length - 1) k
def mA (p : Int) (c : List Int) (k : Nat) : Int :=
  molG k (k + 1)
where
  molG : Nat → Nat → Int
    | _, 0 => 0
    | k, f + 1 => mv p c (fun i => if i < k then molG i f else 0) k (stepsM c k)
theorem molG_fuel {p : Int} {c : List Int} : ∀ (f k g : Nat), k < f → k < g → mA.molG p c k f = mA.molG p c k g
  | 0, k, g, h, _ => by omega
  | f + 1, k, 0, _, h => by omega
  | f + 1, k, g + 1, h1, h2 => by
    simp only [mA.molG]
    congr 1
    funext i
    split
    · exact molG_fuel f i g (by omega) (by omega)
    · rfl
theorem mv_congr {p : Int} {c : List Int} {A B : Nat → Int} {k : Nat} (h : ∀ i, i < k → A i = B i) : ∀ {j : Nat}, j ≤ k → mv p c A k j = mv p c B k j
  | 0, _ => rfl
  | j + 1, hj => by simp only [mv]; rw [mv_congr h (j := j) (by omega), h _ (by omega)]
theorem mA_eq {p : Int} {c : List Int} {k : Nat} : mA p c k = mv p c (mA p c) k (stepsM c k) := by
  show mA.molG p c k (k + 1) = _
  simp only [mA.molG]
  refine mv_congr (fun i hi => ?_) (Nat.min_le_right _ _)
  rw [if_pos hi]; exact molG_fuel _ _ _ hi (by omega)
theorem d0_rng {p : Int} (hp : 2 ≤ p) {k : Nat} : 0 ≤ d0 k ∧ d0 k < p := by unfold d0; split <;> omega
theorem mv_rng {p : Int} (hp : 2 ≤ p) {c : List Int} {A : Nat → Int} {k : Nat} : ∀ {j : Nat}, 0 ≤ mv p c A k j ∧ mv p c A k j < p
  | 0 => d0_rng hp
  | j + 1 => md_rng (by omega)
theorem mA_rng {p : Int} (hp : 2 ≤ p) {c : List Int} {k : Nat} : 0 ≤ mA p c k ∧ mA p c k < p := by rw [mA_eq]; exact mv_rng hp
def okC (p : Int) (c : List Int) : Prop := 1 ≤ c.length ∧ c.length ≤ 4 ∧ ∀ i, 0 ≤ el c i ∧ el c i < p
theorem mi_mod {p : Int} (hp : 2 ≤ p) {c : List Int} {A : Nat → Int} {k : Nat} : ∀ {j : Nat}, mi p c A k j % p = mv p c A k j % p
  | 0 => rfl
  | j + 1 => by
    have ih := mi_mod hp (c := c) (A := A) (k := k) (j := j)
    simp only [mi, mv]
    rw [Int.emod_emod_of_dvd _ (Int.dvd_refl p)]
    rw [show mi p c A k j + (p - el c (j + 1)) * A (k - (j + 1)) = (mi p c A k j - el c (j + 1) * A (k - (j + 1))) + A (k - (j + 1)) * p by rw [Int.sub_mul, Int.mul_comm p]; omega, Int.add_mul_emod_self_right]
    rw [Int.sub_emod, ih, ← Int.sub_emod]
theorem mi_rng {p : Int} (hp : 2 ≤ p ∧ p ≤ 13) {c : List Int} (hc : okC p c) {A : Nat → Int} (hA : ∀ i, 0 ≤ A i ∧ A i < p) {k : Nat} : ∀ {j : Nat}, 0 ≤ mi p c A k j ∧ mi p c A k j ≤ 1 + 169 * (j : Int)
  | 0 => by simp only [mi]; have := d0_rng (p := 2) (by omega) (k := k); omega
  | j + 1 => by
    have ih := mi_rng hp hc hA (k := k) (j := j)
    have h1 := hc.2.2 (j + 1)
    have h2 := hA (k - (j + 1))
    have := mul_rng (a := p - el c (j + 1)) (b := A (k - (j + 1))) (c := 14) (d := 13) (by omega) (by omega) (by omega) (by omega)
    have b2 : (p - el c (j + 1)) * A (k - (j + 1)) ≤ 169 := Int.le_trans (Int.mul_le_mul_of_nonneg_right (show p - el c (j + 1) ≤ 13 by omega) h2.1) (by omega)
    simp only [mi]
    push_cast
    omega
theorem charL_ok {p n : Int} {g : Mat} (hp : 2 ≤ p ∧ p ≤ 13) : okC p (charL p n g) := by
  have m := fun x : Int => md_rng (p := p) (x := x) (by omega)
  have one : ∀ (L : List Int), (∀ x ∈ L, 0 ≤ x ∧ x < p) → ∀ i, 0 ≤ el L i ∧ el L i < p := fun L h i => by
    rcases Nat.lt_or_ge i L.length with q | q
    · rw [el_get q]; exact h _ (List.getElem_mem q)
    · rw [el_ge q]; omega
  unfold charL okC
  split
  · exact ⟨by simp, by simp, one _ (by simp only [List.mem_cons, List.not_mem_nil, or_false]; rintro x (rfl | rfl); omega; exact m _)⟩
  · split
    · exact ⟨by simp, by simp, one _ (by simp only [List.mem_cons, List.not_mem_nil, or_false]; rintro x (rfl | rfl | rfl); omega; exact m _; exact m _)⟩
    · exact ⟨by simp, by simp, one _ (by simp only [List.mem_cons, List.not_mem_nil, or_false]; rintro x (rfl | rfl | rfl | rfl); omega; exact m _; exact m _; exact m _)⟩
theorem in31 {p x1 n0 t8 : Int} {L : List Mat} {out c : List Int} {k : Nat} {g72 : G72} {g73 : G73} {g59 : G59} {g75 : G75} (hp : 2 ≤ p ∧ p ≤ 13) (hc : okC p c) (hk : k ≤ 100) {F0 : Nat} {kx : ShVal sh31_19 → Option R31} (F : Nat) (hF : 100 < F) :
    iter (fun s k => st31_19 g72 g73 g59 cf74 g75 F0 s k kx) F ((x1, ()), ((p, (n0, (L, ()))), ((p, ()), ((out, ()), ((t8, ()), ((c, ()), ((mk k (mA p c), ()), (((k : Int), ()), ((d0 k, ()), (((1 : Int), ()), ())))))))))) =
      kx ((x1, ()), ((p, (n0, (L, ()))), ((p, ()), ((out, ()), ((t8, ()), ((c, ()), ((mk k (mA p c), ()), (((k : Int), ()), ((mA p c k, ()), ((((stepsM c k + 1 : Nat) : Int), ()), ())))))))))) := by
  have hs : stepsM c k ≤ 3 := by unfold stepsM; have := hc.2.1; omega
  have hs2 : stepsM c k ≤ k := Nat.min_le_right _ _
  refine iter_run (stepsM c k) F (fun j => ((x1, ()), ((p, (n0, (L, ()))), ((p, ()), ((out, ()), ((t8, ()), ((c, ()), ((mk k (mA p c), ()), (((k : Int), ()), ((mv p c (mA p c) k j, ()), ((((j + 1 : Nat) : Int), ()), ()))))))))))) (by omega) (fun j hj kk => ?_) (fun kk => ?_)
  · have h1 : j + 1 < c.length := by unfold stepsM at hj; omega
    have hl := hc.2.1
    have hm : (mk k (mA p c)).length = k := mk_len
    simp only [st31_19]
    simp (disch := omega) only [dln_t, cond_true, ofn, dlt_t, dle_t, ib_t, tn_cast, w6_id, hm]
    rw [show tn ((k : Int) - ((j + 1 : Nat) : Int)) = k - (j + 1) by show ((k : Int) - ((j + 1 : Nat) : Int)).toNat = _; omega, mk_get (by omega)]
    have e1 : c.getD (j + 1) 0 = el c (j + 1) := rfl
    rw [e1]
    have r1 := hc.2.2 (j + 1)
    have r2 := mA_rng (p := p) hp.1 (c := c) (k := k - (j + 1))
    have r3 := mv_rng (p := p) hp.1 (c := c) (A := mA p c) (k := k) (j := j)
    have r4 := sq_rng hp.2 r1.1 r1.2 r2.1 r2.2
    rw [w6_id (x := el c (j + 1) * mA p c (k - (j + 1))) (by omega) (by omega), w6_id (by omega) (by omega)]
    rw [g74_ok ⟨by omega, by omega, by omega, by omega⟩]
    simp (disch := omega) only [w6_id]
    rfl
  · have hm : (mk k (mA p c)).length = k := mk_len
    have hl := hc.2.1
    have hl1 := hc.1
    rw [← mA_eq]
    simp only [st31_19]
    rw [dln_t (by omega), cond_true, ofn]
    by_cases q : ((stepsM c k + 1 : Nat) : Int) < (c.length : Int)
    · have q2 : stepsM c k = k := by unfold stepsM at q ⊢; omega
      rw [dlt_t q, cond_true, cond_true, dle_f (by omega)]; rfl
    · rw [dlt_f (by omega)]; rfl
def upF (p : Int) (f A : Nat → Int) (k : Nat) : Nat → Int := fun i => if i < k then (f i + A i) % p else f i
theorem tm_p {p x : Int} (hx : 0 ≤ x) : Int.tmod x p = x % p := Int.tmod_eq_emod_of_nonneg hx
theorem mid31 {p n0 t8 : Int} {K : Nat} {L : List Mat} {c : List Int} {f : Nat → Int} {g72 : G72} {g73 : G73} {g59 : G59} {g75 : G75} (hp : 2 ≤ p ∧ p ≤ 13) (hc : okC p c) (hK : K ≤ 40) (hf : ∀ i, 0 ≤ f i ∧ f i < p) {F0 : Nat} (hF0 : 100 < F0) {kx : ShVal sh31_13 → Option R31} (F : Nat) (hF : 100 < F) :
    iter (fun s k => st31_13 g72 g73 g59 cf74 g75 F0 s k kx) F (((K : Int), ()), ((p, (n0, (L, ()))), ((p, ()), ((mk (K + 1) f, ()), ((t8, ()), ((c, ()), ((mk 0 (mA p c), ()), ((((0 : Nat) : Int), ()), ())))))))) =
      kx (((K : Int), ()), ((p, (n0, (L, ()))), ((p, ()), ((mk (K + 1) (fun i => (f i + mA p c i) % p), ()), ((t8, ()), ((c, ()), ((mk (K + 1) (mA p c), ()), ((((K + 1 : Nat) : Int), ()), ())))))))) := by
  have e0 : mk (K + 1) f = mk (K + 1) (upF p f (mA p c) 0) := mk_congr fun i hi => by unfold upF; rw [if_neg (by omega)]
  rw [e0]
  refine (iter_run (step := fun s k => st31_13 g72 g73 g59 cf74 g75 F0 s k kx) (K + 1) F (fun k => (((K : Int), ()), ((p, (n0, (L, ()))), ((p, ()), ((mk (K + 1) (upF p f (mA p c) k), ()), ((t8, ()), ((c, ()), ((mk k (mA p c), ()), (((k : Int), ()), ()))))))))) (by omega) (fun k hk kk => ?_) (fun kk => ?_)).trans rfl
  · have hm : (mk k (mA p c)).length = k := mk_len
    have hmo : (mk (K + 1) (upF p f (mA p c) k)).length = K + 1 := mk_len
    have hin := in31 (x1 := (K : Int)) (n0 := n0) (t8 := t8) (L := L) (out := mk (K + 1) (upF p f (mA p c) k)) (g72 := g72) (g73 := g73) (g59 := g59) (g75 := g75) hp hc (show k ≤ 100 by omega) (F0 := F0) (F := F0) (hF := hF0)
      (kx := fun s' => match s' with | ((t1, _), (t2_0, t2_1, t2_2, _), (t6, _), (t7, _), (t8, _), (t9, _), (t10, _), (t11, _), (t12, _), (t13, _), _) => (bif (growOk (List.length t10) (List.length (t12 :: []))) then (bif ib t11 (Int.ofNat (List.length t7)) then (bif (!decide (t6 = (0 : Int))) then (bif ib t11 (Int.ofNat (List.length t7)) then kk ((t1, ()), ((t2_0, (t2_1, (t2_2, ()))), ((t6, ()), (((List.set t7 (tn t11) (Int.tmod (w6 ((List.getD t7 (tn t11) (0 : Int)) + t12)) t6)), ()), ((t8, ()), ((t9, ()), (((t10 ++ (t12 :: [])), ()), (((w6 (t11 + (1 : Int))), ()), ())))))))) else none) else none) else none) else none))
    have a1 := mA_rng (p := p) hp.1 (c := c) (k := k)
    have f1 := hf k
    have fin : (match ((((K : Int), ()), ((p, (n0, (L, ()))), ((p, ()), ((mk (K + 1) (upF p f (mA p c) k), ()), ((t8, ()), ((c, ()), ((mk k (mA p c), ()), (((k : Int), ()), ((mA p c k, ()), ((((stepsM c k + 1 : Nat) : Int), ()), ())))))))))) : ShVal sh31_19) with | ((t1, _), (t2_0, t2_1, t2_2, _), (t6, _), (t7, _), (t8, _), (t9, _), (t10, _), (t11, _), (t12, _), (t13, _), _) => (bif (growOk (List.length t10) (List.length (t12 :: []))) then (bif ib t11 (Int.ofNat (List.length t7)) then (bif (!decide (t6 = (0 : Int))) then (bif ib t11 (Int.ofNat (List.length t7)) then kk ((t1, ()), ((t2_0, (t2_1, (t2_2, ()))), ((t6, ()), (((List.set t7 (tn t11) (Int.tmod (w6 ((List.getD t7 (tn t11) (0 : Int)) + t12)) t6)), ()), ((t8, ()), ((t9, ()), (((t10 ++ (t12 :: [])), ()), (((w6 (t11 + (1 : Int))), ()), ())))))))) else none) else none) else none) else none)) =
        kk (((K : Int), ()), ((p, (n0, (L, ()))), ((p, ()), ((mk (K + 1) (upF p f (mA p c) (k + 1)), ()), ((t8, ()), ((c, ()), ((mk (k + 1) (mA p c), ()), ((((k + 1 : Nat) : Int), ()), ())))))))) := by
      simp only [ofn, hm, hmo, List.length_cons, List.length_nil]
      rw [grow_t (by omega), cond_true, ib_t (by omega) (by omega), cond_true, deq_f (show p ≠ 0 by omega), Bool.not_false, cond_true, cond_true]
      rw [tn_cast, mk_get (by omega), show upF p f (mA p c) k k = f k from if_neg (by omega), w6_id (by omega) (by omega), tm_p (by omega), mk_set (by omega), w6_id (by omega) (by omega), ← mk_snoc]
      rw [show (fun j => if k = j then (f k + mA p c k) % p else upF p f (mA p c) k j) = upF p f (mA p c) (k + 1) from ?_]
      · rfl
      · funext j
        unfold upF
        by_cases q : k = j
        · subst q; rw [if_pos rfl, if_pos (by omega)]
        · rw [if_neg q]
          by_cases q2 : j < k
          · rw [if_pos q2, if_pos (by omega)]
          · rw [if_neg q2, if_neg (by omega)]
    refine Eq.trans ?_ (hin.trans fin)
    simp only [st31_13, ru31_19]
    rw [dle_t (by omega), cond_true]
    by_cases h0 : k = 0
    · subst h0; rfl
    · rw [deq_f (by omega), cond_false, show d0 k = 0 from if_neg h0]
  · simp only [st31_13]
    rw [dle_f (by omega), cond_false]
    have : mk (K + 1) (upF p f (mA p c) (K + 1)) = mk (K + 1) (fun i => (f i + mA p c i) % p) := mk_congr fun i hi => if_pos hi
    rw [this]
def Sm (p n : Int) (L : List Mat) : Nat → Nat → Int
  | 0, _ => 0
  | g + 1, i => (Sm p n L g i + mA p (charL p n (atM L g)) i) % p
theorem Sm_rng {p n : Int} (hp : 2 ≤ p) {L : List Mat} : ∀ {g i : Nat}, 0 ≤ Sm p n L g i ∧ Sm p n L g i < p
  | 0, i => by simp only [Sm]; omega
  | g + 1, i => md_rng (by omega)
theorem out31 {p n : Int} {K : Nat} {L : List Mat} {g72 : G72} {g73 : G73} {g75 : G75} (hp : 2 ≤ p ∧ p ≤ 13) (hn : n = 1 ∨ n = 2 ∨ n = 3) (ho : L.all okM = true) (hl : L.length ≤ 48) (hK : K ≤ 40) {F0 : Nat} (hF0 : 100 < F0) {kx : ShVal sh31_9 → Option R31} (F : Nat) (hF : 100 < F) :
    iter (fun s k => st31_9 g72 g73 cf59 cf74 g75 F0 s k kx) F (((K : Int), ()), ((p, (n, (L, ()))), ((p, ()), ((List.replicate (K + 1) (0 : Int), ()), ((((0 : Nat) : Int), ()), ()))))) =
      kx (((K : Int), ()), ((p, (n, (L, ()))), ((p, ()), ((mk (K + 1) (Sm p n L L.length), ()), (((L.length : Int), ()), ()))))) := by
  have e0 : List.replicate (K + 1) (0 : Int) = mk (K + 1) (Sm p n L 0) := mk_rep
  rw [e0]
  refine (iter_run (step := fun s k => st31_9 g72 g73 cf59 cf74 g75 F0 s k kx) L.length F (fun g => (((K : Int), ()), ((p, (n, (L, ()))), ((p, ()), ((mk (K + 1) (Sm p n L g), ()), (((g : Int), ()), ())))))) (by omega) (fun g hg kk => ?_) (fun kk => ?_)).trans rfl
  · simp only [st31_9, ru31_13]
    simp (disch := omega) only [dln_t, cond_true, ofn, dlt_t, ib_t, tn_cast, w6_id]
    have e59 : cf59 (p, n, L.getD g (Ty.dflt mat), ()) = some (charL p n (atM L g), ()) := g59_ok (okM_at ho hg) hp hn
    rw [e59]
    simp only
    have := mid31 (n0 := n) (t8 := (g : Int)) (K := K) (L := L) (f := Sm p n L g) (g72 := g72) (g73 := g73) (g59 := cf59) (g75 := g75) hp (charL_ok (n := n) (g := atM L g) hp) hK (fun i => Sm_rng hp.1) hF0 (F := F0) (hF := hF0)
      (kx := fun s' => match s' with | ((t1, _), (t2_0, t2_1, t2_2, _), (t6, _), (t7, _), (t8, _), (t9, _), (t10, _), (t11, _), _) => kk ((t1, ()), ((t2_0, (t2_1, (t2_2, ()))), ((t6, ()), ((t7, ()), (((w6 (t8 + (1 : Int))), ()), ()))))))
    refine Eq.trans this ?_
    simp (disch := omega) only [w6_id]
    rfl
  · simp only [st31_9]
    simp (disch := omega) only [dln_t, cond_true, ofn, dlt_f, cond_false]
theorem fin31 {p v : Int} {K : Nat} {f : Nat → Int} {g72 : G72} {g73 : G73} {g59 : G59} {g75 : G75} (hp : 2 ≤ p ∧ p ≤ 13) (hv : 0 ≤ v ∧ v < p) (hK : K ≤ 40) (hf : ∀ i, 0 ≤ f i ∧ f i < p) {F0 : Nat} {kx : ShVal sh31_26 → Option R31} (F : Nat) (hF : 100 < F) :
    iter (fun s k => st31_26 g72 g73 g59 cf74 g75 F0 s k kx) F (((K : Int), ()), ((p, ()), ((mk (K + 1) f, ()), ((v, ()), ((((0 : Nat) : Int), ()), ()))))) =
      kx (((K : Int), ()), ((p, ()), ((mk (K + 1) (fun i => f i * v % p), ()), ((v, ()), ((((K + 1 : Nat) : Int), ()), ()))))) := by
  have e0 : mk (K + 1) f = mk (K + 1) (fun i => if i < 0 then f i * v % p else f i) := mk_congr fun i hi => by rw [if_neg (by omega)]
  rw [e0]
  refine (iter_run (step := fun s k => st31_26 g72 g73 g59 cf74 g75 F0 s k kx) (K + 1) F (fun k => (((K : Int), ()), ((p, ()), ((mk (K + 1) (fun i => if i < k then f i * v % p else f i), ()), ((v, ()), (((k : Int), ()), ())))))) (by omega) (fun k hk kk => ?_) (fun kk => ?_)).trans rfl
  · have hmo : (mk (K + 1) (fun i => if i < k then f i * v % p else f i)).length = K + 1 := mk_len
    have f1 := hf k
    have sq := sq_rng hp.2 f1.1 f1.2 hv.1 hv.2
    simp only [st31_26]
    simp (disch := omega) only [dle_t, cond_true, ofn, ib_t, tn_cast, hmo, deq_f, Bool.not_false]
    rw [mk_get (by omega), if_neg (by omega), w6_id (by omega) (by omega), tm_p (by omega), mk_set (by omega), w6_id (by omega) (by omega)]
    rw [show (fun j => if k = j then f k * v % p else if j < k then f j * v % p else f j) = (fun j => if j < k + 1 then f j * v % p else f j) from ?_]
    · rfl
    · funext j
      by_cases q : k = j
      · subst q; rw [if_pos rfl, if_pos (by omega)]
      · rw [if_neg q]
        by_cases q2 : j < k
        · rw [if_pos q2, if_pos (by omega)]
        · rw [if_neg q2, if_neg (by omega)]
  · simp only [st31_26]
    rw [dle_f (by omega), cond_false]
    have : mk (K + 1) (fun i => if i < K + 1 then f i * v % p else f i) = mk (K + 1) (fun i => f i * v % p) := mk_congr fun i hi => if_pos hi
    rw [this]
def nowF (p : Int) (c : List Int) (k : Nat) (x : Int) : Nat → Int := fun i => if i < k then mA p c i else if i = k then x else 0
theorem in33 {p n0 a32 a33 a46 a47 : Int} {K : Nat} {L : List Mat} {out c : List Int} {k : Nat} {g77 : G77} {g62 : G62} {g79 : G79} {g78 : G78} (hp : 2 ≤ p ∧ p ≤ 13) (hc : okC p c) (hk : k ≤ K) (hK : K ≤ 40) {F0 : Nat} {kx : ShVal sh33_19 → Option R33} (F : Nat) (hF : 100 < F) :
    iter (fun s k => st33_19 g77 g62 g79 g78 F0 s k kx) F (((K : Int), ()), ((p, (n0, (L, ()))), ((p, ()), ((out, ()), ((c, ()), ((mk (K + 1) (nowF p c k (d0 k)), ()), (((k : Int), ()), (((1 : Int), ()), ((L, ()), ((a32, ()), ((a33, ()), ((a46, ()), ((a47, ()), ()))))))))))))) =
      kx (((K : Int), ()), ((p, (n0, (L, ()))), ((p, ()), ((out, ()), ((c, ()), ((mk (K + 1) (nowF p c k (mi p c (mA p c) k (stepsM c k))), ()), (((k : Int), ()), ((((stepsM c k + 1 : Nat) : Int), ()), ((L, ()), ((a32, ()), ((a33, ()), ((a46, ()), ((a47, ()), ()))))))))))))) := by
  have hs : stepsM c k ≤ 3 := by unfold stepsM; have := hc.2.1; omega
  have hs2 : stepsM c k ≤ k := Nat.min_le_right _ _
  refine iter_run (stepsM c k) F (fun j => (((K : Int), ()), ((p, (n0, (L, ()))), ((p, ()), ((out, ()), ((c, ()), ((mk (K + 1) (nowF p c k (mi p c (mA p c) k j)), ()), (((k : Int), ()), ((((j + 1 : Nat) : Int), ()), ((L, ()), ((a32, ()), ((a33, ()), ((a46, ()), ((a47, ()), ())))))))))))))) (by omega) (fun j hj kk => ?_) (fun kk => ?_)
  · have h1 : j + 1 < c.length := by unfold stepsM at hj; omega
    have hl := hc.2.1
    have hm : (mk (K + 1) (nowF p c k (mi p c (mA p c) k j))).length = K + 1 := mk_len
    simp only [st33_19]
    simp (disch := omega) only [dln_t, cond_true, ofn, dlt_t, dle_t, ib_t, tn_cast, w6_id, hm]
    rw [show tn ((k : Int) - ((j + 1 : Nat) : Int)) = k - (j + 1) by show ((k : Int) - ((j + 1 : Nat) : Int)).toNat = _; omega, mk_get (by omega), mk_get (by omega)]
    have e1 : c.getD (j + 1) 0 = el c (j + 1) := rfl
    have e2 : nowF p c k (mi p c (mA p c) k j) k = mi p c (mA p c) k j := by unfold nowF; rw [if_neg (by omega), if_pos rfl]
    have e3 : nowF p c k (mi p c (mA p c) k j) (k - (j + 1)) = mA p c (k - (j + 1)) := by unfold nowF; rw [if_pos (by omega)]
    rw [e1, e2, e3]
    have r1 := hc.2.2 (j + 1)
    have r2 := mA_rng (p := p) hp.1 (c := c) (k := k - (j + 1))
    have r3 := mi_rng hp hc (A := mA p c) (fun i => mA_rng hp.1) (k := k) (j := j)
    have r4 := mul_rng (a := p - el c (j + 1)) (b := mA p c (k - (j + 1))) (c := 14) (d := 13) (by omega) (by omega) (by omega) (by omega)
    rw [w6_id (x := p - el c (j + 1)) (by omega) (by omega), w6_id (x := (p - el c (j + 1)) * mA p c (k - (j + 1))) (by omega) (by omega), w6_id (by omega) (by omega), mk_set (by omega)]
    rw [show (fun i => if k = i then mi p c (mA p c) k j + (p - el c (j + 1)) * mA p c (k - (j + 1)) else nowF p c k (mi p c (mA p c) k j) i) = nowF p c k (mi p c (mA p c) k (j + 1)) from ?_]
    · rfl
    · funext i
      unfold nowF
      by_cases q : k = i
      · subst q; rw [if_pos rfl, if_neg (by omega), if_pos rfl]; rfl
      · rw [if_neg q]
        by_cases q2 : i < k
        · rw [if_pos q2, if_pos q2]
        · rw [if_neg q2, if_neg q2, if_neg (fun h => q h.symm), if_neg (fun h => q h.symm)]
  · have hl := hc.2.1
    have hl1 := hc.1
    simp only [st33_19]
    rw [dln_t (by omega), cond_true, ofn]
    by_cases q : ((stepsM c k + 1 : Nat) : Int) < (c.length : Int)
    · have q2 : stepsM c k = k := by unfold stepsM at q ⊢; omega
      rw [dlt_t q, cond_true, cond_true, dle_f (by omega)]; rfl
    · rw [dlt_f (by omega)]; rfl
def upI (f A : Nat → Int) (k : Nat) : Nat → Int := fun i => if i < k then f i + A i else f i
theorem mid33 {p n0 a32 a33 : Int} {K : Nat} {L : List Mat} {c : List Int} {f : Nat → Int} {g77 : G77} {g62 : G62} {g79 : G79} {g78 : G78} (hp : 2 ≤ p ∧ p ≤ 13) (hc : okC p c) (hK : K ≤ 40) (hf : ∀ i, 0 ≤ f i ∧ f i ≤ 1000000) {F0 : Nat} (hF0 : 100 < F0) {kx : ShVal sh33_14 → Option R33} (F : Nat) (hF : 100 < F) :
    iter (fun s k => st33_14 g77 g62 g79 g78 F0 s k kx) F (((K : Int), ()), ((p, (n0, (L, ()))), ((p, ()), ((mk (K + 1) f, ()), ((c, ()), ((List.replicate (K + 1) (0 : Int), ()), ((L, ()), ((a32, ()), ((a33, ()), ((((K + 1 : Nat) : Int), ()), ((((0 : Nat) : Int), ()), ()))))))))))) =
      kx (((K : Int), ()), ((p, (n0, (L, ()))), ((p, ()), ((mk (K + 1) (fun i => f i + mA p c i), ()), ((c, ()), ((mk (K + 1) (nowF p c (K + 1) 0), ()), ((L, ()), ((a32, ()), ((a33, ()), ((((K + 1 : Nat) : Int), ()), ((((K + 1 : Nat) : Int), ()), ()))))))))))) := by
  have e0 : mk (K + 1) f = mk (K + 1) (upI f (mA p c) 0) := mk_congr fun i hi => by unfold upI; rw [if_neg (by omega)]
  have e1 : List.replicate (K + 1) (0 : Int) = mk (K + 1) (nowF p c 0 0) := by rw [mk_rep]; exact mk_congr fun i hi => by unfold nowF; rw [if_neg (by omega)]; split <;> rfl
  rw [e0, e1]
  refine (iter_run (step := fun s k => st33_14 g77 g62 g79 g78 F0 s k kx) (K + 1) F (fun k => (((K : Int), ()), ((p, (n0, (L, ()))), ((p, ()), ((mk (K + 1) (upI f (mA p c) k), ()), ((c, ()), ((mk (K + 1) (nowF p c k 0), ()), ((L, ()), ((a32, ()), ((a33, ()), ((((K + 1 : Nat) : Int), ()), (((k : Int), ()), ())))))))))))) (by omega) (fun k hk kk => ?_) (fun kk => ?_)).trans rfl
  · have hmo : (mk (K + 1) (upI f (mA p c) k)).length = K + 1 := mk_len
    have hmn : ∀ x, (mk (K + 1) (nowF p c k x)).length = K + 1 := fun x => mk_len
    have hin := in33 (p := p) (n0 := n0) (a32 := a32) (a33 := a33) (a46 := ((K + 1 : Nat) : Int)) (a47 := (k : Int)) (K := K) (L := L) (out := mk (K + 1) (upI f (mA p c) k)) (c := c) (k := k) (g77 := g77) (g62 := g62) (g79 := g79) (g78 := g78) hp hc (by omega) hK (F0 := F0) (F := F0) (hF := hF0)
      (kx := fun s' => match s' with | ((t1, _), (t2_0, t2_1, t2_2, _), (t7, _), (t8, _), (t11, _), (t12, _), (t13, _), (t14, _), (t31, _), (t32, _), (t33, _), (t46, _), (t47, _), _) => (bif ib t13 (Int.ofNat (List.length t12)) then (bif (!decide (t7 = (0 : Int))) then (bif ib t13 (Int.ofNat (List.length t12)) then (bif ib t13 (Int.ofNat (List.length t8)) then (bif ib t13 (Int.ofNat (List.length (List.set t12 (tn t13) (Int.tmod (List.getD t12 (tn t13) (0 : Int)) t7)))) then (bif ib t13 (Int.ofNat (List.length t8)) then kk ((t1, ()), ((t2_0, (t2_1, (t2_2, ()))), ((t7, ()), (((List.set t8 (tn t13) (w6 ((List.getD t8 (tn t13) (0 : Int)) + (List.getD (List.set t12 (tn t13) (Int.tmod (List.getD t12 (tn t13) (0 : Int)) t7)) (tn t13) (0 : Int))))), ()), ((t11, ()), (((List.set t12 (tn t13) (Int.tmod (List.getD t12 (tn t13) (0 : Int)) t7)), ()), ((t31, ()), ((t32, ()), ((t33, ()), ((t46, ()), (((w6 (t47 + (1 : Int))), ()), ()))))))))))) else none) else none) else none) else none) else none) else none))
    have a1 := mA_rng (p := p) hp.1 (c := c) (k := k)
    have f1 := hf k
    have r3 := mi_rng hp hc (A := mA p c) (fun i => mA_rng hp.1) (k := k) (j := stepsM c k)
    have hval : Int.tmod (mi p c (mA p c) k (stepsM c k)) p = mA p c k := by
      rw [tm_p r3.1, mi_mod hp.1, ← mA_eq, Int.emod_eq_of_lt a1.1 a1.2]
    have hset : mk (K + 1) (fun j => if k = j then mA p c k else nowF p c k (mi p c (mA p c) k (stepsM c k)) j) = mk (K + 1) (nowF p c (k + 1) 0) := mk_congr fun j hj => by
      unfold nowF
      by_cases q : k = j
      · subst q; rw [if_pos rfl, if_pos (by omega)]
      · rw [if_neg q]
        by_cases q2 : j < k
        · rw [if_pos q2, if_pos (by omega)]
        · rw [if_neg q2, if_neg (fun h => q h.symm), if_neg (by omega)]; split <;> rfl
    have fin : (fun (s' : ShVal sh33_19) => match s' with | ((t1, _), (t2_0, t2_1, t2_2, _), (t7, _), (t8, _), (t11, _), (t12, _), (t13, _), (t14, _), (t31, _), (t32, _), (t33, _), (t46, _), (t47, _), _) => (bif ib t13 (Int.ofNat (List.length t12)) then (bif (!decide (t7 = (0 : Int))) then (bif ib t13 (Int.ofNat (List.length t12)) then (bif ib t13 (Int.ofNat (List.length t8)) then (bif ib t13 (Int.ofNat (List.length (List.set t12 (tn t13) (Int.tmod (List.getD t12 (tn t13) (0 : Int)) t7)))) then (bif ib t13 (Int.ofNat (List.length t8)) then kk ((t1, ()), ((t2_0, (t2_1, (t2_2, ()))), ((t7, ()), (((List.set t8 (tn t13) (w6 ((List.getD t8 (tn t13) (0 : Int)) + (List.getD (List.set t12 (tn t13) (Int.tmod (List.getD t12 (tn t13) (0 : Int)) t7)) (tn t13) (0 : Int))))), ()), ((t11, ()), (((List.set t12 (tn t13) (Int.tmod (List.getD t12 (tn t13) (0 : Int)) t7)), ()), ((t31, ()), ((t32, ()), ((t33, ()), ((t46, ()), (((w6 (t47 + (1 : Int))), ()), ()))))))))))) else none) else none) else none) else none) else none) else none)) (((K : Int), ()), ((p, (n0, (L, ()))), ((p, ()), ((mk (K + 1) (upI f (mA p c) k), ()), ((c, ()), ((mk (K + 1) (nowF p c k (mi p c (mA p c) k (stepsM c k))), ()), (((k : Int), ()), ((((stepsM c k + 1 : Nat) : Int), ()), ((L, ()), ((a32, ()), ((a33, ()), ((((K + 1 : Nat) : Int), ()), (((k : Int), ()), ()))))))))))))) =
        kk (((K : Int), ()), ((p, (n0, (L, ()))), ((p, ()), ((mk (K + 1) (upI f (mA p c) (k + 1)), ()), ((c, ()), ((mk (K + 1) (nowF p c (k + 1) 0), ()), ((L, ()), ((a32, ()), ((a33, ()), ((((K + 1 : Nat) : Int), ()), ((((k + 1 : Nat) : Int), ()), ()))))))))))) := by
      simp only [ofn, List.length_set, hmn, hmo]
      rw [ib_t (by omega) (by omega), cond_true, deq_f (show p ≠ 0 by omega), Bool.not_false]
      simp only [cond_true]
      rw [tn_cast, mk_get (f := nowF p c k (mi p c (mA p c) k (stepsM c k))) (by omega), show nowF p c k (mi p c (mA p c) k (stepsM c k)) k = mi p c (mA p c) k (stepsM c k) by unfold nowF; rw [if_neg (by omega), if_pos rfl], hval, mk_set (f := nowF p c k (mi p c (mA p c) k (stepsM c k))) (by omega), hset, mk_get (f := upI f (mA p c) k) (by omega), mk_get (f := nowF p c (k + 1) 0) (by omega),
        show upI f (mA p c) k k = f k from if_neg (by omega), show nowF p c (k + 1) 0 k = mA p c k from if_pos (by omega), w6_id (by omega) (by omega), mk_set (f := upI f (mA p c) k) (by omega), w6_id (by omega) (by omega)]
      rw [show (fun j => if k = j then f k + mA p c k else upI f (mA p c) k j) = upI f (mA p c) (k + 1) from ?_]
      · rfl
      · funext j
        unfold upI
        by_cases q : k = j
        · subst q; rw [if_pos rfl, if_pos (by omega)]
        · rw [if_neg q]
          by_cases q2 : j < k
          · rw [if_pos q2, if_pos (by omega)]
          · rw [if_neg q2, if_neg (by omega)]
    refine Eq.trans ?_ (hin.trans fin)
    simp only [st33_14, ru33_19]
    rw [dlt_t (by omega), cond_true]
    have hst : mk (K + 1) (nowF p c k (d0 k)) = if k = 0 then (mk (K + 1) (nowF p c k 0)).set 0 1 else mk (K + 1) (nowF p c k 0) := by
      by_cases h0 : k = 0
      · subst h0
        rw [if_pos rfl, mk_set (by omega)]
        exact mk_congr fun i hi => by
          by_cases q : i = 0
          · subst q; simp [nowF, d0]
          · have q' : ¬ 0 = i := fun h => q h.symm
            simp [nowF, q, q']
      · rw [if_neg h0, show d0 k = 0 from if_neg h0]
    rw [hst]
    by_cases h0 : k = 0
    · subst h0
      simp only [ofn, hmn, if_true]
      rw [ib_t (by omega) (by omega)]
      rfl
    · rw [deq_f (by omega), cond_false, if_neg h0]
  · simp only [st33_14]
    rw [dlt_f (by omega), cond_false]
    have : mk (K + 1) (upI f (mA p c) (K + 1)) = mk (K + 1) (fun i => f i + mA p c i) := mk_congr fun i hi => if_pos hi
    rw [this]
def Tm (p n : Int) (L : List Mat) : Nat → Nat → Int
  | 0, _ => 0
  | g + 1, i => Tm p n L g i + mA p (charL p n (atM L g)) i
theorem Tm_rng {p n : Int} (hp : 2 ≤ p ∧ p ≤ 13) {L : List Mat} : ∀ {g i : Nat}, 0 ≤ Tm p n L g i ∧ Tm p n L g i ≤ 13 * (g : Int)
  | 0, i => by simp only [Tm]; omega
  | g + 1, i => by
    have ih := Tm_rng (n := n) hp (L := L) (g := g) (i := i)
    have a := mA_rng (p := p) hp.1 (c := charL p n (atM L g)) (k := i)
    simp only [Tm]; push_cast; omega
theorem Tm_mod {p n : Int} (hp : 2 ≤ p) {L : List Mat} : ∀ {g i : Nat}, Tm p n L g i % p = Sm p n L g i
  | 0, i => by simp [Tm, Sm]
  | g + 1, i => by
    simp only [Tm, Sm]
    rw [Int.add_emod, Tm_mod hp, ← Int.add_emod_right, ← Int.add_emod_right]
    rw [Int.add_emod_right, Int.add_emod_right, Int.add_emod_emod]
theorem out33 {p n : Int} {K : Nat} {L : List Mat} {g77 : G77} {g79 : G79} {g78 : G78} (hp : 2 ≤ p ∧ p ≤ 13) (hn : n = 1 ∨ n = 2 ∨ n = 3) (ho : L.all okM = true) (hl : L.length ≤ 48) (hK : K ≤ 40) {F0 : Nat} (hF0 : 100 < F0) {kx : ShVal sh33_9 → Option R33} (F : Nat) (hF : 100 < F) :
    iter (fun s k => st33_9 g77 cf62 g79 g78 F0 s k kx) F (((K : Int), ()), ((p, (n, (L, ()))), ((p, ()), ((List.replicate (K + 1) (0 : Int), ()), ((L, ()), (((L.length : Int), ()), ((((0 : Nat) : Int), ()), ()))))))) =
      kx (((K : Int), ()), ((p, (n, (L, ()))), ((p, ()), ((mk (K + 1) (Tm p n L L.length), ()), ((L, ()), (((L.length : Int), ()), (((L.length : Int), ()), ()))))))) := by
  have e0 : List.replicate (K + 1) (0 : Int) = mk (K + 1) (Tm p n L 0) := mk_rep
  rw [e0]
  refine (iter_run (step := fun s k => st33_9 g77 cf62 g79 g78 F0 s k kx) L.length F (fun g => (((K : Int), ()), ((p, (n, (L, ()))), ((p, ()), ((mk (K + 1) (Tm p n L g), ()), ((L, ()), (((L.length : Int), ()), (((g : Int), ()), ())))))))) (by omega) (fun g hg kk => ?_) (fun kk => ?_)).trans rfl
  · simp only [st33_9, ru33_14]
    simp (disch := omega) only [cond_true, ofn, dlt_t, ib_t, tn_cast, w6_id]
    have e62 : cf62 (p, n, L.getD g (Ty.dflt mat), ()) = some (charL p n (atM L g), ()) := g62_ok (okM_at ho hg) hp hn
    rw [e62]
    simp only
    rw [show tn ((K : Int) + 1) = K + 1 by show ((K : Int) + 1).toNat = _; omega]
    simp only [List.length_replicate]
    simp (disch := omega) only [dle_t, dln_t, decide_true, Bool.and_self, cond_true]
    have hT := fun i => Tm_rng (n := n) hp (L := L) (g := g) (i := i)
    have := mid33 (n0 := n) (a32 := (L.length : Int)) (a33 := (g : Int)) (K := K) (L := L) (f := Tm p n L g) (g77 := g77) (g62 := cf62) (g79 := g79) (g78 := g78) hp (charL_ok (n := n) (g := atM L g) hp) hK (fun i => ⟨(hT i).1, by have := hT i; omega⟩) hF0 (F := F0) (hF := hF0)
      (kx := fun s' => match s' with | ((t1, _), (t2_0, t2_1, t2_2, _), (t7, _), (t8, _), (t11, _), (t12, _), (t31, _), (t32, _), (t33, _), (t46, _), (t47, _), _) => kk ((t1, ()), ((t2_0, (t2_1, (t2_2, ()))), ((t7, ()), ((t8, ()), ((t31, ()), ((t32, ()), (((w6 (t33 + (1 : Int))), ()), ()))))))))
    refine Eq.trans this ?_
    simp (disch := omega) only [w6_id]
    rfl
  · simp only [st33_9]
    simp (disch := omega) only [ofn, dlt_f, cond_false]
theorem fin33 {p v : Int} {K : Nat} {f : Nat → Int} {g77 : G77} {g62 : G62} {g79 : G79} {g78 : G78} (hp : 2 ≤ p ∧ p ≤ 13) (hv : 0 ≤ v ∧ v < p) (hK : K ≤ 40) (hf : ∀ i, 0 ≤ f i) {F0 : Nat} {kx : ShVal sh33_28 → Option R33} (F : Nat) (hF : 100 < F) :
    iter (fun s k => st33_28 g77 g62 g79 g78 F0 s k kx) F ((p, ()), ((mk (K + 1) f, ()), ((v, ()), ((((K + 1 : Nat) : Int), ()), ((((0 : Nat) : Int), ()), ()))))) =
      kx ((p, ()), ((mk (K + 1) (fun i => f i % p * v % p), ()), ((v, ()), ((((K + 1 : Nat) : Int), ()), ((((K + 1 : Nat) : Int), ()), ()))))) := by
  have e0 : mk (K + 1) f = mk (K + 1) (fun i => if i < 0 then f i % p * v % p else f i) := mk_congr fun i hi => by rw [if_neg (by omega)]
  rw [e0]
  refine (iter_run (step := fun s k => st33_28 g77 g62 g79 g78 F0 s k kx) (K + 1) F (fun k => ((p, ()), ((mk (K + 1) (fun i => if i < k then f i % p * v % p else f i), ()), ((v, ()), ((((K + 1 : Nat) : Int), ()), (((k : Int), ()), ())))))) (by omega) (fun k hk kk => ?_) (fun kk => ?_)).trans rfl
  · have hmo : (mk (K + 1) (fun i => if i < k then f i % p * v % p else f i)).length = K + 1 := mk_len
    have f1 := md_rng (p := p) (x := f k) (by omega)
    have sq := sq_rng hp.2 f1.1 f1.2 hv.1 hv.2
    simp only [st33_28]
    simp (disch := omega) only [dlt_t, cond_true, ofn, ib_t, tn_cast, hmo, deq_f, Bool.not_false]
    rw [mk_get (by omega), if_neg (by omega), tm_p (hf k), w6_id (by omega) (by omega), tm_p (by omega), mk_set (by omega), w6_id (by omega) (by omega)]
    rw [show (fun j => if k = j then f k % p * v % p else if j < k then f j % p * v % p else f j) = (fun j => if j < k + 1 then f j % p * v % p else f j) from ?_]
    · rfl
    · funext j
      by_cases q : k = j
      · subst q; rw [if_pos rfl, if_pos (by omega)]
      · rw [if_neg q]
        by_cases q2 : j < k
        · rw [if_pos q2, if_pos (by omega)]
        · rw [if_neg q2, if_neg (by omega)]
  · simp only [st33_28]
    rw [dlt_f (by omega), cond_false]
    have : mk (K + 1) (fun i => if i < K + 1 then f i % p * v % p else f i) = mk (K + 1) (fun i => f i % p * v % p) := mk_congr fun i hi => if_pos hi
    rw [this]
def cf78 : G78 := fun x => if (els x.1).length ≤ 2000000 ∧ (0 : Int) < x.1.1 then some (decide ((((els x.1).length : Int) % x.1.1) = 0), ()) else none
theorem k78 : KOne Try.prog 78 ⟨[.v (.pair i64 (.pair i64 (.pair (.slice 27 mat) .unit)))], [.bool], false, false, 0, cf78⟩ := ok78 .nil cf78 fun x y h => by
  obtain ⟨⟨p, n, L, u⟩, _⟩ := x
  change List Mat at L
  change Int at p
  simp only [cf78] at h
  split at h
  · rename_i hc
    injection h with h; subst h
    obtain ⟨h1, h2⟩ := hc
    have h1 : L.length ≤ 2000000 := h1
    have h2 : 0 < p := h2
    refine ⟨0, ?_⟩
    simp only [fn78]
    simp (disch := omega) only [dln_t, cond_true, ofn, deq_f, Bool.not_false, tm_p]
    rfl
  · cases h
def dimC (g : Gr) (k most : Int) : Int := bif grB g then (bif decide (k < 0) then 2 else bif decide (most < k) then 2 else 0) else 1
noncomputable def cf77 : G77 := fun x => if (els x.1).all okM = true ∧ (els x.1).length ≤ 2000000 then some (dimC x.1 x.2.1 x.2.2.1, ()) else none
theorem k77 : KOne Try.prog 77 ⟨[.v (.pair i64 (.pair i64 (.pair (.slice 27 mat) .unit))), .v i64, .v i64], [i64], false, false, 0, cf77⟩ := ok77 _ (.cons k127 .nil) cf77 fun x y h => by
  obtain ⟨⟨p, n, L, u⟩, k, m, _⟩ := x
  simp only [cf77] at h
  split at h
  · rename_i hc
    injection h with h; subst h
    refine ⟨0, ?_⟩
    have e := g127_ok hc.1 hc.2
    simp only [fn77]
    change (match cf127 ((p, n, L, u), ()) with | some r6 => _ | none => none) = _
    rw [e]
    simp only [dimC]
    cases grB (p, n, L, u) with
    | false => rfl
    | true =>
      simp only [Bool.not_true, cond_false, cond_true]
      cases decide ((k : Int) < 0) with
      | true => rfl
      | false =>
        simp only [cond_false]
        cases decide ((m : Int) < k) <;> rfl
  · cases h
noncomputable def cf31 : G31 := fn31 cf72 cf73 cf59 cf74 cf75 200
theorem k31 : KOne Try.prog 31 ⟨[.v (.pair i64 (.pair i64 (.pair (.slice 27 mat) .unit))), .v i64], [.slice 2 i64, i64], true, false, 0, cf31⟩ := ok31 _ _ _ _ _ (.cons k72 (.cons k73 (.cons k59 (.cons k74 (.cons k75 .nil))))) cf31 fun x y h => ⟨200, h⟩
noncomputable def cf33 : G33 := fn33 cf77 cf62 cf79 cf78 200
theorem k33 : KOne Try.prog 33 ⟨[.v (.pair i64 (.pair i64 (.pair (.slice 27 mat) .unit))), .v i64], [.slice 2 i64, i64], true, false, 0, cf33⟩ := ok33 _ _ _ _ (.cons k77 (.cons k62 (.cons k79 (.cons k78 .nil)))) cf33 fun x y h => ⟨200, h⟩
theorem bnd_tt {α : Type} {x : α} {y : α} : (bif (true && true) && true then x else y) = x := rfl
theorem same31 {g : Gr} {k : Int} (ho : (els g).all okM = true) (hl : (els g).length ≤ 2000000) : ∃ (R : List Int) (c : Int), R.length ≤ 48 ∧ cf31 (g, k, ()) = some (R, c, ()) ∧ cf33 (g, k, ()) = some (R, c, ()) := by
  have e1 := g72_ok ho hl
  have e2 : cf77 (g, k, (40 : Int), ()) = some (dimC g k 40, ()) := if_pos ⟨ho, hl⟩
  obtain ⟨p, n, L, u⟩ := g
  change List Mat at L
  change Int at p
  change Int at n
  simp only [cf31, cf33, fn31, fn33]
  have e1 : cf72 ((p, n, L, ()), ()) = some (grB (p, n, L, u), ()) := e1
  have e2 : cf77 ((p, n, L, ()), k, (40 : Int), ()) = some (dimC (p, n, L, u) k 40, ()) := e2
  rw [e1, e2]
  cases h : grB (p, n, L, u) with
  | false => exact ⟨[], 1, by simp, rfl, by simp only [dimC, h]; rfl⟩
  | true =>
    simp only [dimC, h, cond_true, Bool.not_true, cond_false]
    rw [g73_ok k 0 40]
    simp only
    by_cases k1 : k < 0
    · rw [dlt_t k1, dle_f k1]; exact ⟨[], 2, by simp, rfl, rfl⟩
    · rw [dlt_f (show 0 ≤ k by omega), dle_t (show 0 ≤ k by omega), cond_false, Bool.true_and]
      by_cases k2 : 40 < k
      · rw [dlt_t k2, dle_f k2]; exact ⟨[], 2, by simp, rfl, rfl⟩
      · rw [dlt_f (show k ≤ 40 by omega), dle_t (show k ≤ 40 by omega), cond_false]
        obtain ⟨K, rfl⟩ : ∃ K : Nat, k = (K : Int) := ⟨k.toNat, by omega⟩
        have hK : K ≤ 40 := by omega
        have G := grB_is h
        have hP : isP p = true := G.hP
        have hp := isP_pos hP
        have hn := inR_cases (show inR n = true from G.hR)
        have ho : L.all okM = true := ho
        have hlen : 1 ≤ L.length ∧ L.length ≤ 48 := G.len
        have e78 : cf78 ((p, n, L, ()), ()) = some (decide (((L.length : Int) % p) = 0), ()) := if_pos ⟨hl, by show 0 < p; omega⟩
        rw [e78]
        simp only [Bool.not_true, cond_false, decide_true]
        simp (disch := omega) only [dln_t, cond_true, ofn, deq_f, Bool.not_false, tm_p]
        rw [show w6 ((K : Int) + 1) = (K : Int) + 1 from w6_id (by omega) (by omega)]
        by_cases hm : (L.length : Int) % p = 0
        · rw [deq_t hm]; exact ⟨[], 5, by simp, rfl, rfl⟩
        · rw [deq_f hm, cond_false, cond_false]
          have q1 : decide ((0 : Int) ≤ (K : Int) + 1) = true := decide_eq_true (by omega)
          have q2 : decide ((K : Int) + 1 ≤ 1099511627776) = true := decide_eq_true (by omega)
          rw [q1, q2]
          rw [bnd_tt]
          rw [show tn ((K : Int) + 1) = K + 1 by show ((K : Int) + 1).toNat = _; omega]
          simp only [ru31_9, ru33_9, ru31_26, ru33_28]
          have iv := inv_ok hP (x := (L.length : Int) % p) (by rw [Int.emod_emod_of_dvd _ (Int.dvd_refl p)]; exact hm)
          have mr := md_rng (p := p) (x := (L.length : Int)) (by omega)
          refine ⟨mk (K + 1) (fun i => Sm p n L L.length i * inv p ((L.length : Int) % p) % p), 0, by rw [mk_len]; omega, ?_, ?_⟩
          · refine (out31 (p := p) (n := n) (K := K) (L := L) hp hn ho hlen.2 hK (F0 := 200) (by omega) 200 (by omega)).trans ?_
            simp (disch := omega) only [dln_t, cond_true, ofn, deq_f, Bool.not_false, tm_p]
            rw [g75_ok ⟨hp, by omega, by omega⟩]
            refine Eq.trans (fin31 hp ⟨by omega, iv.1.2⟩ hK (fun i => Sm_rng hp.1) 200 (by omega)) ?_
            rfl
          · refine (out33 (p := p) (n := n) (K := K) (L := L) hp hn ho hlen.2 hK (F0 := 200) (by omega) 200 (by omega)).trans ?_
            simp (disch := omega) only [dln_t, cond_true, ofn, deq_f, Bool.not_false, tm_p]
            rw [g79_ok hp mr, mk_len]
            simp (disch := omega) only [dln_t, cond_true]
            refine Eq.trans (fin33 hp ⟨by omega, iv.1.2⟩ hK (fun i => (Tm_rng hp).1) 200 (by omega)) ?_
            show some (mk (K + 1) (fun i => Tm p n L L.length i % p * inv p ((L.length : Int) % p) % p), (0 : Int), ()) = _
            rw [mk_congr (f := fun i => Tm p n L L.length i % p * inv p ((L.length : Int) % p) % p) (g := fun i => Sm p n L L.length i * inv p ((L.length : Int) % p) % p) fun i hi => by rw [Tm_mod hp.1]]
abbrev R5 : Type := Ress [.bool]
abbrev G5 : Type := Args [.v (.pair i64 (.pair i64 (.pair (.slice 23 mat) .unit))), .v i64] → Option R5
abbrev kp5 : List (Nat × List Nat) := [(0, [2, 1]), (1, [5, 2, 1]), (2, [5, 2, 1]), (3, [20, 2, 1]), (4, [4]), (5, [7, 6, 1, 2]), (6, [8, 7, 6, 1, 2]), (7, [8, 10, 9, 7, 6, 1, 2]), (8, [44, 8, 10, 9, 7, 6, 1, 2]), (9, [4]), (10, [49, 2, 1, 6, 7, 9, 10, 8]), (11, [4]), (12, [8, 11, 10, 9, 7, 6, 1, 2]), (13, [11, 10, 9, 7, 6, 1, 2]), (14, [65, 9, 7, 6, 1, 2]), (15, [4]), (16, [12, 2, 1, 6, 7, 9]), (17, [2, 1, 6, 7, 12, 9]), (18, [13, 2, 1, 6, 7, 12, 9]), (19, [2, 1, 6, 7, 12, 9, 13]), (20, [73, 2, 1, 6, 7, 12, 9, 13]), (21, [4]), (22, [76, 9, 12, 7, 6, 1, 2]), (23, [4]), (24, [14, 6, 15, 7, 12, 9]), (25, [92, 12, 9]), (26, [4]), (27, [9, 13, 12]), (28, [12, 13]), (29, [97, 12, 13]), (30, [4]), (31, [100]), (32, [4]), (33, [4])]
abbrev ct5 (g18 : G18) (g19 : G19) (g20 : G20) (g35 : G35) (g34 : G34) (g33 : G33) (g31 : G31) (g32 : G32) (g30 : G30) : CTab := [(18, ⟨[.v (.slice 2 i64), .v (.slice 2 i64)], [.bool], false, false, 0, g18⟩), (19, ⟨[.v (.slice 2 i64), .v i64], [(.slice 2 i64), i64], false, false, 1, g19⟩), (20, ⟨[.v (.slice 2 i64), .v i64], [i64], false, false, 0, g20⟩), (35, ⟨[.v (.pair i64 (.pair i64 (.pair (.slice 27 mat) .unit))), .v i64], [(.pair i64 (.pair i64 (.pair (.slice 27 mat) .unit))), i64], false, false, 1, g35⟩), (34, ⟨[.v (.pair i64 (.pair i64 (.pair (.slice 27 mat) .unit))), .v (.pair i64 (.pair i64 (.pair (.slice 27 mat) .unit)))], [.bool], false, false, 0, g34⟩), (33, ⟨[.v (.pair i64 (.pair i64 (.pair (.slice 27 mat) .unit))), .v i64], [(.slice 2 i64), i64], true, false, 0, g33⟩), (31, ⟨[.v (.pair i64 (.pair i64 (.pair (.slice 27 mat) .unit))), .v i64], [(.slice 2 i64), i64], true, false, 0, g31⟩), (32, ⟨[.v (.pair i64 (.pair i64 (.pair (.slice 23 mat) .unit)))], [(.pair i64 (.pair i64 (.pair (.slice 27 mat) .unit)))], true, false, 0, g32⟩), (30, ⟨[.v (.pair i64 (.pair i64 (.pair (.slice 23 mat) .unit))), .v i64], [i64], false, false, 0, g30⟩)]
def fn5 (g18 : G18) (g19 : G19) (g20 : G20) (g35 : G35) (g34 : G34) (g33 : G33) (g31 : G31) (g32 : G32) (g30 : G30) (F : Nat) (x : Args [.v (.pair i64 (.pair i64 (.pair (.slice 23 mat) .unit))), .v i64]) : Option R5 :=
  match x with
  | (x0, x1, _) => (match (g30 ((x0.1, (x0.2.1, (x0.2.2.1, ()))), ((1048576 : Int), ()))) with | some r14 => (bif decide (r14.1 < (0 : Int)) then (some (true, ())) else (match (g32 ((x0.1, (x0.2.1, (x0.2.2.1, ()))), ())) with | some r17 => (match (g31 ((r17.1.1, (r17.1.2.1, (r17.1.2.2.1, ()))), (x1, ()))) with | some r18 => (match (g32 ((x0.1, (x0.2.1, (x0.2.2.1, ()))), ())) with | some r20 => (match (g33 ((r20.1.1, (r20.1.2.1, (r20.1.2.2.1, ()))), (x1, ()))) with | some r22 => (match (g18 (r22.1, (r18.1, ()))) with | some r24 => (bif (!r24.1) then (some (false, ())) else (bif (bif false then true else (!decide (r22.2.1 = r18.2.1))) then (some (false, ())) else (match (g32 ((x0.1, (x0.2.1, (x0.2.2.1, ()))), ())) with | some r26 => (match (g34 ((r20.1.1, (r20.1.2.1, (r20.1.2.2.1, ()))), ((r26.1.1, (r26.1.2.1, (r26.1.2.2.1, ()))), ()))) with | some r27 => (bif (!r27.1) then (some (false, ())) else (match (g35 ((r20.1.1, (r20.1.2.1, (r20.1.2.2.1, ()))), ((1 : Int), ()))) with | some r30 => (bif decide (r30.2.1 < (0 : Int)) then (some (false, ())) else (match (g18 (r22.1, (r18.1, ()))) with | some r32 => (bif (bif false then true else (!r32.1)) then (some (false, ())) else (bif (bif false then true else (!decide (r22.2.1 = r18.2.1))) then (some (false, ())) else (match (g19 (r22.1, ((1 : Int), ()))) with | some r35 => (match (g20 ((bif ((Nat.beq 2 2) && true) then r35.1 else []), ((1 : Int), ()))) with | some r38 => (bif decide (r38.1 < (0 : Int)) then (some (false, ())) else (bif (!decide (r38.1 = r35.2.1)) then (some (false, ())) else (match (g32 ((x0.1, (x0.2.1, (x0.2.2.1, ()))), ())) with | some r42 => (match (g33 ((r42.1.1, (r42.1.2.1, (r42.1.2.2.1, ()))), (x1, ()))) with | some r43 => (match (g18 (r43.1, (r18.1, ()))) with | some r45 => (bif (!r45.1) then (some (false, ())) else (bif (bif false then true else (!decide (r43.2.1 = r18.2.1))) then (some (false, ())) else (match (g20 ((bif ((Nat.beq 2 2) && true) then r35.1 else []), ((1 : Int), ()))) with | some r48 => (bif decide (r48.1 < (0 : Int)) then (some (false, ())) else (bif (!decide (r48.1 = r35.2.1)) then (some (false, ())) else (some (true, ())))) | none => none))) | none => none) | none => none) | none => none))) | none => none) | none => none))) | none => none)) | none => none)) | none => none) | none => none))) | none => none) | none => none) | none => none) | none => none) | none => none)) | none => none)
theorem ev5 (g18 : G18) (g19 : G19) (g20 : G20) (g35 : G35) (g34 : G34) (g33 : G33) (g31 : G31) (g32 : G32) (g30 : G30) (F : Nat) (x : Args [.v (.pair i64 (.pair i64 (.pair (.slice 23 mat) .unit))), .v i64]) : fnK TT (ct5 g18 g19 g20 g35 g34 g33 g31 g32 g30 ) kp5 [.bool] [] (bodyOf Try.f5) [.tmp 4] [.v (.pair i64 (.pair i64 (.pair (.slice 23 mat) .unit))), .v i64] false false x = fn5 g18 g19 g20 g35 g34 g33 g31 g32 g30 F x := by
  obtain ⟨x0, x1, _⟩ := x
  kernel_rfl
theorem ok5 (g18 : G18) (g19 : G19) (g20 : G20) (g35 : G35) (g34 : G34) (g33 : G33) (g31 : G31) (g32 : G32) (g30 : G30) (hK : KOK Try.prog (ct5 g18 g19 g20 g35 g34 g33 g31 g32 g30 )) (cf : G5) (h : ∀ x y, cf x = some y → ∃ F, fn5 g18 g19 g20 g35 g34 g33 g31 g32 g30 F x = some y) : KOne Try.prog 5 ⟨[.v (.pair i64 (.pair i64 (.pair (.slice 23 mat) .unit))), .v i64], [.bool], false, false, 0, cf⟩ :=
  fn_one rfl (c := bodyOf Try.f5) mixed tt_ok hK Try.func5 (by kernel_rfl) (by kernel_rfl) (Nat.le_of_ble_eq_true (by kernel_rfl)) (by decide) fun x y hxy => by
    obtain ⟨F, hF⟩ := h x y hxy
    exact ⟨[], LTOK_by (l := []) (by kernel_rfl) trivial, (ev5 g18 g19 g20 g35 g34 g33 g31 g32 g30 F x).trans hF⟩
theorem law5_one : KOne Try.prog 5 ⟨[.v (.pair i64 (.pair i64 (.pair (.slice 23 mat) .unit))), .v i64], [.bool], false, false, 0, fun x => bif okA [.v (.pair i64 (.pair i64 (.pair (.slice 23 mat) .unit))), .v i64] x then some (true, ()) else none⟩ :=
  ok5 _ _ _ _ _ _ _ _ _ (.cons k18 (.cons k19 (.cons k20 (.cons k35 (.cons k34 (.cons k33 (.cons k31 (.cons k32 (.cons k30 .nil))))))))) _ fun x y h => by
    obtain ⟨g, k, _⟩ := x
    change Gr at g
    cases hx : okA [.v (.pair i64 (.pair i64 (.pair (.slice 23 mat) .unit))), .v i64] (g, k, ()) with
    | false => simp only [hx, cond_false] at h; cases h
    | true =>
      simp only [hx, cond_true] at h
      injection h with h; subst h
      refine ⟨0, ?_⟩
      simp only [okA, Bool.and_true, Bool.and_eq_true] at hx
      obtain ⟨x1, x2⟩ := okG_of hx.1
      have c30 := g30_ok x1
      obtain ⟨p, n, L, u⟩ := g
      simp only [fn5]
      rw [c30]
      simp only
      by_cases hsz : sz30 (p, n, L, u) < 0
      · rw [dlt_t hsz, cond_true]
      · rw [dlt_f (by omega), cond_false]
        have hL := sz30_small (by omega : 0 ≤ sz30 (p, n, L, u))
        have hL2 : (els (p, n, L, u)).length ≤ 2000000 := by omega
        obtain ⟨R, c, hl, e1, e2⟩ := same31 (k := k) x2 hL2
        have c32 := g32_ok hL2
        have c34 := g34_ok hL2
        have c35 := g35_ok (k := 1) hL2
        have c18 : cf18 (R, R, ()) = some (true, ()) := by
          have : cf18 (R, R, ()) = some (decide (R = R), ()) := if_pos ⟨by simp only [B]; omega, by simp only [B]; omega⟩
          rw [this, decide_eq_true rfl]
        have c19 : cf19 (R, (1 : Int), ()) = some (marks 1 R.length, 1 + (R.length : Int), ()) := g19_ok (by omega) (by omega)
        have c20 : cf20 (marks 1 R.length, (1 : Int), ()) = some (1 + (R.length : Int), ()) := g20_ok (by omega) (by omega)
        have n2 : (bif ((Nat.beq 2 2) && true) then marks 1 R.length else []) = marks 1 R.length := rfl
        simp (disch := omega) only [c32, e1, e2, c34, c35, c18, c19, n2, c20, Bool.not_true, cond_false, cond_true, deq_t, decide_true, dlt_f]
end Go.Proofs.YtkoifikjfnbcpaaEv
