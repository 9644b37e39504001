/- What functions of the program come to, printed by a program of this work: loops by their steps, calls by what is known of them; each text is checked by the kernel. No condition. -/
import Derived.Test.YtkoifikjfnbcpaaEvFa
set_option linter.unusedVariables false
namespace Go.Proofs.YtkoifikjfnbcpaaEv
open Go Go.RowKit
/-! laws.toByteA3 -/
abbrev R60 : Type := Ress [ex]
abbrev G60 : Type := Args [.v ex] → Option R60
abbrev kp60 : List (Nat × List Nat) := [(0, [1, 2]), (1, [3, 1, 2]), (2, [4, 3, 1, 2]), (3, [6, 4, 3, 1, 2]), (5, [4, 3, 1, 2]), (4, [4, 3, 1, 2]), (6, [2])]
abbrev ct60 : CTab := []
abbrev kr60 : Env → Option R60 := endK TT [.cell 2 22] [ex] false false
abbrev sh60_3 : Shape := [(1, bb ex), (2, bb ex), (3, bb ex), (4, vv i64)]
def st60_3 (F : Nat) (s : ShVal sh60_3) (k kx : ShVal sh60_3 → Option R60) : Option R60 :=
  match s with
  | ((t1, _), (t2, _), (t3, _), (t4, _), _) => (bif decide (t4 < (3 : Int)) then (bif ib t4 (Int.ofNat 3) then (bif ib t4 (Int.ofNat 3) then k ((t1, ()), ((t2, ()), (((tset (tget (0 : Int) 3 t1 (tn t4)) 3 t3 (tn t4)), ()), (((w6 (t4 + (1 : Int))), ()), ())))) else none) else none) else kx ((t1, ()), ((t2, ()), ((t3, ()), ((t4, ()), ())))))
def ru60_3 (F : Nat) (s : ShVal sh60_3) (kx : ShVal sh60_3 → Option R60) : Option R60 := iter (fun s k => st60_3 F s k kx) F s
abbrev ls60_3 (F : Nat) : LS R60 := ⟨sh60_3, 0, ru60_3 F⟩
def fn60 (F : Nat) (x : Args [.v ex]) : Option R60 :=
  match x with
  | (x0, _) => (ru60_3 F ((x0, ()), (((Ty.dflt (.arr 3 (.int .u8))), ()), (((Ty.dflt (.arr 3 (.int .u8))), ()), (((0 : Int), ()), ())))) (fun s' => match s' with | ((t1, _), (t2, _), (t3, _), (t4, _), _) => (some (t3, ()))))
theorem ev60_3 (F : Nat) (s : ShVal sh60_3) (k kx : ShVal sh60_3 → Option R60) : evL TT (ct60 ) kp60 [] (loopOf Try.f60 3) (envOf sh60_3 s) (fitK sh60_3 k) (fun j e => bif Nat.beq j 0 then fitK sh60_3 kx e else none) kr60 = st60_3 F s k kx := by
  obtain ⟨⟨t1, _⟩, ⟨t2, _⟩, ⟨t3, _⟩, ⟨t4, _⟩, _⟩ := s
  kernel_rfl
theorem ok60_3 (F : Nat) (hK : KOK Try.prog (ct60 )) : LSOK Try.prog ⟨15, false, undef⟩ (ls60_3 F) (loopOf Try.f60 3) kr60 :=
  loop_ok (st60_3 F) mixed tt_ok hK (by kernel_rfl) (LTOK_by (l := []) (by kernel_rfl) trivial) (ev60_3 F)
theorem ev60 (F : Nat) (x : Args [.v ex]) : fnK TT (ct60 ) kp60 [ex] [(3, ls60_3 F)] (bodyOf Try.f60) [.cell 2 22] [.v ex] false false x = fn60 F x := by
  obtain ⟨x0, _⟩ := x
  kernel_rfl
theorem ok60 (hK : KOK Try.prog (ct60 )) (cf : G60) (h : ∀ x y, cf x = some y → ∃ F, fn60 F x = some y) : KOne Try.prog 60 ⟨[.v ex], [ex], false, false, 0, cf⟩ :=
  fn_one rfl (c := bodyOf Try.f60) mixed tt_ok hK Try.func60 (by kernel_rfl) (by kernel_rfl) (Nat.le_of_ble_eq_true (by kernel_rfl)) (by decide) fun x y hxy => by
    obtain ⟨F, hF⟩ := h x y hxy
    exact ⟨[(3, ls60_3 F)], LTOK_by (l := [loopOf Try.f60 3]) (by kernel_rfl) ⟨ls_at (by kernel_rfl) (ok60_3 F hK), trivial⟩, (ev60 F x).trans hF⟩
/-! laws.toMatrix -/
abbrev R16 : Type := Ress [mat]
abbrev G16 : Type := Args [.v mat] → Option R16
abbrev kp16 : List (Nat × List Nat) := [(0, [1, 2]), (1, [3, 1, 2]), (2, [4, 3, 1, 2]), (3, [6, 4, 3, 1, 2]), (5, [4, 3, 1, 2]), (4, [4, 3, 1, 2]), (6, [2])]
abbrev ct16 (g60 : G60) : CTab := [(60, ⟨[.v ex], [ex], false, false, 0, g60⟩)]
abbrev kr16 : Env → Option R16 := endK TT [.cell 2 27] [mat] false false
abbrev sh16_3 : Shape := [(1, bb mat), (2, bb mat), (3, bb mat), (4, vv i64)]
def st16_3 (g60 : G60) (F : Nat) (s : ShVal sh16_3) (k kx : ShVal sh16_3 → Option R16) : Option R16 :=
  match s with
  | ((t1, _), (t2, _), (t3, _), (t4, _), _) => (bif decide (t4 < (3 : Int)) then (bif ib t4 (Int.ofNat 3) then (match (g60 ((tget (Ty.dflt (.arr 3 (.int .u8))) 3 t1 (tn t4)), ())) with | some r11 => (bif ib t4 (Int.ofNat 3) then k ((t1, ()), ((t2, ()), (((tset r11.1 3 t3 (tn t4)), ()), (((w6 (t4 + (1 : Int))), ()), ())))) else none) | none => none) else none) else kx ((t1, ()), ((t2, ()), ((t3, ()), ((t4, ()), ())))))
def ru16_3 (g60 : G60) (F : Nat) (s : ShVal sh16_3) (kx : ShVal sh16_3 → Option R16) : Option R16 := iter (fun s k => st16_3 g60 F s k kx) F s
abbrev ls16_3 (g60 : G60) (F : Nat) : LS R16 := ⟨sh16_3, 0, ru16_3 g60 F⟩
def fn16 (g60 : G60) (F : Nat) (x : Args [.v mat]) : Option R16 :=
  match x with
  | (x0, _) => (ru16_3 g60 F ((x0, ()), (((Ty.dflt (.arr 3 (.arr 3 (.int .u8)))), ()), (((Ty.dflt (.arr 3 (.arr 3 (.int .u8)))), ()), (((0 : Int), ()), ())))) (fun s' => match s' with | ((t1, _), (t2, _), (t3, _), (t4, _), _) => (some (t3, ()))))
theorem ev16_3 (g60 : G60) (F : Nat) (s : ShVal sh16_3) (k kx : ShVal sh16_3 → Option R16) : evL TT (ct16 g60 ) kp16 [] (loopOf Try.f16 3) (envOf sh16_3 s) (fitK sh16_3 k) (fun j e => bif Nat.beq j 0 then fitK sh16_3 kx e else none) kr16 = st16_3 g60 F s k kx := by
  obtain ⟨⟨t1, _⟩, ⟨t2, _⟩, ⟨t3, _⟩, ⟨t4, _⟩, _⟩ := s
  kernel_rfl
theorem ok16_3 (g60 : G60) (F : Nat) (hK : KOK Try.prog (ct16 g60 )) : LSOK Try.prog ⟨16, false, undef⟩ (ls16_3 g60 F) (loopOf Try.f16 3) kr16 :=
  loop_ok (st16_3 g60 F) mixed tt_ok hK (by kernel_rfl) (LTOK_by (l := []) (by kernel_rfl) trivial) (ev16_3 g60 F)
theorem ev16 (g60 : G60) (F : Nat) (x : Args [.v mat]) : fnK TT (ct16 g60 ) kp16 [mat] [(3, ls16_3 g60 F)] (bodyOf Try.f16) [.cell 2 27] [.v mat] false false x = fn16 g60 F x := by
  obtain ⟨x0, _⟩ := x
  kernel_rfl
theorem ok16 (g60 : G60) (hK : KOK Try.prog (ct16 g60 )) (cf : G16) (h : ∀ x y, cf x = some y → ∃ F, fn16 g60 F x = some y) : KOne Try.prog 16 ⟨[.v mat], [mat], false, false, 0, cf⟩ :=
  fn_one rfl (c := bodyOf Try.f16) mixed tt_ok hK Try.func16 (by kernel_rfl) (by kernel_rfl) (Nat.le_of_ble_eq_true (by kernel_rfl)) (by decide) fun x y hxy => by
    obtain ⟨F, hF⟩ := h x y hxy
    exact ⟨[(3, ls16_3 g60 F)], LTOK_by (l := [loopOf Try.f16 3]) (by kernel_rfl) ⟨ls_at (by kernel_rfl) (ok16_3 g60 F hK), trivial⟩, (ev16 g60 F x).trans hF⟩
/-! spec.l02Inverse -/
abbrev R129 : Type := Ress [mat, .bool]
abbrev G129 : Type := Args [.v i64, .v i64, .v mat] → Option R129
abbrev kp129 : List (Nat × List Nat) := [(0, [1, 5, 0, 6]), (1, [8, 1, 5, 0, 6]), (2, [8, 1, 9, 5, 0, 6]), (3, [19, 5, 9, 8, 1, 0, 6]), (5, [5, 9, 10, 8, 1, 0, 6]), (6, [11, 5, 9, 10, 8, 1, 0, 6]), (7, [27, 11, 5, 9, 10, 8, 1, 0, 6]), (9, [11, 5, 9, 10, 8, 1, 0, 6]), (8, [11, 5, 9, 10, 8, 1, 0, 6]), (10, [8, 10, 9, 1, 5, 0, 6]), (11, [9, 8, 1, 5, 0, 6]), (4, [8, 1, 9, 5, 0, 6]), (12, [12, 1, 13, 6]), (13, [55, 12, 1, 13, 6]), (14, [7, 6]), (15, [6, 13, 1, 14, 12]), (16, [59, 12, 14, 1, 13, 6]), (18, [68, 12, 14, 1, 13, 6]), (19, [7, 6]), (20, [15, 13, 1, 14, 12, 6]), (21, [72, 15, 13, 1, 14, 12, 6]), (23, [15, 13, 1, 14, 12, 6]), (22, [15, 13, 1, 14, 12, 6]), (17, [6, 13, 1, 14, 12]), (24, [7, 6])]
abbrev ct129 (g108 : G108) (g153 : G153) : CTab := [(108, ⟨[.v i64, .v (.slice 24 (.slice 2 i64))], [(.slice 24 (.slice 2 i64))], false, false, 0, g108⟩), (153, ⟨[.v (.slice 2 i64)], [i64], false, false, 0, g153⟩)]
abbrev kr129 : Env → Option R129 := endK TT [.cell 6 27, .tmp 7] [mat, .bool] false false
abbrev sh129_7 : Shape := [(0, vv i64), (1, vv i64), (5, bb mat), (6, bb mat), (8, vr 24 (.slice 2 i64) 129 false), (9, vv i64), (10, vr 2 i64 161 false), (11, vv i64)]
def st129_7 (g108 : G108) (g153 : G153) (F : Nat) (s : ShVal sh129_7) (k kx : ShVal sh129_7 → Option R129) : Option R129 :=
  match s with
  | ((t0, _), (t1, _), (t5, _), (t6, _), (t8, _), (t9, _), (t10, _), (t11, _), _) => (bif decide (t11 < t1) then (bif ib t9 (Int.ofNat 3) then (bif ib t11 (Int.ofNat 3) then (bif ib t11 (Int.ofNat (List.length t10)) then k ((t0, ()), ((t1, ()), ((t5, ()), ((t6, ()), ((t8, ()), ((t9, ()), (((List.set t10 (tn t11) (w6 (tget (0 : Int) 3 (tget (Ty.dflt (.arr 3 (.int .u8))) 3 t5 (tn t9)) (tn t11)))), ()), (((w6 (t11 + (1 : Int))), ()), ())))))))) else none) else none) else none) else kx ((t0, ()), ((t1, ()), ((t5, ()), ((t6, ()), ((t8, ()), ((t9, ()), ((t10, ()), ((t11, ()), ())))))))))
def ru129_7 (g108 : G108) (g153 : G153) (F : Nat) (s : ShVal sh129_7) (kx : ShVal sh129_7 → Option R129) : Option R129 := iter (fun s k => st129_7 g108 g153 F s k kx) F s
abbrev ls129_7 (g108 : G108) (g153 : G153) (F : Nat) : LS R129 := ⟨sh129_7, 2, ru129_7 g108 g153 F⟩
abbrev sh129_3 : Shape := [(0, vv i64), (1, vv i64), (5, bb mat), (6, bb mat), (8, vr 24 (.slice 2 i64) 129 false), (9, vv i64)]
def st129_3 (g108 : G108) (g153 : G153) (F : Nat) (s : ShVal sh129_3) (k kx : ShVal sh129_3 → Option R129) : Option R129 :=
  match s with
  | ((t0, _), (t1, _), (t5, _), (t6, _), (t8, _), (t9, _), _) => (bif decide (t9 < t1) then (bif ((decide ((0 : Int) ≤ (w6 ((2 : Int) * t1))) && decide ((w6 ((2 : Int) * t1)) ≤ (1099511627776 : Int))) && decide ((w6 ((2 : Int) * t1)) = (w6 ((2 : Int) * t1)))) then (ru129_7 g108 g153 F ((t0, ()), ((t1, ()), ((t5, ()), ((t6, ()), ((t8, ()), ((t9, ()), (((List.replicate (tn (w6 ((2 : Int) * t1))) (0 : Int)), ()), (((0 : Int), ()), ())))))))) (fun s' => match s' with | ((t0, _), (t1, _), (t5, _), (t6, _), (t8, _), (t9, _), (t10, _), (t11, _), _) => (bif ib (w6 (t1 + t9)) (Int.ofNat (List.length t10)) then (bif (growOk (List.length t8) (List.length ((List.set t10 (tn (w6 (t1 + t9))) (1 : Int)) :: []))) then k ((t0, ()), ((t1, ()), ((t5, ()), ((t6, ()), (((t8 ++ ((List.set t10 (tn (w6 (t1 + t9))) (1 : Int)) :: [])), ()), (((w6 (t9 + (1 : Int))), ()), ())))))) else none) else none))) else none) else kx ((t0, ()), ((t1, ()), ((t5, ()), ((t6, ()), ((t8, ()), ((t9, ()), ())))))))
def ru129_3 (g108 : G108) (g153 : G153) (F : Nat) (s : ShVal sh129_3) (kx : ShVal sh129_3 → Option R129) : Option R129 := iter (fun s k => st129_3 g108 g153 F s k kx) F s
abbrev ls129_3 (g108 : G108) (g153 : G153) (F : Nat) : LS R129 := ⟨sh129_3, 0, ru129_3 g108 g153 F⟩
abbrev sh129_21 : Shape := [(1, vv i64), (6, bb mat), (12, vv (.slice 24 (.slice 2 i64))), (13, bb mat), (14, vv i64), (15, vv i64)]
def st129_21 (g108 : G108) (g153 : G153) (F : Nat) (s : ShVal sh129_21) (k kx : ShVal sh129_21 → Option R129) : Option R129 :=
  match s with
  | ((t1, _), (t6, _), (t12, _), (t13, _), (t14, _), (t15, _), _) => (bif decide (t15 < t1) then (bif ib t14 (Int.ofNat (List.length t12)) then (bif ib (w6 (t1 + t15)) (Int.ofNat (List.length (List.getD t12 (tn t14) []))) then (bif ib t14 (Int.ofNat 3) then (bif ib t15 (Int.ofNat 3) then k ((t1, ()), ((t6, ()), ((t12, ()), (((tset (tset (w8 (List.getD (List.getD t12 (tn t14) []) (tn (w6 (t1 + t15))) (0 : Int))) 3 (tget (Ty.dflt (.arr 3 (.int .u8))) 3 t13 (tn t14)) (tn t15)) 3 t13 (tn t14)), ()), ((t14, ()), (((w6 (t15 + (1 : Int))), ()), ())))))) else none) else none) else none) else none) else kx ((t1, ()), ((t6, ()), ((t12, ()), ((t13, ()), ((t14, ()), ((t15, ()), ())))))))
def ru129_21 (g108 : G108) (g153 : G153) (F : Nat) (s : ShVal sh129_21) (kx : ShVal sh129_21 → Option R129) : Option R129 := iter (fun s k => st129_21 g108 g153 F s k kx) F s
abbrev ls129_21 (g108 : G108) (g153 : G153) (F : Nat) : LS R129 := ⟨sh129_21, 6, ru129_21 g108 g153 F⟩
abbrev sh129_16 : Shape := [(1, vv i64), (6, bb mat), (12, vv (.slice 24 (.slice 2 i64))), (13, bb mat), (14, vv i64)]
def st129_16 (g108 : G108) (g153 : G153) (F : Nat) (s : ShVal sh129_16) (k kx : ShVal sh129_16 → Option R129) : Option R129 :=
  match s with
  | ((t1, _), (t6, _), (t12, _), (t13, _), (t14, _), _) => (bif decide (t14 < t1) then (bif ib t14 (Int.ofNat (List.length t12)) then (match (g153 ((List.getD t12 (tn t14) []), ())) with | some r25 => (bif (!decide (r25.1 = t14)) then (some (t13, (false, ()))) else (ru129_21 g108 g153 F ((t1, ()), ((t6, ()), ((t12, ()), ((t13, ()), ((t14, ()), (((0 : Int), ()), ())))))) (fun s' => match s' with | ((t1, _), (t6, _), (t12, _), (t13, _), (t14, _), (t15, _), _) => k ((t1, ()), ((t6, ()), ((t12, ()), ((t13, ()), (((w6 (t14 + (1 : Int))), ()), ())))))))) | none => none) else none) else kx ((t1, ()), ((t6, ()), ((t12, ()), ((t13, ()), ((t14, ()), ()))))))
def ru129_16 (g108 : G108) (g153 : G153) (F : Nat) (s : ShVal sh129_16) (kx : ShVal sh129_16 → Option R129) : Option R129 := iter (fun s k => st129_16 g108 g153 F s k kx) F s
abbrev ls129_16 (g108 : G108) (g153 : G153) (F : Nat) : LS R129 := ⟨sh129_16, 4, ru129_16 g108 g153 F⟩
def fn129 (g108 : G108) (g153 : G153) (F : Nat) (x : Args [.v i64, .v i64, .v mat]) : Option R129 :=
  match x with
  | (x0, x1, x2, _) => (ru129_3 g108 g153 F ((x0, ()), ((x1, ()), ((x2, ()), (((Ty.dflt (.arr 3 (.arr 3 (.int .u8)))), ()), (([], ()), (((0 : Int), ()), ())))))) (fun s' => match s' with | ((t0, _), (t1, _), (t5, _), (t6, _), (t8, _), (t9, _), _) => (match (g108 (t0, (t8, ()))) with | some r15 => (bif decide ((List.length r15.1) ≤ 9223372036854775807) then (bif (!decide ((Int.ofNat (List.length r15.1)) = t1)) then (some ((tup (Prod Int (Prod Int (Prod Int Unit))) (Ty.dflt (.arr 3 (.int .u8))) 3), (false, ()))) else (ru129_16 g108 g153 F ((t1, ()), ((t6, ()), ((r15.1, ()), (((tup (Prod Int (Prod Int (Prod Int Unit))) (Ty.dflt (.arr 3 (.int .u8))) 3), ()), (((0 : Int), ()), ()))))) (fun s' => match s' with | ((t1, _), (t6, _), (t12, _), (t13, _), (t14, _), _) => (some (t13, (true, ())))))) else none) | none => none)))
theorem ev129_7 (g108 : G108) (g153 : G153) (F : Nat) (s : ShVal sh129_7) (k kx : ShVal sh129_7 → Option R129) : evL TT (ct129 g108 g153 ) kp129 [] (loopOf Try.f129 7) (envOf sh129_7 s) (fitK sh129_7 k) (fun j e => bif Nat.beq j 2 then fitK sh129_7 kx e else none) kr129 = st129_7 g108 g153 F s k kx := by
  obtain ⟨⟨t0, _⟩, ⟨t1, _⟩, ⟨t5, _⟩, ⟨t6, _⟩, ⟨t8, _⟩, ⟨t9, _⟩, ⟨t10, _⟩, ⟨t11, _⟩, _⟩ := s
  kernel_rfl
theorem ok129_7 (g108 : G108) (g153 : G153) (F : Nat) (hK : KOK Try.prog (ct129 g108 g153 )) : LSOK Try.prog ⟨90, false, undef⟩ (ls129_7 g108 g153 F) (loopOf Try.f129 7) kr129 :=
  loop_ok (st129_7 g108 g153 F) mixed tt_ok hK (by kernel_rfl) (LTOK_by (l := []) (by kernel_rfl) trivial) (ev129_7 g108 g153 F)
theorem ev129_3 (g108 : G108) (g153 : G153) (F : Nat) (s : ShVal sh129_3) (k kx : ShVal sh129_3 → Option R129) : evL TT (ct129 g108 g153 ) kp129 [(7, ls129_7 g108 g153 F)] (loopOf Try.f129 3) (envOf sh129_3 s) (fitK sh129_3 k) (fun j e => bif Nat.beq j 0 then fitK sh129_3 kx e else none) kr129 = st129_3 g108 g153 F s k kx := by
  obtain ⟨⟨t0, _⟩, ⟨t1, _⟩, ⟨t5, _⟩, ⟨t6, _⟩, ⟨t8, _⟩, ⟨t9, _⟩, _⟩ := s
  kernel_rfl
theorem ok129_3 (g108 : G108) (g153 : G153) (F : Nat) (hK : KOK Try.prog (ct129 g108 g153 )) : LSOK Try.prog ⟨90, false, undef⟩ (ls129_3 g108 g153 F) (loopOf Try.f129 3) kr129 :=
  loop_ok (st129_3 g108 g153 F) mixed tt_ok hK (by kernel_rfl) (LTOK_by (l := [loopOf Try.f129 7]) (by kernel_rfl) ⟨ls_at (by kernel_rfl) (ok129_7 g108 g153 F hK), trivial⟩) (ev129_3 g108 g153 F)
theorem ev129_21 (g108 : G108) (g153 : G153) (F : Nat) (s : ShVal sh129_21) (k kx : ShVal sh129_21 → Option R129) : evL TT (ct129 g108 g153 ) kp129 [] (loopOf Try.f129 21) (envOf sh129_21 s) (fitK sh129_21 k) (fun j e => bif Nat.beq j 6 then fitK sh129_21 kx e else none) kr129 = st129_21 g108 g153 F s k kx := by
  obtain ⟨⟨t1, _⟩, ⟨t6, _⟩, ⟨t12, _⟩, ⟨t13, _⟩, ⟨t14, _⟩, ⟨t15, _⟩, _⟩ := s
  kernel_rfl
theorem ok129_21 (g108 : G108) (g153 : G153) (F : Nat) (hK : KOK Try.prog (ct129 g108 g153 )) : LSOK Try.prog ⟨90, false, undef⟩ (ls129_21 g108 g153 F) (loopOf Try.f129 21) kr129 :=
  loop_ok (st129_21 g108 g153 F) mixed tt_ok hK (by kernel_rfl) (LTOK_by (l := []) (by kernel_rfl) trivial) (ev129_21 g108 g153 F)
theorem ev129_16 (g108 : G108) (g153 : G153) (F : Nat) (s : ShVal sh129_16) (k kx : ShVal sh129_16 → Option R129) : evL TT (ct129 g108 g153 ) kp129 [(21, ls129_21 g108 g153 F)] (loopOf Try.f129 16) (envOf sh129_16 s) (fitK sh129_16 k) (fun j e => bif Nat.beq j 4 then fitK sh129_16 kx e else none) kr129 = st129_16 g108 g153 F s k kx := by
  obtain ⟨⟨t1, _⟩, ⟨t6, _⟩, ⟨t12, _⟩, ⟨t13, _⟩, ⟨t14, _⟩, _⟩ := s
  kernel_rfl
theorem ok129_16 (g108 : G108) (g153 : G153) (F : Nat) (hK : KOK Try.prog (ct129 g108 g153 )) : LSOK Try.prog ⟨90, false, undef⟩ (ls129_16 g108 g153 F) (loopOf Try.f129 16) kr129 :=
  loop_ok (st129_16 g108 g153 F) mixed tt_ok hK (by kernel_rfl) (LTOK_by (l := [loopOf Try.f129 21]) (by kernel_rfl) ⟨ls_at (by kernel_rfl) (ok129_21 g108 g153 F hK), trivial⟩) (ev129_16 g108 g153 F)
theorem ev129 (g108 : G108) (g153 : G153) (F : Nat) (x : Args [.v i64, .v i64, .v mat]) : fnK TT (ct129 g108 g153 ) kp129 [mat, .bool] [(3, ls129_3 g108 g153 F), (16, ls129_16 g108 g153 F)] (bodyOf Try.f129) [.cell 6 27, .tmp 7] [.v i64, .v i64, .v mat] false false x = fn129 g108 g153 F x := by
  obtain ⟨x0, x1, x2, _⟩ := x
  kernel_rfl
theorem ok129 (g108 : G108) (g153 : G153) (hK : KOK Try.prog (ct129 g108 g153 )) (cf : G129) (h : ∀ x y, cf x = some y → ∃ F, fn129 g108 g153 F x = some y) : KOne Try.prog 129 ⟨[.v i64, .v i64, .v mat], [mat, .bool], false, false, 0, cf⟩ :=
  fn_one rfl (c := bodyOf Try.f129) mixed tt_ok hK Try.func129 (by kernel_rfl) (by kernel_rfl) (Nat.le_of_ble_eq_true (by kernel_rfl)) (by decide) fun x y hxy => by
    obtain ⟨F, hF⟩ := h x y hxy
    exact ⟨[(3, ls129_3 g108 g153 F), (16, ls129_16 g108 g153 F)], LTOK_by (l := [loopOf Try.f129 3, loopOf Try.f129 16]) (by kernel_rfl) ⟨ls_at (by kernel_rfl) (ok129_3 g108 g153 F hK), ⟨ls_at (by kernel_rfl) (ok129_16 g108 g153 F hK), trivial⟩⟩, (ev129 g108 g153 F x).trans hF⟩
/-! spec.l02Matrix -/
abbrev R58 : Type := Ress [.bool]
abbrev G58 : Type := Args [.v i64, .v i64, .v mat] → Option R58
abbrev kp58 : List (Nat × List Nat) := [(0, [5, 1, 0]), (1, [18, 5, 1, 0]), (2, [6]), (3, [0, 1, 7, 5]), (4, [20, 5, 7, 1, 0]), (6, [8, 5, 7, 1, 0]), (7, [24, 0, 1, 7, 5, 8]), (9, [52, 0, 1, 7, 5, 8]), (10, [6]), (8, [8, 5, 7, 1, 0]), (5, [0, 1, 7, 5]), (11, [10]), (12, [6])]
abbrev ct58 (g82 : G82) (g73 : G73) (g129 : G129) : CTab := [(82, ⟨[.v i64], [.bool], false, false, 0, g82⟩), (73, ⟨[.v i64, .v i64, .v i64], [.bool], false, false, 0, g73⟩), (129, ⟨[.v i64, .v i64, .v mat], [mat, .bool], false, false, 0, g129⟩)]
abbrev kr58 : Env → Option R58 := endK TT [.tmp 6] [.bool] false false
abbrev sh58_7 : Shape := [(0, vv i64), (1, vv i64), (5, bb mat), (7, vv i64), (8, vv i64)]
def st58_7 (g82 : G82) (g73 : G73) (g129 : G129) (F : Nat) (s : ShVal sh58_7) (k kx : ShVal sh58_7 → Option R58) : Option R58 :=
  match s with
  | ((t0, _), (t1, _), (t5, _), (t7, _), (t8, _), _) => (bif decide (t8 < (3 : Int)) then (bif ib t7 (Int.ofNat 3) then (bif ib t8 (Int.ofNat 3) then (bif decide (t0 ≤ (w6 (tget (0 : Int) 3 (tget (Ty.dflt (.arr 3 (.int .u8))) 3 t5 (tn t7)) (tn t8)))) then (some (false, ())) else (bif decide (t1 ≤ t7) then (bif ib t7 (Int.ofNat 3) then (bif ib t8 (Int.ofNat 3) then (bif (bif false then true else (bif true then (!decide ((tget (0 : Int) 3 (tget (Ty.dflt (.arr 3 (.int .u8))) 3 t5 (tn t7)) (tn t8)) = (0 : Int))) else false)) then (some (false, ())) else k ((t0, ()), ((t1, ()), ((t5, ()), ((t7, ()), (((w6 (t8 + (1 : Int))), ()), ())))))) else none) else none) else (bif (bif false then true else decide (t1 ≤ t8)) then (bif ib t7 (Int.ofNat 3) then (bif ib t8 (Int.ofNat 3) then (bif (bif false then true else (bif true then (!decide ((tget (0 : Int) 3 (tget (Ty.dflt (.arr 3 (.int .u8))) 3 t5 (tn t7)) (tn t8)) = (0 : Int))) else false)) then (some (false, ())) else k ((t0, ()), ((t1, ()), ((t5, ()), ((t7, ()), (((w6 (t8 + (1 : Int))), ()), ())))))) else none) else none) else (bif (bif false then true else false) then (some (false, ())) else k ((t0, ()), ((t1, ()), ((t5, ()), ((t7, ()), (((w6 (t8 + (1 : Int))), ()), ()))))))))) else none) else none) else kx ((t0, ()), ((t1, ()), ((t5, ()), ((t7, ()), ((t8, ()), ()))))))
def ru58_7 (g82 : G82) (g73 : G73) (g129 : G129) (F : Nat) (s : ShVal sh58_7) (kx : ShVal sh58_7 → Option R58) : Option R58 := iter (fun s k => st58_7 g82 g73 g129 F s k kx) F s
abbrev ls58_7 (g82 : G82) (g73 : G73) (g129 : G129) (F : Nat) : LS R58 := ⟨sh58_7, 2, ru58_7 g82 g73 g129 F⟩
abbrev sh58_4 : Shape := [(0, vv i64), (1, vv i64), (5, bb mat), (7, vv i64)]
def st58_4 (g82 : G82) (g73 : G73) (g129 : G129) (F : Nat) (s : ShVal sh58_4) (k kx : ShVal sh58_4 → Option R58) : Option R58 :=
  match s with
  | ((t0, _), (t1, _), (t5, _), (t7, _), _) => (bif decide (t7 < (3 : Int)) then (ru58_7 g82 g73 g129 F ((t0, ()), ((t1, ()), ((t5, ()), ((t7, ()), (((0 : Int), ()), ()))))) (fun s' => match s' with | ((t0, _), (t1, _), (t5, _), (t7, _), (t8, _), _) => k ((t0, ()), ((t1, ()), ((t5, ()), (((w6 (t7 + (1 : Int))), ()), ())))))) else kx ((t0, ()), ((t1, ()), ((t5, ()), ((t7, ()), ())))))
def ru58_4 (g82 : G82) (g73 : G73) (g129 : G129) (F : Nat) (s : ShVal sh58_4) (kx : ShVal sh58_4 → Option R58) : Option R58 := iter (fun s k => st58_4 g82 g73 g129 F s k kx) F s
abbrev ls58_4 (g82 : G82) (g73 : G73) (g129 : G129) (F : Nat) : LS R58 := ⟨sh58_4, 0, ru58_4 g82 g73 g129 F⟩
def fn58 (g82 : G82) (g73 : G73) (g129 : G129) (F : Nat) (x : Args [.v i64, .v i64, .v mat]) : Option R58 :=
  match x with
  | (x0, x1, x2, _) => (match (g82 (x0, ())) with | some r8 => (bif (!r8.1) then (some (false, ())) else (match (g73 (x1, ((1 : Int), ((3 : Int), ())))) with | some r9 => (bif (bif false then true else (!r9.1)) then (some (false, ())) else (ru58_4 g82 g73 g129 F ((x0, ()), ((x1, ()), ((x2, ()), (((0 : Int), ()), ())))) (fun s' => match s' with | ((t0, _), (t1, _), (t5, _), (t7, _), _) => (match (g129 (t0, (t1, (t5, ())))) with | some r16 => (some (r16.2.1, ())) | none => none)))) | none => none)) | none => none)
theorem ev58_7 (g82 : G82) (g73 : G73) (g129 : G129) (F : Nat) (s : ShVal sh58_7) (k kx : ShVal sh58_7 → Option R58) : evL TT (ct58 g82 g73 g129 ) kp58 [] (loopOf Try.f58 7) (envOf sh58_7 s) (fitK sh58_7 k) (fun j e => bif Nat.beq j 2 then fitK sh58_7 kx e else none) kr58 = st58_7 g82 g73 g129 F s k kx := by
  obtain ⟨⟨t0, _⟩, ⟨t1, _⟩, ⟨t5, _⟩, ⟨t7, _⟩, ⟨t8, _⟩, _⟩ := s
  kernel_rfl
theorem ok58_7 (g82 : G82) (g73 : G73) (g129 : G129) (F : Nat) (hK : KOK Try.prog (ct58 g82 g73 g129 )) : LSOK Try.prog ⟨61, false, undef⟩ (ls58_7 g82 g73 g129 F) (loopOf Try.f58 7) kr58 :=
  loop_ok (st58_7 g82 g73 g129 F) mixed tt_ok hK (by kernel_rfl) (LTOK_by (l := []) (by kernel_rfl) trivial) (ev58_7 g82 g73 g129 F)
theorem ev58_4 (g82 : G82) (g73 : G73) (g129 : G129) (F : Nat) (s : ShVal sh58_4) (k kx : ShVal sh58_4 → Option R58) : evL TT (ct58 g82 g73 g129 ) kp58 [(7, ls58_7 g82 g73 g129 F)] (loopOf Try.f58 4) (envOf sh58_4 s) (fitK sh58_4 k) (fun j e => bif Nat.beq j 0 then fitK sh58_4 kx e else none) kr58 = st58_4 g82 g73 g129 F s k kx := by
  obtain ⟨⟨t0, _⟩, ⟨t1, _⟩, ⟨t5, _⟩, ⟨t7, _⟩, _⟩ := s
  kernel_rfl
theorem ok58_4 (g82 : G82) (g73 : G73) (g129 : G129) (F : Nat) (hK : KOK Try.prog (ct58 g82 g73 g129 )) : LSOK Try.prog ⟨61, false, undef⟩ (ls58_4 g82 g73 g129 F) (loopOf Try.f58 4) kr58 :=
  loop_ok (st58_4 g82 g73 g129 F) mixed tt_ok hK (by kernel_rfl) (LTOK_by (l := [loopOf Try.f58 7]) (by kernel_rfl) ⟨ls_at (by kernel_rfl) (ok58_7 g82 g73 g129 F hK), trivial⟩) (ev58_4 g82 g73 g129 F)
theorem ev58 (g82 : G82) (g73 : G73) (g129 : G129) (F : Nat) (x : Args [.v i64, .v i64, .v mat]) : fnK TT (ct58 g82 g73 g129 ) kp58 [.bool] [(4, ls58_4 g82 g73 g129 F)] (bodyOf Try.f58) [.tmp 6] [.v i64, .v i64, .v mat] false false x = fn58 g82 g73 g129 F x := by
  obtain ⟨x0, x1, x2, _⟩ := x
  kernel_rfl
theorem ok58 (g82 : G82) (g73 : G73) (g129 : G129) (hK : KOK Try.prog (ct58 g82 g73 g129 )) (cf : G58) (h : ∀ x y, cf x = some y → ∃ F, fn58 g82 g73 g129 F x = some y) : KOne Try.prog 58 ⟨[.v i64, .v i64, .v mat], [.bool], false, false, 0, cf⟩ :=
  fn_one rfl (c := bodyOf Try.f58) mixed tt_ok hK Try.func58 (by kernel_rfl) (by kernel_rfl) (Nat.le_of_ble_eq_true (by kernel_rfl)) (by decide) fun x y hxy => by
    obtain ⟨F, hF⟩ := h x y hxy
    exact ⟨[(4, ls58_4 g82 g73 g129 F)], LTOK_by (l := [loopOf Try.f58 4]) (by kernel_rfl) ⟨ls_at (by kernel_rfl) (ok58_4 g82 g73 g129 F hK), trivial⟩, (ev58 g82 g73 g129 F x).trans hF⟩
/-! impl.determinant$1 -/
abbrev R166 : Type := Ress [i64]
abbrev G166 : Type := Args [.v i64, .v i64, .p mat] → Option R166
abbrev kp166 : List (Nat × List Nat) := [(0, [0, 1, 2]), (1, [5])]
abbrev ct166 : CTab := []
abbrev kr166 : Env → Option R166 := endK TT [.tmp 5] [i64] false false
def fn166 (F : Nat) (x : Args [.v i64, .v i64, .p mat]) : Option R166 :=
  match x with
  | (x0, x1, x2, _) => (bif ib x0 (Int.ofNat 3) then (bif ib x1 (Int.ofNat 3) then (some ((w6 (tget (0 : Int) 3 (tget (Ty.dflt (.arr 3 (.int .u8))) 3 x2 (tn x0)) (tn x1))), ())) else none) else none)
theorem ev166 (F : Nat) (x : Args [.v i64, .v i64, .p mat]) : fnK TT (ct166 ) kp166 [i64] [] (bodyOf Try.f166) [.tmp 5] [.v i64, .v i64, .p mat] false false x = fn166 F x := by
  obtain ⟨x0, x1, x2, _⟩ := x
  kernel_rfl
theorem ok166 (hK : KOK Try.prog (ct166 )) (cf : G166) (h : ∀ x y, cf x = some y → ∃ F, fn166 F x = some y) : KOne Try.prog 166 ⟨[.v i64, .v i64, .p mat], [i64], false, false, 0, cf⟩ :=
  fn_one rfl (c := bodyOf Try.f166) mixed tt_ok hK Try.func166 (by kernel_rfl) (by kernel_rfl) (Nat.le_of_ble_eq_true (by kernel_rfl)) (by decide) fun x y hxy => by
    obtain ⟨F, hF⟩ := h x y hxy
    exact ⟨[], LTOK_by (l := []) (by kernel_rfl) trivial, (ev166 F x).trans hF⟩
/-! impl.determinant -/
abbrev R133 : Type := Ress [i64]
abbrev G133 : Type := Args [.v i64, .v i64, .v mat] → Option R133
abbrev kp133 : List (Nat × List Nat) := [(0, [1, 5, 0]), (1, [1, 7, 5, 0]), (2, [1, 8, 7, 5, 0]), (3, [8, 12, 7, 5, 0]), (4, [13, 8, 12, 7, 5, 0]), (6, [26, 8, 7, 5, 0]), (7, [8, 0]), (5, [8, 0]), (8, [6])]
abbrev ct133 (g166 : G166) : CTab := [(166, ⟨[.v i64, .v i64, .p mat], [i64], false, false, 0, g166⟩)]
abbrev kr133 : Env → Option R133 := endK TT [.tmp 6] [i64] false false
def fn133 (g166 : G166) (F : Nat) (x : Args [.v i64, .v i64, .v mat]) : Option R133 :=
  match x with
  | (x0, x1, x2, _) => (match (g166 ((0 : Int), ((0 : Int), (x2, ())))) with | some r7 => (bif decide (x1 = (2 : Int)) then (match (g166 ((0 : Int), ((0 : Int), (x2, ())))) with | some r11 => (match (g166 ((1 : Int), ((1 : Int), (x2, ())))) with | some r12 => (match (g166 ((0 : Int), ((1 : Int), (x2, ())))) with | some r13 => (match (g166 ((1 : Int), ((0 : Int), (x2, ())))) with | some r14 => (bif (!decide (x0 = (0 : Int))) then (bif (!decide (x0 = (0 : Int))) then (some ((Int.tmod (w6 ((Int.tmod (w6 ((w6 (r11.1 * r12.1)) - (w6 (r13.1 * r14.1)))) x0) + x0)) x0), ())) else none) else none) | none => none) | none => none) | none => none) | none => none) else (bif decide (x1 = (3 : Int)) then (match (g166 ((0 : Int), ((0 : Int), (x2, ())))) with | some r12 => (match (g166 ((1 : Int), ((1 : Int), (x2, ())))) with | some r13 => (match (g166 ((2 : Int), ((2 : Int), (x2, ())))) with | some r14 => (match (g166 ((1 : Int), ((2 : Int), (x2, ())))) with | some r15 => (match (g166 ((2 : Int), ((1 : Int), (x2, ())))) with | some r16 => (match (g166 ((0 : Int), ((1 : Int), (x2, ())))) with | some r17 => (match (g166 ((1 : Int), ((0 : Int), (x2, ())))) with | some r18 => (match (g166 ((2 : Int), ((2 : Int), (x2, ())))) with | some r19 => (match (g166 ((1 : Int), ((2 : Int), (x2, ())))) with | some r20 => (match (g166 ((2 : Int), ((0 : Int), (x2, ())))) with | some r21 => (match (g166 ((0 : Int), ((2 : Int), (x2, ())))) with | some r22 => (match (g166 ((1 : Int), ((0 : Int), (x2, ())))) with | some r23 => (match (g166 ((2 : Int), ((1 : Int), (x2, ())))) with | some r24 => (match (g166 ((1 : Int), ((1 : Int), (x2, ())))) with | some r25 => (match (g166 ((2 : Int), ((0 : Int), (x2, ())))) with | some r26 => (bif (!decide (x0 = (0 : Int))) then (bif (!decide (x0 = (0 : Int))) then (some ((Int.tmod (w6 ((Int.tmod (w6 ((w6 ((w6 (r12.1 * (w6 ((w6 (r13.1 * r14.1)) - (w6 (r15.1 * r16.1)))))) - (w6 (r17.1 * (w6 ((w6 (r18.1 * r19.1)) - (w6 (r20.1 * r21.1)))))))) + (w6 (r22.1 * (w6 ((w6 (r23.1 * r24.1)) - (w6 (r25.1 * r26.1)))))))) x0) + x0)) x0), ())) else none) else none) | none => none) | none => none) | none => none) | none => none) | none => none) | none => none) | none => none) | none => none) | none => none) | none => none) | none => none) | none => none) | none => none) | none => none) | none => none) else (bif (!decide (x0 = (0 : Int))) then (bif (!decide (x0 = (0 : Int))) then (some ((Int.tmod (w6 ((Int.tmod r7.1 x0) + x0)) x0), ())) else none) else none))) | none => none)
theorem ev133 (g166 : G166) (F : Nat) (x : Args [.v i64, .v i64, .v mat]) : fnK TT (ct133 g166 ) kp133 [i64] [] (bodyOf Try.f133) [.tmp 6] [.v i64, .v i64, .v mat] false false x = fn133 g166 F x := by
  obtain ⟨x0, x1, x2, _⟩ := x
  kernel_rfl
theorem ok133 (g166 : G166) (hK : KOK Try.prog (ct133 g166 )) (cf : G133) (h : ∀ x y, cf x = some y → ∃ F, fn133 g166 F x = some y) : KOne Try.prog 133 ⟨[.v i64, .v i64, .v mat], [i64], false, false, 0, cf⟩ :=
  fn_one rfl (c := bodyOf Try.f133) mixed tt_ok hK Try.func133 (by kernel_rfl) (by kernel_rfl) (Nat.le_of_ble_eq_true (by kernel_rfl)) (by decide) fun x y hxy => by
    obtain ⟨F, hF⟩ := h x y hxy
    exact ⟨[], LTOK_by (l := []) (by kernel_rfl) trivial, (ev133 g166 F x).trans hF⟩
/-! impl.IsMatrix -/
abbrev R131 : Type := Ress [.bool]
abbrev G131 : Type := Args [.v i64, .v i64, .v mat] → Option R131
abbrev kp131 : List (Nat × List Nat) := [(0, [5, 1, 0]), (1, [16, 5, 1, 0]), (2, [6]), (3, [17, 0, 1, 5]), (4, [18, 5, 1, 0, 17]), (5, [5, 7, 1, 0, 17]), (6, [20, 5, 7, 1, 0, 17]), (7, [21, 17, 0, 1, 7, 5, 20]), (8, [8, 17, 0, 1, 7, 5, 20]), (9, [48, 17, 0, 1, 7, 5, 20]), (10, [6]), (11, [20, 5, 7, 1, 0, 17]), (12, [17, 0, 1, 5]), (13, [6])]
abbrev ct131 (g86 : G86) (g87 : G87) (g133 : G133) : CTab := [(86, ⟨[.v i64], [.bool], false, false, 0, g86⟩), (87, ⟨[.v i64], [.bool], false, false, 0, g87⟩), (133, ⟨[.v i64, .v i64, .v mat], [i64], false, false, 0, g133⟩)]
abbrev kr131 : Env → Option R131 := endK TT [.tmp 6] [.bool] false false
abbrev sh131_7 : Shape := [(0, vv i64), (1, vv i64), (5, bb mat), (7, vv i64), (17, vv i64), (20, vv i64)]
def st131_7 (g86 : G86) (g87 : G87) (g133 : G133) (F : Nat) (s : ShVal sh131_7) (k kx : ShVal sh131_7 → Option R131) : Option R131 :=
  match s with
  | ((t0, _), (t1, _), (t5, _), (t7, _), (t17, _), (t20, _), _) => (bif decide (t20 < (3 : Int)) then (bif ib t7 (Int.ofNat 3) then (bif ib t20 (Int.ofNat 3) then (bif decide (t0 ≤ (w6 (tget (0 : Int) 3 (tget (Ty.dflt (.arr 3 (.int .u8))) 3 t5 (tn t7)) (tn t20)))) then (some (false, ())) else (bif decide (t1 ≤ t7) then (bif ib t7 (Int.ofNat 3) then (bif ib t20 (Int.ofNat 3) then (bif (bif false then true else (bif true then (!decide ((tget (0 : Int) 3 (tget (Ty.dflt (.arr 3 (.int .u8))) 3 t5 (tn t7)) (tn t20)) = (0 : Int))) else false)) then (some (false, ())) else k ((t0, ()), ((t1, ()), ((t5, ()), ((t7, ()), ((t17, ()), (((w6 (t20 + (1 : Int))), ()), ()))))))) else none) else none) else (bif (bif false then true else decide (t1 ≤ t20)) then (bif ib t7 (Int.ofNat 3) then (bif ib t20 (Int.ofNat 3) then (bif (bif false then true else (bif true then (!decide ((tget (0 : Int) 3 (tget (Ty.dflt (.arr 3 (.int .u8))) 3 t5 (tn t7)) (tn t20)) = (0 : Int))) else false)) then (some (false, ())) else k ((t0, ()), ((t1, ()), ((t5, ()), ((t7, ()), ((t17, ()), (((w6 (t20 + (1 : Int))), ()), ()))))))) else none) else none) else (bif (bif false then true else false) then (some (false, ())) else k ((t0, ()), ((t1, ()), ((t5, ()), ((t7, ()), ((t17, ()), (((w6 (t20 + (1 : Int))), ()), ())))))))))) else none) else none) else kx ((t0, ()), ((t1, ()), ((t5, ()), ((t7, ()), ((t17, ()), ((t20, ()), ())))))))
def ru131_7 (g86 : G86) (g87 : G87) (g133 : G133) (F : Nat) (s : ShVal sh131_7) (kx : ShVal sh131_7 → Option R131) : Option R131 := iter (fun s k => st131_7 g86 g87 g133 F s k kx) F s
abbrev ls131_7 (g86 : G86) (g87 : G87) (g133 : G133) (F : Nat) : LS R131 := ⟨sh131_7, 2, ru131_7 g86 g87 g133 F⟩
abbrev sh131_4 : Shape := [(0, vv i64), (1, vv i64), (5, bb mat), (17, vv i64)]
def st131_4 (g86 : G86) (g87 : G87) (g133 : G133) (F : Nat) (s : ShVal sh131_4) (k kx : ShVal sh131_4 → Option R131) : Option R131 :=
  match s with
  | ((t0, _), (t1, _), (t5, _), (t17, _), _) => (bif decide (t17 < (3 : Int)) then (ru131_7 g86 g87 g133 F ((t0, ()), ((t1, ()), ((t5, ()), ((t17, ()), ((t17, ()), (((0 : Int), ()), ())))))) (fun s' => match s' with | ((t0, _), (t1, _), (t5, _), (t7, _), (t17, _), (t20, _), _) => k ((t0, ()), ((t1, ()), ((t5, ()), (((w6 (t17 + (1 : Int))), ()), ())))))) else kx ((t0, ()), ((t1, ()), ((t5, ()), ((t17, ()), ())))))
def ru131_4 (g86 : G86) (g87 : G87) (g133 : G133) (F : Nat) (s : ShVal sh131_4) (kx : ShVal sh131_4 → Option R131) : Option R131 := iter (fun s k => st131_4 g86 g87 g133 F s k kx) F s
abbrev ls131_4 (g86 : G86) (g87 : G87) (g133 : G133) (F : Nat) : LS R131 := ⟨sh131_4, 0, ru131_4 g86 g87 g133 F⟩
def fn131 (g86 : G86) (g87 : G87) (g133 : G133) (F : Nat) (x : Args [.v i64, .v i64, .v mat]) : Option R131 :=
  match x with
  | (x0, x1, x2, _) => (match (g86 (x0, ())) with | some r8 => (bif (!r8.1) then (some (false, ())) else (match (g87 (x1, ())) with | some r9 => (bif (bif false then true else (!r9.1)) then (some (false, ())) else (ru131_4 g86 g87 g133 F ((x0, ()), ((x1, ()), ((x2, ()), (((0 : Int), ()), ())))) (fun s' => match s' with | ((t0, _), (t1, _), (t5, _), (t17, _), _) => (match (g133 (t0, (t1, (t5, ())))) with | some r16 => (some ((!decide (r16.1 = (0 : Int))), ())) | none => none)))) | none => none)) | none => none)
theorem ev131_7 (g86 : G86) (g87 : G87) (g133 : G133) (F : Nat) (s : ShVal sh131_7) (k kx : ShVal sh131_7 → Option R131) : evL TT (ct131 g86 g87 g133 ) kp131 [] (loopOf Try.f131 7) (envOf sh131_7 s) (fitK sh131_7 k) (fun j e => bif Nat.beq j 2 then fitK sh131_7 kx e else none) kr131 = st131_7 g86 g87 g133 F s k kx := by
  obtain ⟨⟨t0, _⟩, ⟨t1, _⟩, ⟨t5, _⟩, ⟨t7, _⟩, ⟨t17, _⟩, ⟨t20, _⟩, _⟩ := s
  kernel_rfl
theorem ok131_7 (g86 : G86) (g87 : G87) (g133 : G133) (F : Nat) (hK : KOK Try.prog (ct131 g86 g87 g133 )) : LSOK Try.prog ⟨56, false, undef⟩ (ls131_7 g86 g87 g133 F) (loopOf Try.f131 7) kr131 :=
  loop_ok (st131_7 g86 g87 g133 F) mixed tt_ok hK (by kernel_rfl) (LTOK_by (l := []) (by kernel_rfl) trivial) (ev131_7 g86 g87 g133 F)
theorem ev131_4 (g86 : G86) (g87 : G87) (g133 : G133) (F : Nat) (s : ShVal sh131_4) (k kx : ShVal sh131_4 → Option R131) : evL TT (ct131 g86 g87 g133 ) kp131 [(7, ls131_7 g86 g87 g133 F)] (loopOf Try.f131 4) (envOf sh131_4 s) (fitK sh131_4 k) (fun j e => bif Nat.beq j 0 then fitK sh131_4 kx e else none) kr131 = st131_4 g86 g87 g133 F s k kx := by
  obtain ⟨⟨t0, _⟩, ⟨t1, _⟩, ⟨t5, _⟩, ⟨t17, _⟩, _⟩ := s
  kernel_rfl
theorem ok131_4 (g86 : G86) (g87 : G87) (g133 : G133) (F : Nat) (hK : KOK Try.prog (ct131 g86 g87 g133 )) : LSOK Try.prog ⟨56, false, undef⟩ (ls131_4 g86 g87 g133 F) (loopOf Try.f131 4) kr131 :=
  loop_ok (st131_4 g86 g87 g133 F) mixed tt_ok hK (by kernel_rfl) (LTOK_by (l := [loopOf Try.f131 7]) (by kernel_rfl) ⟨ls_at (by kernel_rfl) (ok131_7 g86 g87 g133 F hK), trivial⟩) (ev131_4 g86 g87 g133 F)
theorem ev131 (g86 : G86) (g87 : G87) (g133 : G133) (F : Nat) (x : Args [.v i64, .v i64, .v mat]) : fnK TT (ct131 g86 g87 g133 ) kp131 [.bool] [(4, ls131_4 g86 g87 g133 F)] (bodyOf Try.f131) [.tmp 6] [.v i64, .v i64, .v mat] false false x = fn131 g86 g87 g133 F x := by
  obtain ⟨x0, x1, x2, _⟩ := x
  kernel_rfl
theorem ok131 (g86 : G86) (g87 : G87) (g133 : G133) (hK : KOK Try.prog (ct131 g86 g87 g133 )) (cf : G131) (h : ∀ x y, cf x = some y → ∃ F, fn131 g86 g87 g133 F x = some y) : KOne Try.prog 131 ⟨[.v i64, .v i64, .v mat], [.bool], false, false, 0, cf⟩ :=
  fn_one rfl (c := bodyOf Try.f131) mixed tt_ok hK Try.func131 (by kernel_rfl) (by kernel_rfl) (Nat.le_of_ble_eq_true (by kernel_rfl)) (by decide) fun x y hxy => by
    obtain ⟨F, hF⟩ := h x y hxy
    exact ⟨[(4, ls131_4 g86 g87 g133 F)], LTOK_by (l := [loopOf Try.f131 4]) (by kernel_rfl) ⟨ls_at (by kernel_rfl) (ok131_4 g86 g87 g133 F hK), trivial⟩, (ev131 g86 g87 g133 F x).trans hF⟩
/-! impl.areMatrices -/
abbrev R61 : Type := Ress [.bool]
abbrev G61 : Type := Args [.v i64, .v i64, .v (.slice 27 mat)] → Option R61
abbrev kp61 : List (Nat × List Nat) := [(0, [2, 1, 0]), (1, [11, 1, 0, 9, 10]), (2, [12, 10, 9, 0, 1, 11]), (3, [8, 10, 9, 0, 1, 11]), (4, [19, 10, 9, 0, 1, 11]), (5, [6]), (6, [11, 1, 0, 9, 10]), (7, [6])]
abbrev ct61 (g131 : G131) (g87 : G87) (g86 : G86) : CTab := [(131, ⟨[.v i64, .v i64, .v mat], [.bool], false, false, 0, g131⟩), (87, ⟨[.v i64], [.bool], false, false, 0, g87⟩), (86, ⟨[.v i64], [.bool], false, false, 0, g86⟩)]
abbrev kr61 : Env → Option R61 := endK TT [.tmp 6] [.bool] false false
abbrev sh61_2 : Shape := [(0, vv i64), (1, vv i64), (9, vv (.slice 27 mat)), (10, vv i64), (11, vv i64)]
def st61_2 (g131 : G131) (g87 : G87) (g86 : G86) (F : Nat) (s : ShVal sh61_2) (k kx : ShVal sh61_2 → Option R61) : Option R61 :=
  match s with
  | ((t0, _), (t1, _), (t9, _), (t10, _), (t11, _), _) => (bif decide (t11 < t10) then (bif ib t11 (Int.ofNat (List.length t9)) then (match (g131 (t0, (t1, ((List.getD t9 (tn t11) (Ty.dflt (.arr 3 (.arr 3 (.int .u8))))), ())))) with | some r16 => (bif (!r16.1) then (some (false, ())) else k ((t0, ()), ((t1, ()), ((t9, ()), ((t10, ()), (((w6 (t11 + (1 : Int))), ()), ())))))) | none => none) else none) else kx ((t0, ()), ((t1, ()), ((t9, ()), ((t10, ()), ((t11, ()), ()))))))
def ru61_2 (g131 : G131) (g87 : G87) (g86 : G86) (F : Nat) (s : ShVal sh61_2) (kx : ShVal sh61_2 → Option R61) : Option R61 := iter (fun s k => st61_2 g131 g87 g86 F s k kx) F s
abbrev ls61_2 (g131 : G131) (g87 : G87) (g86 : G86) (F : Nat) : LS R61 := ⟨sh61_2, 0, ru61_2 g131 g87 g86 F⟩
def fn61 (g131 : G131) (g87 : G87) (g86 : G86) (F : Nat) (x : Args [.v i64, .v i64, .v (.slice 27 mat)]) : Option R61 :=
  match x with
  | (x0, x1, x2, _) => (bif decide ((List.length x2) ≤ 9223372036854775807) then (ru61_2 g131 g87 g86 F ((x0, ()), ((x1, ()), ((x2, ()), (((Int.ofNat (List.length x2)), ()), (((0 : Int), ()), ()))))) (fun s' => match s' with | ((t0, _), (t1, _), (t9, _), (t10, _), (t11, _), _) => (match (g86 (t0, ())) with | some r14 => (bif r14.1 then (match (g87 (t1, ())) with | some r15 => (some ((bif true then r15.1 else false), ())) | none => none) else (some (false, ()))) | none => none))) else none)
theorem ev61_2 (g131 : G131) (g87 : G87) (g86 : G86) (F : Nat) (s : ShVal sh61_2) (k kx : ShVal sh61_2 → Option R61) : evL TT (ct61 g131 g87 g86 ) kp61 [] (loopOf Try.f61 2) (envOf sh61_2 s) (fitK sh61_2 k) (fun j e => bif Nat.beq j 0 then fitK sh61_2 kx e else none) kr61 = st61_2 g131 g87 g86 F s k kx := by
  obtain ⟨⟨t0, _⟩, ⟨t1, _⟩, ⟨t9, _⟩, ⟨t10, _⟩, ⟨t11, _⟩, _⟩ := s
  kernel_rfl
theorem ok61_2 (g131 : G131) (g87 : G87) (g86 : G86) (F : Nat) (hK : KOK Try.prog (ct61 g131 g87 g86 )) : LSOK Try.prog ⟨27, false, undef⟩ (ls61_2 g131 g87 g86 F) (loopOf Try.f61 2) kr61 :=
  loop_ok (st61_2 g131 g87 g86 F) mixed tt_ok hK (by kernel_rfl) (LTOK_by (l := []) (by kernel_rfl) trivial) (ev61_2 g131 g87 g86 F)
theorem ev61 (g131 : G131) (g87 : G87) (g86 : G86) (F : Nat) (x : Args [.v i64, .v i64, .v (.slice 27 mat)]) : fnK TT (ct61 g131 g87 g86 ) kp61 [.bool] [(2, ls61_2 g131 g87 g86 F)] (bodyOf Try.f61) [.tmp 6] [.v i64, .v i64, .v (.slice 27 mat)] false false x = fn61 g131 g87 g86 F x := by
  obtain ⟨x0, x1, x2, _⟩ := x
  kernel_rfl
theorem ok61 (g131 : G131) (g87 : G87) (g86 : G86) (hK : KOK Try.prog (ct61 g131 g87 g86 )) (cf : G61) (h : ∀ x y, cf x = some y → ∃ F, fn61 g131 g87 g86 F x = some y) : KOne Try.prog 61 ⟨[.v i64, .v i64, .v (.slice 27 mat)], [.bool], false, false, 0, cf⟩ :=
  fn_one rfl (c := bodyOf Try.f61) mixed tt_ok hK Try.func61 (by kernel_rfl) (by kernel_rfl) (Nat.le_of_ble_eq_true (by kernel_rfl)) (by decide) fun x y hxy => by
    obtain ⟨F, hF⟩ := h x y hxy
    exact ⟨[(2, ls61_2 g131 g87 g86 F)], LTOK_by (l := [loopOf Try.f61 2]) (by kernel_rfl) ⟨ls_at (by kernel_rfl) (ok61_2 g131 g87 g86 F hK), trivial⟩, (ev61 g131 g87 g86 F x).trans hF⟩
end Go.Proofs.YtkoifikjfnbcpaaEv
