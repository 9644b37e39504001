/- What functions of the program come to, printed by a program of this work: loops by their steps, calls by what is known of them; each text is checked by the kernel. No condition. -/
import Derived.Test.YtkoifikjfnbcpaaEvFr
set_option linter.unusedVariables false
namespace Go.Proofs.YtkoifikjfnbcpaaEv
open Go Go.RowKit
/-! spec.l06Change -/
abbrev R109 : Type := Ress [(.slice 24 (.slice 2 i64))]
abbrev G109 : Type := Args [.v i64, .v i64, .v mat] → Option R109
abbrev kp109 : List (Nat × List Nat) := [(0, [1, 5, 0]), (1, [1, 7, 5, 0]), (2, [1, 7, 5, 8, 0]), (3, [15, 0, 8, 5, 7, 1]), (5, [9, 0, 8, 5, 7, 1]), (6, [10, 9, 0, 8, 5, 7, 1]), (7, [21, 9, 10, 0, 8, 5, 7, 1]), (9, [11, 9, 10, 0, 8, 5, 7, 1]), (10, [32, 11, 9, 10, 0, 8, 5, 7, 1]), (11, [9, 11, 10, 0, 8, 5, 7, 1]), (12, [10, 9, 0, 8, 5, 7, 1]), (8, [10, 9, 0, 8, 5, 7, 1]), (13, [8, 1, 7, 5, 0]), (4, [1, 7, 5, 8, 0]), (14, [6])]
abbrev ct109 (g74 : G74) : CTab := [(74, ⟨[.v i64, .v i64], [i64], false, false, 0, g74⟩)]
abbrev kr109 : Env → Option R109 := endK TT [.tmp 6] [(.slice 24 (.slice 2 i64))] true false
abbrev sh109_7 : Shape := [(0, vv i64), (1, vv i64), (5, bb mat), (7, vr 24 (.slice 2 i64) 113 false), (8, vv i64), (9, vr 2 i64 145 false), (10, vv i64)]
def st109_7 (g74 : G74) (F : Nat) (s : ShVal sh109_7) (k kx : ShVal sh109_7 → Option R109) : Option R109 :=
  match s with
  | ((t0, _), (t1, _), (t5, _), (t7, _), (t8, _), (t9, _), (t10, _), _) => (bif decide (t10 < t1) then (bif ib t8 (Int.ofNat 3) then (bif ib t10 (Int.ofNat 3) then (bif decide (t8 = t10) then (match (g74 (t0, ((w6 ((w6 (tget (0 : Int) 3 (tget (Ty.dflt (.arr 3 (.int .u8))) 3 t5 (tn t8)) (tn t10))) - (1 : Int))), ()))) with | some r26 => (bif (growOk (List.length t9) (List.length (r26.1 :: []))) then k ((t0, ()), ((t1, ()), ((t5, ()), ((t7, ()), ((t8, ()), (((t9 ++ (r26.1 :: [])), ()), (((w6 (t10 + (1 : Int))), ()), ()))))))) else none) | none => none) else (bif (growOk (List.length t9) (List.length ((w6 (tget (0 : Int) 3 (tget (Ty.dflt (.arr 3 (.int .u8))) 3 t5 (tn t8)) (tn t10))) :: []))) then k ((t0, ()), ((t1, ()), ((t5, ()), ((t7, ()), ((t8, ()), (((t9 ++ ((w6 (tget (0 : Int) 3 (tget (Ty.dflt (.arr 3 (.int .u8))) 3 t5 (tn t8)) (tn t10))) :: [])), ()), (((w6 (t10 + (1 : Int))), ()), ()))))))) else none)) else none) else none) else kx ((t0, ()), ((t1, ()), ((t5, ()), ((t7, ()), ((t8, ()), ((t9, ()), ((t10, ()), ()))))))))
def ru109_7 (g74 : G74) (F : Nat) (s : ShVal sh109_7) (kx : ShVal sh109_7 → Option R109) : Option R109 := iter (fun s k => st109_7 g74 F s k kx) F s
abbrev ls109_7 (g74 : G74) (F : Nat) : LS R109 := ⟨sh109_7, 2, ru109_7 g74 F⟩
abbrev sh109_3 : Shape := [(0, vv i64), (1, vv i64), (5, bb mat), (7, vr 24 (.slice 2 i64) 113 false), (8, vv i64)]
def st109_3 (g74 : G74) (F : Nat) (s : ShVal sh109_3) (k kx : ShVal sh109_3 → Option R109) : Option R109 :=
  match s with
  | ((t0, _), (t1, _), (t5, _), (t7, _), (t8, _), _) => (bif decide (t8 < t1) then (ru109_7 g74 F ((t0, ()), ((t1, ()), ((t5, ()), ((t7, ()), ((t8, ()), (([], ()), (((0 : Int), ()), ()))))))) (fun s' => match s' with | ((t0, _), (t1, _), (t5, _), (t7, _), (t8, _), (t9, _), (t10, _), _) => (bif (growOk (List.length t7) (List.length (t9 :: []))) then k ((t0, ()), ((t1, ()), ((t5, ()), (((t7 ++ (t9 :: [])), ()), (((w6 (t8 + (1 : Int))), ()), ()))))) else none))) else kx ((t0, ()), ((t1, ()), ((t5, ()), ((t7, ()), ((t8, ()), ()))))))
def ru109_3 (g74 : G74) (F : Nat) (s : ShVal sh109_3) (kx : ShVal sh109_3 → Option R109) : Option R109 := iter (fun s k => st109_3 g74 F s k kx) F s
abbrev ls109_3 (g74 : G74) (F : Nat) : LS R109 := ⟨sh109_3, 0, ru109_3 g74 F⟩
def fn109 (g74 : G74) (F : Nat) (x : Args [.v i64, .v i64, .v mat]) : Option R109 :=
  match x with
  | (x0, x1, x2, _) => (ru109_3 g74 F ((x0, ()), ((x1, ()), ((x2, ()), (([], ()), (((0 : Int), ()), ()))))) (fun s' => match s' with | ((t0, _), (t1, _), (t5, _), (t7, _), (t8, _), _) => (some (t7, ()))))
theorem ev109_7 (g74 : G74) (F : Nat) (s : ShVal sh109_7) (k kx : ShVal sh109_7 → Option R109) : evL TT (ct109 g74 ) kp109 [] (loopOf Try.f109 7) (envOf sh109_7 s) (fitK sh109_7 k) (fun j e => bif Nat.beq j 2 then fitK sh109_7 kx e else none) kr109 = st109_7 g74 F s k kx := by
  obtain ⟨⟨t0, _⟩, ⟨t1, _⟩, ⟨t5, _⟩, ⟨t7, _⟩, ⟨t8, _⟩, ⟨t9, _⟩, ⟨t10, _⟩, _⟩ := s
  kernel_rfl
theorem ok109_7 (g74 : G74) (F : Nat) (hK : KOK Try.prog (ct109 g74 )) : LSOK Try.prog ⟨46, false, undef⟩ (ls109_7 g74 F) (loopOf Try.f109 7) kr109 :=
  loop_ok (st109_7 g74 F) mixed tt_ok hK (by kernel_rfl) (LTOK_by (l := []) (by kernel_rfl) trivial) (ev109_7 g74 F)
theorem ev109_3 (g74 : G74) (F : Nat) (s : ShVal sh109_3) (k kx : ShVal sh109_3 → Option R109) : evL TT (ct109 g74 ) kp109 [(7, ls109_7 g74 F)] (loopOf Try.f109 3) (envOf sh109_3 s) (fitK sh109_3 k) (fun j e => bif Nat.beq j 0 then fitK sh109_3 kx e else none) kr109 = st109_3 g74 F s k kx := by
  obtain ⟨⟨t0, _⟩, ⟨t1, _⟩, ⟨t5, _⟩, ⟨t7, _⟩, ⟨t8, _⟩, _⟩ := s
  kernel_rfl
theorem ok109_3 (g74 : G74) (F : Nat) (hK : KOK Try.prog (ct109 g74 )) : LSOK Try.prog ⟨46, false, undef⟩ (ls109_3 g74 F) (loopOf Try.f109 3) kr109 :=
  loop_ok (st109_3 g74 F) mixed tt_ok hK (by kernel_rfl) (LTOK_by (l := [loopOf Try.f109 7]) (by kernel_rfl) ⟨ls_at (by kernel_rfl) (ok109_7 g74 F hK), trivial⟩) (ev109_3 g74 F)
theorem ev109 (g74 : G74) (F : Nat) (x : Args [.v i64, .v i64, .v mat]) : fnK TT (ct109 g74 ) kp109 [(.slice 24 (.slice 2 i64))] [(3, ls109_3 g74 F)] (bodyOf Try.f109) [.tmp 6] [.v i64, .v i64, .v mat] true false x = fn109 g74 F x := by
  obtain ⟨x0, x1, x2, _⟩ := x
  kernel_rfl
theorem ok109 (g74 : G74) (hK : KOK Try.prog (ct109 g74 )) (cf : G109) (h : ∀ x y, cf x = some y → ∃ F, fn109 g74 F x = some y) : KOne Try.prog 109 ⟨[.v i64, .v i64, .v mat], [(.slice 24 (.slice 2 i64))], true, false, 0, cf⟩ :=
  fn_one rfl (c := bodyOf Try.f109) mixed tt_ok hK Try.func109 (by kernel_rfl) (by kernel_rfl) (Nat.le_of_ble_eq_true (by kernel_rfl)) (by decide) fun x y hxy => by
    obtain ⟨F, hF⟩ := h x y hxy
    exact ⟨[(3, ls109_3 g74 F)], LTOK_by (l := [loopOf Try.f109 3]) (by kernel_rfl) ⟨ls_at (by kernel_rfl) (ok109_3 g74 F hK), trivial⟩, (ev109 g74 F x).trans hF⟩
/-! spec.l06Is -/
abbrev R94 : Type := Ress [.bool]
abbrev G94 : Type := Args [.v i64, .v i64, .v mat] → Option R94
abbrev kp94 : List (Nat × List Nat) := [(0, [0, 1, 5]), (1, [6])]
abbrev ct94 (g109 : G109) (g108 : G108) : CTab := [(109, ⟨[.v i64, .v i64, .v mat], [(.slice 24 (.slice 2 i64))], true, false, 0, g109⟩), (108, ⟨[.v i64, .v (.slice 24 (.slice 2 i64))], [(.slice 24 (.slice 2 i64))], false, false, 0, g108⟩)]
abbrev kr94 : Env → Option R94 := endK TT [.tmp 6] [.bool] false false
def fn94 (g109 : G109) (g108 : G108) (F : Nat) (x : Args [.v i64, .v i64, .v mat]) : Option R94 :=
  match x with
  | (x0, x1, x2, _) => (match (g109 (x0, (x1, (x2, ())))) with | some r7 => (match (g108 (x0, (r7.1, ()))) with | some r8 => (bif decide ((List.length r8.1) ≤ 9223372036854775807) then (some (decide ((Int.ofNat (List.length r8.1)) = (1 : Int)), ())) else none) | none => none) | none => none)
theorem ev94 (g109 : G109) (g108 : G108) (F : Nat) (x : Args [.v i64, .v i64, .v mat]) : fnK TT (ct94 g109 g108 ) kp94 [.bool] [] (bodyOf Try.f94) [.tmp 6] [.v i64, .v i64, .v mat] false false x = fn94 g109 g108 F x := by
  obtain ⟨x0, x1, x2, _⟩ := x
  kernel_rfl
theorem ok94 (g109 : G109) (g108 : G108) (hK : KOK Try.prog (ct94 g109 g108 )) (cf : G94) (h : ∀ x y, cf x = some y → ∃ F, fn94 g109 g108 F x = some y) : KOne Try.prog 94 ⟨[.v i64, .v i64, .v mat], [.bool], false, false, 0, cf⟩ :=
  fn_one rfl (c := bodyOf Try.f94) mixed tt_ok hK Try.func94 (by kernel_rfl) (by kernel_rfl) (Nat.le_of_ble_eq_true (by kernel_rfl)) (by decide) fun x y hxy => by
    obtain ⟨F, hF⟩ := h x y hxy
    exact ⟨[], LTOK_by (l := []) (by kernel_rfl) trivial, (ev94 g109 g108 F x).trans hF⟩
/-! spec.IsReflection -/
abbrev R42 : Type := Ress [.bool, i64]
abbrev G42 : Type := Args [.v i64, .v i64, .v mat] → Option R42
abbrev kp42 : List (Nat × List Nat) := [(0, [5, 1, 0]), (1, [12, 5, 1, 0]), (2, [7, 6]), (3, [7, 6])]
abbrev ct42 (g58 : G58) (g94 : G94) : CTab := [(58, ⟨[.v i64, .v i64, .v mat], [.bool], false, false, 0, g58⟩), (94, ⟨[.v i64, .v i64, .v mat], [.bool], false, false, 0, g94⟩)]
abbrev kr42 : Env → Option R42 := endK TT [.tmp 6, .tmp 7] [.bool, i64] false false
def fn42 (g58 : G58) (g94 : G94) (F : Nat) (x : Args [.v i64, .v i64, .v mat]) : Option R42 :=
  match x with
  | (x0, x1, x2, _) => (match (g58 (x0, (x1, (x2, ())))) with | some r7 => (bif (!r7.1) then (some (false, ((2 : Int), ()))) else (match (g94 (x0, (x1, (x2, ())))) with | some r9 => (some (r9.1, ((0 : Int), ()))) | none => none)) | none => none)
theorem ev42 (g58 : G58) (g94 : G94) (F : Nat) (x : Args [.v i64, .v i64, .v mat]) : fnK TT (ct42 g58 g94 ) kp42 [.bool, i64] [] (bodyOf Try.f42) [.tmp 6, .tmp 7] [.v i64, .v i64, .v mat] false false x = fn42 g58 g94 F x := by
  obtain ⟨x0, x1, x2, _⟩ := x
  kernel_rfl
theorem ok42 (g58 : G58) (g94 : G94) (hK : KOK Try.prog (ct42 g58 g94 )) (cf : G42) (h : ∀ x y, cf x = some y → ∃ F, fn42 g58 g94 F x = some y) : KOne Try.prog 42 ⟨[.v i64, .v i64, .v mat], [.bool, i64], false, false, 0, cf⟩ :=
  fn_one rfl (c := bodyOf Try.f42) mixed tt_ok hK Try.func42 (by kernel_rfl) (by kernel_rfl) (Nat.le_of_ble_eq_true (by kernel_rfl)) (by decide) fun x y hxy => by
    obtain ⟨F, hF⟩ := h x y hxy
    exact ⟨[], LTOK_by (l := []) (by kernel_rfl) trivial, (ev42 g58 g94 F x).trans hF⟩
/-! impl.lessUnit -/
abbrev R112 : Type := Ress [(.slice 24 (.slice 2 i64))]
abbrev G112 : Type := Args [.v i64, .v i64, .v mat] → Option R112
abbrev kp112 : List (Nat × List Nat) := [(0, [0, 5, 1]), (1, [7, 0, 5, 1]), (2, [13, 7, 0, 5, 1, 12]), (3, [14, 5, 7, 13, 0, 1, 12]), (4, [5, 8, 7, 13, 0, 1, 12]), (5, [5, 8, 9, 7, 13, 0, 1, 12]), (6, [19, 5, 8, 9, 7, 13, 0, 1, 12, 18]), (7, [20, 19, 5, 8, 9, 7, 13, 0, 1, 12, 18]), (8, [10, 19, 5, 8, 9, 7, 13, 0, 1, 12, 18]), (9, [19, 5, 8, 9, 7, 13, 0, 1, 12, 18]), (10, [19, 5, 8, 9, 7, 13, 0, 1, 12, 18]), (11, [7, 9, 13, 0, 5, 1, 12]), (12, [13, 7, 0, 5, 1, 12]), (13, [13, 7, 0, 5, 1, 12]), (14, [6])]
abbrev ct112 : CTab := []
abbrev kr112 : Env → Option R112 := endK TT [.tmp 6] [(.slice 24 (.slice 2 i64))] true false
abbrev sh112_7 : Shape := [(0, vv i64), (1, vv i64), (5, bb mat), (7, vr 24 (.slice 2 i64) 113 false), (8, vv i64), (9, vr 2 i64 145 false), (12, vv i64), (13, vv i64), (18, vv i64), (19, vv i64)]
def st112_7 (F : Nat) (s : ShVal sh112_7) (k kx : ShVal sh112_7 → Option R112) : Option R112 :=
  match s with
  | ((t0, _), (t1, _), (t5, _), (t7, _), (t8, _), (t9, _), (t12, _), (t13, _), (t18, _), (t19, _), _) => (bif decide (t19 < t18) then (bif ib t8 (Int.ofNat 3) then (bif ib t19 (Int.ofNat 3) then (bif ib t19 (Int.ofNat (List.length t9)) then k ((t0, ()), ((t1, ()), ((t5, ()), ((t7, ()), ((t8, ()), (((List.set t9 (tn t19) (w6 (tget (0 : Int) 3 (tget (Ty.dflt (.arr 3 (.int .u8))) 3 t5 (tn t8)) (tn t19)))), ()), ((t12, ()), ((t13, ()), ((t18, ()), (((w6 (t19 + (1 : Int))), ()), ())))))))))) else none) else none) else none) else kx ((t0, ()), ((t1, ()), ((t5, ()), ((t7, ()), ((t8, ()), ((t9, ()), ((t12, ()), ((t13, ()), ((t18, ()), ((t19, ()), ())))))))))))
def ru112_7 (F : Nat) (s : ShVal sh112_7) (kx : ShVal sh112_7 → Option R112) : Option R112 := iter (fun s k => st112_7 F s k kx) F s
abbrev ls112_7 (F : Nat) : LS R112 := ⟨sh112_7, 2, ru112_7 F⟩
abbrev sh112_3 : Shape := [(0, vv i64), (1, vv i64), (5, bb mat), (7, vr 24 (.slice 2 i64) 113 false), (12, vv i64), (13, vv i64)]
def st112_3 (F : Nat) (s : ShVal sh112_3) (k kx : ShVal sh112_3 → Option R112) : Option R112 :=
  match s with
  | ((t0, _), (t1, _), (t5, _), (t7, _), (t12, _), (t13, _), _) => (bif decide (t13 < t12) then (bif ((decide ((0 : Int) ≤ t1) && decide (t1 ≤ (1099511627776 : Int))) && decide (t1 = t1)) then (ru112_7 F ((t0, ()), ((t1, ()), ((t5, ()), ((t7, ()), ((t13, ()), (((List.replicate (tn t1) (0 : Int)), ()), ((t12, ()), ((t13, ()), ((t1, ()), (((0 : Int), ()), ())))))))))) (fun s' => match s' with | ((t0, _), (t1, _), (t5, _), (t7, _), (t8, _), (t9, _), (t12, _), (t13, _), (t18, _), (t19, _), _) => (bif ib t8 (Int.ofNat (List.length t9)) then (bif (!decide (t0 = (0 : Int))) then (bif ib t8 (Int.ofNat (List.length t9)) then (bif (growOk (List.length t7) (List.length ((List.set t9 (tn t8) (Int.tmod (w6 ((w6 ((List.getD t9 (tn t8) (0 : Int)) + t0)) - (1 : Int))) t0)) :: []))) then k ((t0, ()), ((t1, ()), ((t5, ()), (((t7 ++ ((List.set t9 (tn t8) (Int.tmod (w6 ((w6 ((List.getD t9 (tn t8) (0 : Int)) + t0)) - (1 : Int))) t0)) :: [])), ()), ((t12, ()), (((w6 (t13 + (1 : Int))), ()), ())))))) else none) else none) else none) else none))) else none) else kx ((t0, ()), ((t1, ()), ((t5, ()), ((t7, ()), ((t12, ()), ((t13, ()), ())))))))
def ru112_3 (F : Nat) (s : ShVal sh112_3) (kx : ShVal sh112_3 → Option R112) : Option R112 := iter (fun s k => st112_3 F s k kx) F s
abbrev ls112_3 (F : Nat) : LS R112 := ⟨sh112_3, 0, ru112_3 F⟩
def fn112 (F : Nat) (x : Args [.v i64, .v i64, .v mat]) : Option R112 :=
  match x with
  | (x0, x1, x2, _) => (ru112_3 F ((x0, ()), ((x1, ()), ((x2, ()), (([], ()), ((x1, ()), (((0 : Int), ()), ())))))) (fun s' => match s' with | ((t0, _), (t1, _), (t5, _), (t7, _), (t12, _), (t13, _), _) => (some (t7, ()))))
theorem ev112_7 (F : Nat) (s : ShVal sh112_7) (k kx : ShVal sh112_7 → Option R112) : evL TT (ct112 ) kp112 [] (loopOf Try.f112 7) (envOf sh112_7 s) (fitK sh112_7 k) (fun j e => bif Nat.beq j 2 then fitK sh112_7 kx e else none) kr112 = st112_7 F s k kx := by
  obtain ⟨⟨t0, _⟩, ⟨t1, _⟩, ⟨t5, _⟩, ⟨t7, _⟩, ⟨t8, _⟩, ⟨t9, _⟩, ⟨t12, _⟩, ⟨t13, _⟩, ⟨t18, _⟩, ⟨t19, _⟩, _⟩ := s
  kernel_rfl
theorem ok112_7 (F : Nat) (hK : KOK Try.prog (ct112 )) : LSOK Try.prog ⟨50, false, undef⟩ (ls112_7 F) (loopOf Try.f112 7) kr112 :=
  loop_ok (st112_7 F) mixed tt_ok hK (by kernel_rfl) (LTOK_by (l := []) (by kernel_rfl) trivial) (ev112_7 F)
theorem ev112_3 (F : Nat) (s : ShVal sh112_3) (k kx : ShVal sh112_3 → Option R112) : evL TT (ct112 ) kp112 [(7, ls112_7 F)] (loopOf Try.f112 3) (envOf sh112_3 s) (fitK sh112_3 k) (fun j e => bif Nat.beq j 0 then fitK sh112_3 kx e else none) kr112 = st112_3 F s k kx := by
  obtain ⟨⟨t0, _⟩, ⟨t1, _⟩, ⟨t5, _⟩, ⟨t7, _⟩, ⟨t12, _⟩, ⟨t13, _⟩, _⟩ := s
  kernel_rfl
theorem ok112_3 (F : Nat) (hK : KOK Try.prog (ct112 )) : LSOK Try.prog ⟨50, false, undef⟩ (ls112_3 F) (loopOf Try.f112 3) kr112 :=
  loop_ok (st112_3 F) mixed tt_ok hK (by kernel_rfl) (LTOK_by (l := [loopOf Try.f112 7]) (by kernel_rfl) ⟨ls_at (by kernel_rfl) (ok112_7 F hK), trivial⟩) (ev112_3 F)
theorem ev112 (F : Nat) (x : Args [.v i64, .v i64, .v mat]) : fnK TT (ct112 ) kp112 [(.slice 24 (.slice 2 i64))] [(3, ls112_3 F)] (bodyOf Try.f112) [.tmp 6] [.v i64, .v i64, .v mat] true false x = fn112 F x := by
  obtain ⟨x0, x1, x2, _⟩ := x
  kernel_rfl
theorem ok112 (hK : KOK Try.prog (ct112 )) (cf : G112) (h : ∀ x y, cf x = some y → ∃ F, fn112 F x = some y) : KOne Try.prog 112 ⟨[.v i64, .v i64, .v mat], [(.slice 24 (.slice 2 i64))], true, false, 0, cf⟩ :=
  fn_one rfl (c := bodyOf Try.f112) mixed tt_ok hK Try.func112 (by kernel_rfl) (by kernel_rfl) (Nat.le_of_ble_eq_true (by kernel_rfl)) (by decide) fun x y hxy => by
    obtain ⟨F, hF⟩ := h x y hxy
    exact ⟨[(3, ls112_3 F)], LTOK_by (l := [loopOf Try.f112 3]) (by kernel_rfl) ⟨ls_at (by kernel_rfl) (ok112_3 F hK), trivial⟩, (ev112 F x).trans hF⟩
/-! impl.root -/
abbrev R95 : Type := Ress [(.slice 2 i64)]
abbrev G95 : Type := Args [.v i64, .v i64, .v mat] → Option R95
abbrev kp95 : List (Nat × List Nat) := [(0, [0, 1, 5]), (1, [7]), (2, [16, 7]), (3, [6]), (4, [6])]
abbrev ct95 (g112 : G112) (g145 : G145) : CTab := [(112, ⟨[.v i64, .v i64, .v mat], [(.slice 24 (.slice 2 i64))], true, false, 0, g112⟩), (145, ⟨[.v i64, .v (.slice 24 (.slice 2 i64))], [(.slice 24 (.slice 2 i64))], true, false, 0, g145⟩)]
abbrev kr95 : Env → Option R95 := endK TT [.tmp 6] [(.slice 2 i64)] true true
def fn95 (g112 : G112) (g145 : G145) (F : Nat) (x : Args [.v i64, .v i64, .v mat]) : Option R95 :=
  match x with
  | (x0, x1, x2, _) => (match (g112 (x0, (x1, (x2, ())))) with | some r7 => (match (g145 (x0, (r7.1, ()))) with | some r8 => (bif decide ((List.length r8.1) ≤ 9223372036854775807) then (bif (!decide ((Int.ofNat (List.length r8.1)) = (1 : Int))) then (some ([], ())) else (bif ib (0 : Int) (Int.ofNat (List.length r8.1)) then (bif (((!true) || ((!false) && true)) && ((!true) || ((!(List.isEmpty (List.getD r8.1 (tn (0 : Int)) []))) && true))) then (some ((List.getD r8.1 (tn (0 : Int)) []), ())) else none) else none)) else none) | none => none) | none => none)
theorem ev95 (g112 : G112) (g145 : G145) (F : Nat) (x : Args [.v i64, .v i64, .v mat]) : fnK TT (ct95 g112 g145 ) kp95 [(.slice 2 i64)] [] (bodyOf Try.f95) [.tmp 6] [.v i64, .v i64, .v mat] true true x = fn95 g112 g145 F x := by
  obtain ⟨x0, x1, x2, _⟩ := x
  kernel_rfl
theorem ok95 (g112 : G112) (g145 : G145) (hK : KOK Try.prog (ct95 g112 g145 )) (cf : G95) (h : ∀ x y, cf x = some y → ∃ F, fn95 g112 g145 F x = some y) : KOne Try.prog 95 ⟨[.v i64, .v i64, .v mat], [(.slice 2 i64)], true, true, 0, cf⟩ :=
  fn_one rfl (c := bodyOf Try.f95) mixed tt_ok hK Try.func95 (by kernel_rfl) (by kernel_rfl) (Nat.le_of_ble_eq_true (by kernel_rfl)) (by decide) fun x y hxy => by
    obtain ⟨F, hF⟩ := h x y hxy
    exact ⟨[], LTOK_by (l := []) (by kernel_rfl) trivial, (ev95 g112 g145 F x).trans hF⟩
/-! impl.IsReflection -/
abbrev R43 : Type := Ress [.bool, i64]
abbrev G43 : Type := Args [.v i64, .v i64, .v mat] → Option R43
abbrev kp43 : List (Nat × List Nat) := [(0, [5, 1, 0]), (1, [13, 5, 1, 0]), (2, [7, 6]), (3, [7, 6])]
abbrev ct43 (g61 : G61) (g95 : G95) : CTab := [(61, ⟨[.v i64, .v i64, .v (.slice 27 mat)], [.bool], false, false, 0, g61⟩), (95, ⟨[.v i64, .v i64, .v mat], [(.slice 2 i64)], true, true, 0, g95⟩)]
abbrev kr43 : Env → Option R43 := endK TT [.tmp 6, .tmp 7] [.bool, i64] false false
def fn43 (g61 : G61) (g95 : G95) (F : Nat) (x : Args [.v i64, .v i64, .v mat]) : Option R43 :=
  match x with
  | (x0, x1, x2, _) => (match (g61 (x0, (x1, ((x2 :: []), ())))) with | some r7 => (bif (!r7.1) then (some (false, ((2 : Int), ()))) else (match (g95 (x0, (x1, (x2, ())))) with | some r9 => (some ((!(List.isEmpty r9.1)), ((0 : Int), ()))) | none => none)) | none => none)
theorem ev43 (g61 : G61) (g95 : G95) (F : Nat) (x : Args [.v i64, .v i64, .v mat]) : fnK TT (ct43 g61 g95 ) kp43 [.bool, i64] [] (bodyOf Try.f43) [.tmp 6, .tmp 7] [.v i64, .v i64, .v mat] false false x = fn43 g61 g95 F x := by
  obtain ⟨x0, x1, x2, _⟩ := x
  kernel_rfl
theorem ok43 (g61 : G61) (g95 : G95) (hK : KOK Try.prog (ct43 g61 g95 )) (cf : G43) (h : ∀ x y, cf x = some y → ∃ F, fn43 g61 g95 F x = some y) : KOne Try.prog 43 ⟨[.v i64, .v i64, .v mat], [.bool, i64], false, false, 0, cf⟩ :=
  fn_one rfl (c := bodyOf Try.f43) mixed tt_ok hK Try.func43 (by kernel_rfl) (by kernel_rfl) (Nat.le_of_ble_eq_true (by kernel_rfl)) (by decide) fun x y hxy => by
    obtain ⟨F, hF⟩ := h x y hxy
    exact ⟨[], LTOK_by (l := []) (by kernel_rfl) trivial, (ev43 g61 g95 F x).trans hF⟩
end Go.Proofs.YtkoifikjfnbcpaaEv
