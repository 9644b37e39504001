/- What functions of the program come to, printed by a program of this work: loops by their steps, calls by what is known of them; each text is checked by the kernel. No condition. -/
import Derived.Test.YtkoifikjfnbcpaaEvFp
import Derived.Test.YtkoifikjfnbcpaaEvSp
set_option linter.unusedVariables false
namespace Go.Proofs.YtkoifikjfnbcpaaEv
open Go Go.RowKit
/-! impl.isZero -/
abbrev R182 : Type := Ress [.bool]
abbrev G182 : Type := Args [.v poly] → Option R182
abbrev kp182 : List (Nat × List Nat) := [(0, [1]), (1, [2])]
abbrev ct182 : CTab := []
abbrev kr182 : Env → Option R182 := endK TT [.tmp 2] [.bool] false false
def fn182 (F : Nat) (x : Args [.v poly]) : Option R182 :=
  match x with
  | (x0, _) => (bif decide ((List.length x0.2.2.1) ≤ 9223372036854775807) then (some (decide ((Int.ofNat (List.length x0.2.2.1)) = (0 : Int)), ())) else none)
theorem ev182 (F : Nat) (x : Args [.v poly]) : fnK TT (ct182 ) kp182 [.bool] [] (bodyOf Try.f182) [.tmp 2] [.v poly] false false x = fn182 F x := by
  obtain ⟨x0, _⟩ := x
  kernel_rfl
theorem ok182 (hK : KOK Try.prog (ct182 )) (cf : G182) (h : ∀ x y, cf x = some y → ∃ F, fn182 F x = some y) : KOne Try.prog 182 ⟨[.v poly], [.bool], false, false, 0, cf⟩ :=
  fn_one rfl (c := bodyOf Try.f182) mixed tt_ok hK Try.func182 (by kernel_rfl) (by kernel_rfl) (Nat.le_of_ble_eq_true (by kernel_rfl)) (by decide) fun x y hxy => by
    obtain ⟨F, hF⟩ := h x y hxy
    exact ⟨[], LTOK_by (l := []) (by kernel_rfl) trivial, (ev182 F x).trans hF⟩
/-! impl.homogeneous -/
abbrev R169 : Type := Ress [.bool]
abbrev G169 : Type := Args [.v poly] → Option R169
abbrev kp169 : List (Nat × List Nat) := [(0, [1]), (1, [2])]
abbrev ct169 (g182 : G182) (g159 : G159) (g117 : G117) : CTab := [(182, ⟨[.v poly], [.bool], false, false, 0, g182⟩), (159, ⟨[.v ex], [i64], false, false, 0, g159⟩), (117, ⟨[.v poly], [i64], false, false, 0, g117⟩)]
abbrev kr169 : Env → Option R169 := endK TT [.tmp 2] [.bool] false false
def fn169 (g182 : G182) (g159 : G159) (g117 : G117) (F : Nat) (x : Args [.v poly]) : Option R169 :=
  match x with
  | (x0, _) => (match (g182 ((x0.1, (x0.2.1, (x0.2.2.1, ()))), ())) with | some r6 => (bif r6.1 then (some (true, ())) else (bif ib (0 : Int) (Int.ofNat (List.length x0.2.2.1)) then (match (g159 ((List.getD x0.2.2.1 (tn (0 : Int)) (Ty.dflt (.pair (.arr 3 (.int .u8)) (.pair (.int .i64) .unit)))).1, ())) with | some r7 => (match (g117 ((x0.1, (x0.2.1, (x0.2.2.1, ()))), ())) with | some r8 => (some ((bif false then true else decide (r7.1 = r8.1)), ())) | none => none) | none => none) else none)) | none => none)
theorem ev169 (g182 : G182) (g159 : G159) (g117 : G117) (F : Nat) (x : Args [.v poly]) : fnK TT (ct169 g182 g159 g117 ) kp169 [.bool] [] (bodyOf Try.f169) [.tmp 2] [.v poly] false false x = fn169 g182 g159 g117 F x := by
  obtain ⟨x0, _⟩ := x
  kernel_rfl
theorem ok169 (g182 : G182) (g159 : G159) (g117 : G117) (hK : KOK Try.prog (ct169 g182 g159 g117 )) (cf : G169) (h : ∀ x y, cf x = some y → ∃ F, fn169 g182 g159 g117 F x = some y) : KOne Try.prog 169 ⟨[.v poly], [.bool], false, false, 0, cf⟩ :=
  fn_one rfl (c := bodyOf Try.f169) mixed tt_ok hK Try.func169 (by kernel_rfl) (by kernel_rfl) (Nat.le_of_ble_eq_true (by kernel_rfl)) (by decide) fun x y hxy => by
    obtain ⟨F, hF⟩ := h x y hxy
    exact ⟨[], LTOK_by (l := []) (by kernel_rfl) trivial, (ev169 g182 g159 g117 F x).trans hF⟩
/-! impl.alike -/
abbrev R123 : Type := Ress [.bool]
abbrev G123 : Type := Args [.v poly, .v poly] → Option R123
abbrev kp123 : List (Nat × List Nat) := [(0, [2, 3]), (1, [4])]
abbrev ct123 : CTab := []
abbrev kr123 : Env → Option R123 := endK TT [.tmp 4] [.bool] false false
def fn123 (F : Nat) (x : Args [.v poly, .v poly]) : Option R123 :=
  match x with
  | (x0, x1, _) => (bif decide (x0.1 = x1.1) then (some ((bif true then decide (x0.2.1 = x1.2.1) else false), ())) else (some (false, ())))
theorem ev123 (F : Nat) (x : Args [.v poly, .v poly]) : fnK TT (ct123 ) kp123 [.bool] [] (bodyOf Try.f123) [.tmp 4] [.v poly, .v poly] false false x = fn123 F x := by
  obtain ⟨x0, x1, _⟩ := x
  kernel_rfl
theorem ok123 (hK : KOK Try.prog (ct123 )) (cf : G123) (h : ∀ x y, cf x = some y → ∃ F, fn123 F x = some y) : KOne Try.prog 123 ⟨[.v poly, .v poly], [.bool], false, false, 0, cf⟩ :=
  fn_one rfl (c := bodyOf Try.f123) mixed tt_ok hK Try.func123 (by kernel_rfl) (by kernel_rfl) (Nat.le_of_ble_eq_true (by kernel_rfl)) (by decide) fun x y hxy => by
    obtain ⟨F, hF⟩ := h x y hxy
    exact ⟨[], LTOK_by (l := []) (by kernel_rfl) trivial, (ev123 F x).trans hF⟩
/-! impl.IsPoly -/
abbrev R160 : Type := Ress [.bool]
abbrev G160 : Type := Args [.v poly] → Option R160
abbrev kp160 : List (Nat × List Nat) := [(0, [1]), (1, [15, 1]), (2, [2]), (3, [1, 19, 17, 18]), (4, [20, 18, 17, 1, 19]), (5, [3, 18, 17, 1, 19, 4]), (6, [56, 18, 17, 1, 19, 4]), (7, [2]), (8, [5, 4, 19, 1, 17, 18]), (9, [60, 18, 17, 1, 19, 4, 5]), (11, [67, 18, 17, 1, 19, 4, 5]), (12, [2]), (10, [5, 4, 19, 1, 17, 18]), (13, [1, 19, 17, 18]), (14, [2])]
abbrev ct160 (g86 : G86) (g87 : G87) (g151 : G151) (g159 : G159) : CTab := [(86, ⟨[.v i64], [.bool], false, false, 0, g86⟩), (87, ⟨[.v i64], [.bool], false, false, 0, g87⟩), (151, ⟨[.v ex, .v ex], [i64], false, false, 0, g151⟩), (159, ⟨[.v ex], [i64], false, false, 0, g159⟩)]
abbrev kr160 : Env → Option R160 := endK TT [.tmp 2] [.bool] false false
abbrev sh160_9 : Shape := [(1, .box false [.fz i64 0 false, .fz i64 0 false, .fz (.slice 135 term) 0 true]), (4, .box false [.fz ex 0 false, .fz i64 0 false]), (5, vv i64), (17, .val false [.fz (.slice 135 term) 0 true]), (18, vv i64), (19, vv i64)]
def st160_9 (g86 : G86) (g87 : G87) (g151 : G151) (g159 : G159) (F : Nat) (s : ShVal sh160_9) (k kx : ShVal sh160_9 → Option R160) : Option R160 :=
  match s with
  | ((t1_0, t1_1, t1_2, _), (t4_0, t4_1, _), (t5, _), (t17, _), (t18, _), (t19, _), _) => (bif decide (t5 < (3 : Int)) then (bif ib t5 (Int.ofNat 3) then (bif (!decide ((tget (0 : Int) 3 t4_0 (tn t5)) = (0 : Int))) then (some (false, ())) else k ((t1_0, (t1_1, (t1_2, ()))), ((t4_0, (t4_1, ())), (((w6 (t5 + (1 : Int))), ()), ((t17, ()), ((t18, ()), ((t19, ()), ()))))))) else none) else kx ((t1_0, (t1_1, (t1_2, ()))), ((t4_0, (t4_1, ())), ((t5, ()), ((t17, ()), ((t18, ()), ((t19, ()), ())))))))
def ru160_9 (g86 : G86) (g87 : G87) (g151 : G151) (g159 : G159) (F : Nat) (s : ShVal sh160_9) (kx : ShVal sh160_9 → Option R160) : Option R160 := iter (fun s k => st160_9 g86 g87 g151 g159 F s k kx) F s
abbrev ls160_9 (g86 : G86) (g87 : G87) (g151 : G151) (g159 : G159) (F : Nat) : LS R160 := ⟨sh160_9, 2, ru160_9 g86 g87 g151 g159 F⟩
abbrev sh160_4 : Shape := [(1, .box false [.fz i64 0 false, .fz i64 0 false, .fz (.slice 135 term) 0 true]), (17, .val false [.fz (.slice 135 term) 0 true]), (18, vv i64), (19, vv i64)]
def st160_4 (g86 : G86) (g87 : G87) (g151 : G151) (g159 : G159) (F : Nat) (s : ShVal sh160_4) (k kx : ShVal sh160_4 → Option R160) : Option R160 :=
  match s with
  | ((t1_0, t1_1, t1_2, _), (t17, _), (t18, _), (t19, _), _) => (bif decide (t19 < t18) then (bif ib t19 (Int.ofNat (List.length t17)) then (match (g159 ((List.getD t17 (tn t19) (Ty.dflt (.pair (.arr 3 (.int .u8)) (.pair (.int .i64) .unit)))).1, ())) with | some r19 => (bif decide ((12 : Int) < r19.1) then (some (false, ())) else (bif (bif false then true else decide ((List.getD t17 (tn t19) (Ty.dflt (.pair (.arr 3 (.int .u8)) (.pair (.int .i64) .unit)))).2.1 < (1 : Int))) then (some (false, ())) else (bif (bif false then true else decide (t1_0 ≤ (List.getD t17 (tn t19) (Ty.dflt (.pair (.arr 3 (.int .u8)) (.pair (.int .i64) .unit)))).2.1)) then (some (false, ())) else (bif decide ((0 : Int) < t19) then (bif ib (w6 (t19 - (1 : Int))) (Int.ofNat (List.length t1_2)) then (match (g151 ((List.getD t1_2 (tn (w6 (t19 - (1 : Int)))) (Ty.dflt (.pair (.arr 3 (.int .u8)) (.pair (.int .i64) .unit)))).1, ((List.getD t17 (tn t19) (Ty.dflt (.pair (.arr 3 (.int .u8)) (.pair (.int .i64) .unit)))).1, ()))) with | some r20 => (bif (bif false then true else (bif true then decide ((0 : Int) ≤ r20.1) else false)) then (some (false, ())) else (ru160_9 g86 g87 g151 g159 F ((t1_0, (t1_1, (t1_2, ()))), (((List.getD t17 (tn t19) (Ty.dflt (.pair (.arr 3 (.int .u8)) (.pair (.int .i64) .unit)))).1, ((List.getD t17 (tn t19) (Ty.dflt (.pair (.arr 3 (.int .u8)) (.pair (.int .i64) .unit)))).2.1, ())), ((t1_1, ()), ((t17, ()), ((t18, ()), ((t19, ()), ())))))) (fun s' => match s' with | ((t1_0, t1_1, t1_2, _), (t4_0, t4_1, _), (t5, _), (t17, _), (t18, _), (t19, _), _) => k ((t1_0, (t1_1, (t1_2, ()))), ((t17, ()), ((t18, ()), (((w6 (t19 + (1 : Int))), ()), ()))))))) | none => none) else none) else (bif (bif false then true else false) then (some (false, ())) else (ru160_9 g86 g87 g151 g159 F ((t1_0, (t1_1, (t1_2, ()))), (((List.getD t17 (tn t19) (Ty.dflt (.pair (.arr 3 (.int .u8)) (.pair (.int .i64) .unit)))).1, ((List.getD t17 (tn t19) (Ty.dflt (.pair (.arr 3 (.int .u8)) (.pair (.int .i64) .unit)))).2.1, ())), ((t1_1, ()), ((t17, ()), ((t18, ()), ((t19, ()), ())))))) (fun s' => match s' with | ((t1_0, t1_1, t1_2, _), (t4_0, t4_1, _), (t5, _), (t17, _), (t18, _), (t19, _), _) => k ((t1_0, (t1_1, (t1_2, ()))), ((t17, ()), ((t18, ()), (((w6 (t19 + (1 : Int))), ()), ()))))))))))) | none => none) else none) else kx ((t1_0, (t1_1, (t1_2, ()))), ((t17, ()), ((t18, ()), ((t19, ()), ())))))
def ru160_4 (g86 : G86) (g87 : G87) (g151 : G151) (g159 : G159) (F : Nat) (s : ShVal sh160_4) (kx : ShVal sh160_4 → Option R160) : Option R160 := iter (fun s k => st160_4 g86 g87 g151 g159 F s k kx) F s
abbrev ls160_4 (g86 : G86) (g87 : G87) (g151 : G151) (g159 : G159) (F : Nat) : LS R160 := ⟨sh160_4, 0, ru160_4 g86 g87 g151 g159 F⟩
def fn160 (g86 : G86) (g87 : G87) (g151 : G151) (g159 : G159) (F : Nat) (x : Args [.v poly]) : Option R160 :=
  match x with
  | (x0, _) => (match (g86 (x0.1, ())) with | some r7 => (bif (!r7.1) then (some (false, ())) else (match (g87 (x0.2.1, ())) with | some r8 => (bif (bif false then true else (!r8.1)) then (some (false, ())) else (bif decide ((List.length x0.2.2.1) ≤ 9223372036854775807) then (ru160_4 g86 g87 g151 g159 F ((x0.1, (x0.2.1, (x0.2.2.1, ()))), ((x0.2.2.1, ()), (((Int.ofNat (List.length x0.2.2.1)), ()), (((0 : Int), ()), ())))) (fun s' => match s' with | ((t1_0, t1_1, t1_2, _), (t17, _), (t18, _), (t19, _), _) => (some (true, ())))) else none)) | none => none)) | none => none)
theorem ev160_9 (g86 : G86) (g87 : G87) (g151 : G151) (g159 : G159) (F : Nat) (s : ShVal sh160_9) (k kx : ShVal sh160_9 → Option R160) : evL TT (ct160 g86 g87 g151 g159 ) kp160 [] (loopOf Try.f160 9) (envOf sh160_9 s) (fitK sh160_9 k) (fun j e => bif Nat.beq j 2 then fitK sh160_9 kx e else none) kr160 = st160_9 g86 g87 g151 g159 F s k kx := by
  obtain ⟨⟨t1_0, t1_1, t1_2, _⟩, ⟨t4_0, t4_1, _⟩, ⟨t5, _⟩, ⟨t17, _⟩, ⟨t18, _⟩, ⟨t19, _⟩, _⟩ := s
  kernel_rfl
theorem ok160_9 (g86 : G86) (g87 : G87) (g151 : G151) (g159 : G159) (F : Nat) (hK : KOK Try.prog (ct160 g86 g87 g151 g159 )) : LSOK Try.prog ⟨69, false, undef⟩ (ls160_9 g86 g87 g151 g159 F) (loopOf Try.f160 9) kr160 :=
  loop_ok (st160_9 g86 g87 g151 g159 F) mixed tt_ok hK (by kernel_rfl) (LTOK_by (l := []) (by kernel_rfl) trivial) (ev160_9 g86 g87 g151 g159 F)
theorem ev160_4 (g86 : G86) (g87 : G87) (g151 : G151) (g159 : G159) (F : Nat) (s : ShVal sh160_4) (k kx : ShVal sh160_4 → Option R160) : evL TT (ct160 g86 g87 g151 g159 ) kp160 [(9, ls160_9 g86 g87 g151 g159 F)] (loopOf Try.f160 4) (envOf sh160_4 s) (fitK sh160_4 k) (fun j e => bif Nat.beq j 0 then fitK sh160_4 kx e else none) kr160 = st160_4 g86 g87 g151 g159 F s k kx := by
  obtain ⟨⟨t1_0, t1_1, t1_2, _⟩, ⟨t17, _⟩, ⟨t18, _⟩, ⟨t19, _⟩, _⟩ := s
  kernel_rfl
theorem ok160_4 (g86 : G86) (g87 : G87) (g151 : G151) (g159 : G159) (F : Nat) (hK : KOK Try.prog (ct160 g86 g87 g151 g159 )) : LSOK Try.prog ⟨69, false, undef⟩ (ls160_4 g86 g87 g151 g159 F) (loopOf Try.f160 4) kr160 :=
  loop_ok (st160_4 g86 g87 g151 g159 F) mixed tt_ok hK (by kernel_rfl) (LTOK_by (l := [loopOf Try.f160 9]) (by kernel_rfl) ⟨ls_at (by kernel_rfl) (ok160_9 g86 g87 g151 g159 F hK), trivial⟩) (ev160_4 g86 g87 g151 g159 F)
theorem ev160 (g86 : G86) (g87 : G87) (g151 : G151) (g159 : G159) (F : Nat) (x : Args [.v poly]) : fnK TT (ct160 g86 g87 g151 g159 ) kp160 [.bool] [(4, ls160_4 g86 g87 g151 g159 F)] (bodyOf Try.f160) [.tmp 2] [.v poly] false false x = fn160 g86 g87 g151 g159 F x := by
  obtain ⟨x0, _⟩ := x
  kernel_rfl
theorem ok160 (g86 : G86) (g87 : G87) (g151 : G151) (g159 : G159) (hK : KOK Try.prog (ct160 g86 g87 g151 g159 )) (cf : G160) (h : ∀ x y, cf x = some y → ∃ F, fn160 g86 g87 g151 g159 F x = some y) : KOne Try.prog 160 ⟨[.v poly], [.bool], false, false, 0, cf⟩ :=
  fn_one rfl (c := bodyOf Try.f160) mixed tt_ok hK Try.func160 (by kernel_rfl) (by kernel_rfl) (Nat.le_of_ble_eq_true (by kernel_rfl)) (by decide) fun x y hxy => by
    obtain ⟨F, hF⟩ := h x y hxy
    exact ⟨[(4, ls160_4 g86 g87 g151 g159 F)], LTOK_by (l := [loopOf Try.f160 4]) (by kernel_rfl) ⟨ls_at (by kernel_rfl) (ok160_4 g86 g87 g151 g159 F hK), trivial⟩, (ev160 g86 g87 g151 g159 F x).trans hF⟩
/-! impl.arePolys -/
abbrev R122 : Type := Ress [.bool]
abbrev G122 : Type := Args [.v (.slice 58 poly)] → Option R122
abbrev kp122 : List (Nat × List Nat) := [(0, [0]), (1, [7, 5, 6]), (2, [8, 6, 5, 7]), (3, [4, 6, 5, 7]), (4, [13, 6, 5, 7]), (5, [2]), (6, [7, 5, 6]), (7, [2])]
abbrev ct122 (g160 : G160) : CTab := [(160, ⟨[.v poly], [.bool], false, false, 0, g160⟩)]
abbrev kr122 : Env → Option R122 := endK TT [.tmp 2] [.bool] false false
abbrev sh122_2 : Shape := [(5, .val false [.fz (.slice 58 poly) 0 true]), (6, vv i64), (7, vv i64)]
def st122_2 (g160 : G160) (F : Nat) (s : ShVal sh122_2) (k kx : ShVal sh122_2 → Option R122) : Option R122 :=
  match s with
  | ((t5, _), (t6, _), (t7, _), _) => (bif decide (t7 < t6) then (bif ib t7 (Int.ofNat (List.length t5)) then (match (g160 (((List.getD t5 (tn t7) (Ty.dflt (.pair (.int .i64) (.pair (.int .i64) (.pair (.slice 135 (.pair (.arr 3 (.int .u8)) (.pair (.int .i64) .unit))) .unit))))).1, ((List.getD t5 (tn t7) (Ty.dflt (.pair (.int .i64) (.pair (.int .i64) (.pair (.slice 135 (.pair (.arr 3 (.int .u8)) (.pair (.int .i64) .unit))) .unit))))).2.1, ((List.getD t5 (tn t7) (Ty.dflt (.pair (.int .i64) (.pair (.int .i64) (.pair (.slice 135 (.pair (.arr 3 (.int .u8)) (.pair (.int .i64) .unit))) .unit))))).2.2.1, ()))), ())) with | some r10 => (bif (!r10.1) then (some (false, ())) else k ((t5, ()), ((t6, ()), (((w6 (t7 + (1 : Int))), ()), ())))) | none => none) else none) else kx ((t5, ()), ((t6, ()), ((t7, ()), ()))))
def ru122_2 (g160 : G160) (F : Nat) (s : ShVal sh122_2) (kx : ShVal sh122_2 → Option R122) : Option R122 := iter (fun s k => st122_2 g160 F s k kx) F s
abbrev ls122_2 (g160 : G160) (F : Nat) : LS R122 := ⟨sh122_2, 0, ru122_2 g160 F⟩
def fn122 (g160 : G160) (F : Nat) (x : Args [.v (.slice 58 poly)]) : Option R122 :=
  match x with
  | (x0, _) => (bif decide ((List.length x0) ≤ 9223372036854775807) then (ru122_2 g160 F ((x0, ()), (((Int.ofNat (List.length x0)), ()), (((0 : Int), ()), ()))) (fun s' => match s' with | ((t5, _), (t6, _), (t7, _), _) => (some (true, ())))) else none)
theorem ev122_2 (g160 : G160) (F : Nat) (s : ShVal sh122_2) (k kx : ShVal sh122_2 → Option R122) : evL TT (ct122 g160 ) kp122 [] (loopOf Try.f122 2) (envOf sh122_2 s) (fitK sh122_2 k) (fun j e => bif Nat.beq j 0 then fitK sh122_2 kx e else none) kr122 = st122_2 g160 F s k kx := by
  obtain ⟨⟨t5, _⟩, ⟨t6, _⟩, ⟨t7, _⟩, _⟩ := s
  kernel_rfl
theorem ok122_2 (g160 : G160) (F : Nat) (hK : KOK Try.prog (ct122 g160 )) : LSOK Try.prog ⟨15, false, undef⟩ (ls122_2 g160 F) (loopOf Try.f122 2) kr122 :=
  loop_ok (st122_2 g160 F) mixed tt_ok hK (by kernel_rfl) (LTOK_by (l := []) (by kernel_rfl) trivial) (ev122_2 g160 F)
theorem ev122 (g160 : G160) (F : Nat) (x : Args [.v (.slice 58 poly)]) : fnK TT (ct122 g160 ) kp122 [.bool] [(2, ls122_2 g160 F)] (bodyOf Try.f122) [.tmp 2] [.v (.slice 58 poly)] false false x = fn122 g160 F x := by
  obtain ⟨x0, _⟩ := x
  kernel_rfl
theorem ok122 (g160 : G160) (hK : KOK Try.prog (ct122 g160 )) (cf : G122) (h : ∀ x y, cf x = some y → ∃ F, fn122 g160 F x = some y) : KOne Try.prog 122 ⟨[.v (.slice 58 poly)], [.bool], false, false, 0, cf⟩ :=
  fn_one rfl (c := bodyOf Try.f122) mixed tt_ok hK Try.func122 (by kernel_rfl) (by kernel_rfl) (Nat.le_of_ble_eq_true (by kernel_rfl)) (by decide) fun x y hxy => by
    obtain ⟨F, hF⟩ := h x y hxy
    exact ⟨[(2, ls122_2 g160 F)], LTOK_by (l := [loopOf Try.f122 2]) (by kernel_rfl) ⟨ls_at (by kernel_rfl) (ok122_2 g160 F hK), trivial⟩, (ev122 g160 F x).trans hF⟩
/-! impl.isList -/
abbrev R137 : Type := Ress [.bool]
abbrev G137 : Type := Args [.v (.slice 58 poly)] → Option R137
abbrev kp137 : List (Nat × List Nat) := [(0, [0]), (1, [7, 0, 5, 6]), (2, [8, 6, 5, 0, 7]), (3, [4, 6, 5, 0, 7]), (4, [26, 6, 5, 0, 7]), (5, [2]), (6, [7, 0, 5, 6]), (7, [2])]
abbrev ct137 (g123 : G123) (g169 : G169) (g117 : G117) : CTab := [(123, ⟨[.v poly, .v poly], [.bool], false, false, 0, g123⟩), (169, ⟨[.v poly], [.bool], false, false, 0, g169⟩), (117, ⟨[.v poly], [i64], false, false, 0, g117⟩)]
abbrev kr137 : Env → Option R137 := endK TT [.tmp 2] [.bool] false false
abbrev sh137_2 : Shape := [(0, .val false [.fz (.slice 58 poly) 0 true]), (5, .val false [.fz (.slice 58 poly) 0 true]), (6, vv i64), (7, vv i64)]
def st137_2 (g123 : G123) (g169 : G169) (g117 : G117) (F : Nat) (s : ShVal sh137_2) (k kx : ShVal sh137_2 → Option R137) : Option R137 :=
  match s with
  | ((t0, _), (t5, _), (t6, _), (t7, _), _) => (bif decide (t7 < t6) then (bif ib t7 (Int.ofNat (List.length t5)) then (bif ib (0 : Int) (Int.ofNat (List.length t0)) then (match (g123 (((List.getD t5 (tn t7) (Ty.dflt (.pair (.int .i64) (.pair (.int .i64) (.pair (.slice 135 (.pair (.arr 3 (.int .u8)) (.pair (.int .i64) .unit))) .unit))))).1, ((List.getD t5 (tn t7) (Ty.dflt (.pair (.int .i64) (.pair (.int .i64) (.pair (.slice 135 (.pair (.arr 3 (.int .u8)) (.pair (.int .i64) .unit))) .unit))))).2.1, ((List.getD t5 (tn t7) (Ty.dflt (.pair (.int .i64) (.pair (.int .i64) (.pair (.slice 135 (.pair (.arr 3 (.int .u8)) (.pair (.int .i64) .unit))) .unit))))).2.2.1, ()))), ((List.getD t0 (tn (0 : Int)) (Ty.dflt (.pair (.int .i64) (.pair (.int .i64) (.pair (.slice 135 (.pair (.arr 3 (.int .u8)) (.pair (.int .i64) .unit))) .unit))))), ()))) with | some r13 => (bif (!r13.1) then (some (false, ())) else (match (g169 (((List.getD t5 (tn t7) (Ty.dflt (.pair (.int .i64) (.pair (.int .i64) (.pair (.slice 135 (.pair (.arr 3 (.int .u8)) (.pair (.int .i64) .unit))) .unit))))).1, ((List.getD t5 (tn t7) (Ty.dflt (.pair (.int .i64) (.pair (.int .i64) (.pair (.slice 135 (.pair (.arr 3 (.int .u8)) (.pair (.int .i64) .unit))) .unit))))).2.1, ((List.getD t5 (tn t7) (Ty.dflt (.pair (.int .i64) (.pair (.int .i64) (.pair (.slice 135 (.pair (.arr 3 (.int .u8)) (.pair (.int .i64) .unit))) .unit))))).2.2.1, ()))), ())) with | some r14 => (bif (bif false then true else (!r14.1)) then (some (false, ())) else (match (g117 (((List.getD t5 (tn t7) (Ty.dflt (.pair (.int .i64) (.pair (.int .i64) (.pair (.slice 135 (.pair (.arr 3 (.int .u8)) (.pair (.int .i64) .unit))) .unit))))).1, ((List.getD t5 (tn t7) (Ty.dflt (.pair (.int .i64) (.pair (.int .i64) (.pair (.slice 135 (.pair (.arr 3 (.int .u8)) (.pair (.int .i64) .unit))) .unit))))).2.1, ((List.getD t5 (tn t7) (Ty.dflt (.pair (.int .i64) (.pair (.int .i64) (.pair (.slice 135 (.pair (.arr 3 (.int .u8)) (.pair (.int .i64) .unit))) .unit))))).2.2.1, ()))), ())) with | some r15 => (bif (bif false then true else decide (r15.1 < (1 : Int))) then (some (false, ())) else k ((t0, ()), ((t5, ()), ((t6, ()), (((w6 (t7 + (1 : Int))), ()), ()))))) | none => none)) | none => none)) | none => none) else none) else none) else kx ((t0, ()), ((t5, ()), ((t6, ()), ((t7, ()), ())))))
def ru137_2 (g123 : G123) (g169 : G169) (g117 : G117) (F : Nat) (s : ShVal sh137_2) (kx : ShVal sh137_2 → Option R137) : Option R137 := iter (fun s k => st137_2 g123 g169 g117 F s k kx) F s
abbrev ls137_2 (g123 : G123) (g169 : G169) (g117 : G117) (F : Nat) : LS R137 := ⟨sh137_2, 0, ru137_2 g123 g169 g117 F⟩
def fn137 (g123 : G123) (g169 : G169) (g117 : G117) (F : Nat) (x : Args [.v (.slice 58 poly)]) : Option R137 :=
  match x with
  | (x0, _) => (bif decide ((List.length x0) ≤ 9223372036854775807) then (ru137_2 g123 g169 g117 F ((x0, ()), ((x0, ()), (((Int.ofNat (List.length x0)), ()), (((0 : Int), ()), ())))) (fun s' => match s' with | ((t0, _), (t5, _), (t6, _), (t7, _), _) => (bif decide ((List.length t0) ≤ 9223372036854775807) then (some (decide ((Int.ofNat (List.length t0)) ≤ (8 : Int)), ())) else none))) else none)
theorem ev137_2 (g123 : G123) (g169 : G169) (g117 : G117) (F : Nat) (s : ShVal sh137_2) (k kx : ShVal sh137_2 → Option R137) : evL TT (ct137 g123 g169 g117 ) kp137 [] (loopOf Try.f137 2) (envOf sh137_2 s) (fitK sh137_2 k) (fun j e => bif Nat.beq j 0 then fitK sh137_2 kx e else none) kr137 = st137_2 g123 g169 g117 F s k kx := by
  obtain ⟨⟨t0, _⟩, ⟨t5, _⟩, ⟨t6, _⟩, ⟨t7, _⟩, _⟩ := s
  kernel_rfl
theorem ok137_2 (g123 : G123) (g169 : G169) (g117 : G117) (F : Nat) (hK : KOK Try.prog (ct137 g123 g169 g117 )) : LSOK Try.prog ⟨31, false, undef⟩ (ls137_2 g123 g169 g117 F) (loopOf Try.f137 2) kr137 :=
  loop_ok (st137_2 g123 g169 g117 F) mixed tt_ok hK (by kernel_rfl) (LTOK_by (l := []) (by kernel_rfl) trivial) (ev137_2 g123 g169 g117 F)
theorem ev137 (g123 : G123) (g169 : G169) (g117 : G117) (F : Nat) (x : Args [.v (.slice 58 poly)]) : fnK TT (ct137 g123 g169 g117 ) kp137 [.bool] [(2, ls137_2 g123 g169 g117 F)] (bodyOf Try.f137) [.tmp 2] [.v (.slice 58 poly)] false false x = fn137 g123 g169 g117 F x := by
  obtain ⟨x0, _⟩ := x
  kernel_rfl
theorem ok137 (g123 : G123) (g169 : G169) (g117 : G117) (hK : KOK Try.prog (ct137 g123 g169 g117 )) (cf : G137) (h : ∀ x y, cf x = some y → ∃ F, fn137 g123 g169 g117 F x = some y) : KOne Try.prog 137 ⟨[.v (.slice 58 poly)], [.bool], false, false, 0, cf⟩ :=
  fn_one rfl (c := bodyOf Try.f137) mixed tt_ok hK Try.func137 (by kernel_rfl) (by kernel_rfl) (Nat.le_of_ble_eq_true (by kernel_rfl)) (by decide) fun x y hxy => by
    obtain ⟨F, hF⟩ := h x y hxy
    exact ⟨[(2, ls137_2 g123 g169 g117 F)], LTOK_by (l := [loopOf Try.f137 2]) (by kernel_rfl) ⟨ls_at (by kernel_rfl) (ok137_2 g123 g169 g117 F hK), trivial⟩, (ev137 g123 g169 g117 F x).trans hF⟩
/-! impl.listCode -/
abbrev R67 : Type := Ress [i64]
abbrev G67 : Type := Args [.v (.slice 58 poly)] → Option R67
abbrev kp67 : List (Nat × List Nat) := [(0, [0]), (1, [3, 0]), (3, [7]), (4, [2]), (2, [2]), (5, [2])]
abbrev ct67 (g122 : G122) (g137 : G137) : CTab := [(122, ⟨[.v (.slice 58 poly)], [.bool], false, false, 0, g122⟩), (137, ⟨[.v (.slice 58 poly)], [.bool], false, false, 0, g137⟩)]
abbrev kr67 : Env → Option R67 := endK TT [.tmp 2] [i64] false false
def fn67 (g122 : G122) (g137 : G137) (F : Nat) (x : Args [.v (.slice 58 poly)]) : Option R67 :=
  match x with
  | (x0, _) => (match (g122 (x0, ())) with | some r5 => (bif (!r5.1) then (some ((1 : Int), ())) else (bif decide ((List.length x0) ≤ 9223372036854775807) then (bif decide ((Int.ofNat (List.length x0)) = (0 : Int)) then (some ((2 : Int), ())) else (match (g137 (x0, ())) with | some r7 => (bif (bif false then true else (!r7.1)) then (some ((2 : Int), ())) else (some ((0 : Int), ()))) | none => none)) else none)) | none => none)
theorem ev67 (g122 : G122) (g137 : G137) (F : Nat) (x : Args [.v (.slice 58 poly)]) : fnK TT (ct67 g122 g137 ) kp67 [i64] [] (bodyOf Try.f67) [.tmp 2] [.v (.slice 58 poly)] false false x = fn67 g122 g137 F x := by
  obtain ⟨x0, _⟩ := x
  kernel_rfl
theorem ok67 (g122 : G122) (g137 : G137) (hK : KOK Try.prog (ct67 g122 g137 )) (cf : G67) (h : ∀ x y, cf x = some y → ∃ F, fn67 g122 g137 F x = some y) : KOne Try.prog 67 ⟨[.v (.slice 58 poly)], [i64], false, false, 0, cf⟩ :=
  fn_one rfl (c := bodyOf Try.f67) mixed tt_ok hK Try.func67 (by kernel_rfl) (by kernel_rfl) (Nat.le_of_ble_eq_true (by kernel_rfl)) (by decide) fun x y hxy => by
    obtain ⟨F, hF⟩ := h x y hxy
    exact ⟨[], LTOK_by (l := []) (by kernel_rfl) trivial, (ev67 g122 g137 F x).trans hF⟩
/-! spec.l05List -/
abbrev R135 : Type := Ress [i64]
abbrev G135 : Type := Args [.v (.slice 58 poly)] → Option R135
abbrev kp135 : List (Nat × List Nat) := [(0, [0]), (1, [3, 0]), (2, [8, 0, 3]), (4, [16, 0, 3]), (5, [2]), (3, [3, 0]), (6, [19, 0]), (7, [2]), (8, [4, 0]), (9, [23, 0, 4]), (11, [63, 0, 4]), (12, [2]), (10, [4, 0]), (13, [2])]
abbrev ct135 (g119 : G119) (g115 : G115) (g167 : G167) : CTab := [(119, ⟨[.v poly], [.bool], false, false, 0, g119⟩), (115, ⟨[.v poly], [i64], false, false, 0, g115⟩), (167, ⟨[.v poly], [.bool], false, false, 0, g167⟩)]
abbrev kr135 : Env → Option R135 := endK TT [.tmp 2] [i64] false false
abbrev sh135_2 : Shape := [(0, .val false [.fz (.slice 58 poly) 0 true]), (3, vv i64)]
def st135_2 (g119 : G119) (g115 : G115) (g167 : G167) (F : Nat) (s : ShVal sh135_2) (k kx : ShVal sh135_2 → Option R135) : Option R135 :=
  match s with
  | ((t0, _), (t3, _), _) => (bif decide ((List.length t0) ≤ 9223372036854775807) then (bif decide (t3 < (Int.ofNat (List.length t0))) then (bif ib t3 (Int.ofNat (List.length t0)) then (match (g119 ((List.getD t0 (tn t3) (Ty.dflt (.pair (.int .i64) (.pair (.int .i64) (.pair (.slice 135 (.pair (.arr 3 (.int .u8)) (.pair (.int .i64) .unit))) .unit))))), ())) with | some r10 => (bif (!r10.1) then (some ((1 : Int), ())) else k ((t0, ()), (((w6 (t3 + (1 : Int))), ()), ()))) | none => none) else none) else kx ((t0, ()), ((t3, ()), ()))) else none)
def ru135_2 (g119 : G119) (g115 : G115) (g167 : G167) (F : Nat) (s : ShVal sh135_2) (kx : ShVal sh135_2 → Option R135) : Option R135 := iter (fun s k => st135_2 g119 g115 g167 F s k kx) F s
abbrev ls135_2 (g119 : G119) (g115 : G115) (g167 : G167) (F : Nat) : LS R135 := ⟨sh135_2, 0, ru135_2 g119 g115 g167 F⟩
abbrev sh135_9 : Shape := [(0, .val false [.fz (.slice 58 poly) 0 true]), (4, vv i64)]
def st135_9 (g119 : G119) (g115 : G115) (g167 : G167) (F : Nat) (s : ShVal sh135_9) (k kx : ShVal sh135_9 → Option R135) : Option R135 :=
  match s with
  | ((t0, _), (t4, _), _) => (bif decide ((List.length t0) ≤ 9223372036854775807) then (bif decide (t4 < (Int.ofNat (List.length t0))) then (bif ib t4 (Int.ofNat (List.length t0)) then (bif ib (0 : Int) (Int.ofNat (List.length t0)) then (bif (!decide ((List.getD t0 (tn t4) (Ty.dflt (.pair (.int .i64) (.pair (.int .i64) (.pair (.slice 135 (.pair (.arr 3 (.int .u8)) (.pair (.int .i64) .unit))) .unit))))).1 = (List.getD t0 (tn (0 : Int)) (Ty.dflt (.pair (.int .i64) (.pair (.int .i64) (.pair (.slice 135 (.pair (.arr 3 (.int .u8)) (.pair (.int .i64) .unit))) .unit))))).1)) then (some ((2 : Int), ())) else (bif ib t4 (Int.ofNat (List.length t0)) then (bif ib (0 : Int) (Int.ofNat (List.length t0)) then (bif (bif false then true else (!decide ((List.getD t0 (tn t4) (Ty.dflt (.pair (.int .i64) (.pair (.int .i64) (.pair (.slice 135 (.pair (.arr 3 (.int .u8)) (.pair (.int .i64) .unit))) .unit))))).2.1 = (List.getD t0 (tn (0 : Int)) (Ty.dflt (.pair (.int .i64) (.pair (.int .i64) (.pair (.slice 135 (.pair (.arr 3 (.int .u8)) (.pair (.int .i64) .unit))) .unit))))).2.1))) then (some ((2 : Int), ())) else (bif ib t4 (Int.ofNat (List.length t0)) then (match (g115 ((List.getD t0 (tn t4) (Ty.dflt (.pair (.int .i64) (.pair (.int .i64) (.pair (.slice 135 (.pair (.arr 3 (.int .u8)) (.pair (.int .i64) .unit))) .unit))))), ())) with | some r14 => (bif (bif false then true else decide (r14.1 < (1 : Int))) then (some ((2 : Int), ())) else (bif ib t4 (Int.ofNat (List.length t0)) then (match (g167 ((List.getD t0 (tn t4) (Ty.dflt (.pair (.int .i64) (.pair (.int .i64) (.pair (.slice 135 (.pair (.arr 3 (.int .u8)) (.pair (.int .i64) .unit))) .unit))))), ())) with | some r15 => (bif (bif false then true else (!r15.1)) then (some ((2 : Int), ())) else k ((t0, ()), (((w6 (t4 + (1 : Int))), ()), ()))) | none => none) else none)) | none => none) else none)) else none) else none)) else none) else none) else kx ((t0, ()), ((t4, ()), ()))) else none)
def ru135_9 (g119 : G119) (g115 : G115) (g167 : G167) (F : Nat) (s : ShVal sh135_9) (kx : ShVal sh135_9 → Option R135) : Option R135 := iter (fun s k => st135_9 g119 g115 g167 F s k kx) F s
abbrev ls135_9 (g119 : G119) (g115 : G115) (g167 : G167) (F : Nat) : LS R135 := ⟨sh135_9, 2, ru135_9 g119 g115 g167 F⟩
def fn135 (g119 : G119) (g115 : G115) (g167 : G167) (F : Nat) (x : Args [.v (.slice 58 poly)]) : Option R135 :=
  match x with
  | (x0, _) => (ru135_2 g119 g115 g167 F ((x0, ()), (((0 : Int), ()), ())) (fun s' => match s' with | ((t0, _), (t3, _), _) => (bif decide ((List.length t0) ≤ 9223372036854775807) then (bif decide ((8 : Int) < (Int.ofNat (List.length t0))) then (some ((2 : Int), ())) else (ru135_9 g119 g115 g167 F ((t0, ()), (((0 : Int), ()), ())) (fun s' => match s' with | ((t0, _), (t4, _), _) => (some ((0 : Int), ()))))) else none)))
theorem ev135_2 (g119 : G119) (g115 : G115) (g167 : G167) (F : Nat) (s : ShVal sh135_2) (k kx : ShVal sh135_2 → Option R135) : evL TT (ct135 g119 g115 g167 ) kp135 [] (loopOf Try.f135 2) (envOf sh135_2 s) (fitK sh135_2 k) (fun j e => bif Nat.beq j 0 then fitK sh135_2 kx e else none) kr135 = st135_2 g119 g115 g167 F s k kx := by
  obtain ⟨⟨t0, _⟩, ⟨t3, _⟩, _⟩ := s
  kernel_rfl
theorem ok135_2 (g119 : G119) (g115 : G115) (g167 : G167) (F : Nat) (hK : KOK Try.prog (ct135 g119 g115 g167 )) : LSOK Try.prog ⟨64, false, undef⟩ (ls135_2 g119 g115 g167 F) (loopOf Try.f135 2) kr135 :=
  loop_ok (st135_2 g119 g115 g167 F) mixed tt_ok hK (by kernel_rfl) (LTOK_by (l := []) (by kernel_rfl) trivial) (ev135_2 g119 g115 g167 F)
theorem ev135_9 (g119 : G119) (g115 : G115) (g167 : G167) (F : Nat) (s : ShVal sh135_9) (k kx : ShVal sh135_9 → Option R135) : evL TT (ct135 g119 g115 g167 ) kp135 [] (loopOf Try.f135 9) (envOf sh135_9 s) (fitK sh135_9 k) (fun j e => bif Nat.beq j 2 then fitK sh135_9 kx e else none) kr135 = st135_9 g119 g115 g167 F s k kx := by
  obtain ⟨⟨t0, _⟩, ⟨t4, _⟩, _⟩ := s
  kernel_rfl
theorem ok135_9 (g119 : G119) (g115 : G115) (g167 : G167) (F : Nat) (hK : KOK Try.prog (ct135 g119 g115 g167 )) : LSOK Try.prog ⟨64, false, undef⟩ (ls135_9 g119 g115 g167 F) (loopOf Try.f135 9) kr135 :=
  loop_ok (st135_9 g119 g115 g167 F) mixed tt_ok hK (by kernel_rfl) (LTOK_by (l := []) (by kernel_rfl) trivial) (ev135_9 g119 g115 g167 F)
theorem ev135 (g119 : G119) (g115 : G115) (g167 : G167) (F : Nat) (x : Args [.v (.slice 58 poly)]) : fnK TT (ct135 g119 g115 g167 ) kp135 [i64] [(2, ls135_2 g119 g115 g167 F), (9, ls135_9 g119 g115 g167 F)] (bodyOf Try.f135) [.tmp 2] [.v (.slice 58 poly)] false false x = fn135 g119 g115 g167 F x := by
  obtain ⟨x0, _⟩ := x
  kernel_rfl
theorem ok135 (g119 : G119) (g115 : G115) (g167 : G167) (hK : KOK Try.prog (ct135 g119 g115 g167 )) (cf : G135) (h : ∀ x y, cf x = some y → ∃ F, fn135 g119 g115 g167 F x = some y) : KOne Try.prog 135 ⟨[.v (.slice 58 poly)], [i64], false, false, 0, cf⟩ :=
  fn_one rfl (c := bodyOf Try.f135) mixed tt_ok hK Try.func135 (by kernel_rfl) (by kernel_rfl) (Nat.le_of_ble_eq_true (by kernel_rfl)) (by decide) fun x y hxy => by
    obtain ⟨F, hF⟩ := h x y hxy
    exact ⟨[(2, ls135_2 g119 g115 g167 F), (9, ls135_9 g119 g115 g167 F)], LTOK_by (l := [loopOf Try.f135 2, loopOf Try.f135 9]) (by kernel_rfl) ⟨ls_at (by kernel_rfl) (ok135_2 g119 g115 g167 F hK), ⟨ls_at (by kernel_rfl) (ok135_9 g119 g115 g167 F hK), trivial⟩⟩, (ev135 g119 g115 g167 F x).trans hF⟩
/-! spec.l05Some -/
abbrev R64 : Type := Ress [i64]
abbrev G64 : Type := Args [.v (.slice 58 poly), .v i64] → Option R64
abbrev kp64 : List (Nat × List Nat) := [(0, [0, 1]), (1, [0, 1, 5]), (2, [19, 5]), (3, [5]), (4, [4])]
abbrev ct64 (g135 : G135) (g73 : G73) : CTab := [(135, ⟨[.v (.slice 58 poly)], [i64], false, false, 0, g135⟩), (73, ⟨[.v i64, .v i64, .v i64], [.bool], false, false, 0, g73⟩)]
abbrev kr64 : Env → Option R64 := endK TT [.tmp 4] [i64] false false
def fn64 (g135 : G135) (g73 : G73) (F : Nat) (x : Args [.v (.slice 58 poly), .v i64]) : Option R64 :=
  match x with
  | (x0, x1, _) => (match (g135 (x0, ())) with | some r6 => (bif decide (r6.1 = (0 : Int)) then (bif decide ((List.length x0) ≤ 9223372036854775807) then (bif decide ((Int.ofNat (List.length x0)) = (0 : Int)) then (bif (bif true then true else false) then (some ((2 : Int), ())) else (some (r6.1, ()))) else (match (g73 (x1, ((0 : Int), ((12 : Int), ())))) with | some r8 => (bif (bif true then (bif false then true else (!r8.1)) else false) then (some ((2 : Int), ())) else (some (r6.1, ()))) | none => none)) else none) else (some (r6.1, ()))) | none => none)
theorem ev64 (g135 : G135) (g73 : G73) (F : Nat) (x : Args [.v (.slice 58 poly), .v i64]) : fnK TT (ct64 g135 g73 ) kp64 [i64] [] (bodyOf Try.f64) [.tmp 4] [.v (.slice 58 poly), .v i64] false false x = fn64 g135 g73 F x := by
  obtain ⟨x0, x1, _⟩ := x
  kernel_rfl
theorem ok64 (g135 : G135) (g73 : G73) (hK : KOK Try.prog (ct64 g135 g73 )) (cf : G64) (h : ∀ x y, cf x = some y → ∃ F, fn64 g135 g73 F x = some y) : KOne Try.prog 64 ⟨[.v (.slice 58 poly), .v i64], [i64], false, false, 0, cf⟩ :=
  fn_one rfl (c := bodyOf Try.f64) mixed tt_ok hK Try.func64 (by kernel_rfl) (by kernel_rfl) (Nat.le_of_ble_eq_true (by kernel_rfl)) (by decide) fun x y hxy => by
    obtain ⟨F, hF⟩ := h x y hxy
    exact ⟨[], LTOK_by (l := []) (by kernel_rfl) trivial, (ev64 g135 g73 F x).trans hF⟩
/-! spec.l05Product -/
abbrev R116 : Type := Ress [poly]
abbrev G116 : Type := Args [.v (.slice 58 poly), .v (.slice 2 i64)] → Option R116
abbrev kp116 : List (Nat × List Nat) := [(0, [0, 1, 4]), (1, [0, 5, 1, 4]), (2, [0, 6, 5, 1, 4]), (3, [21, 5, 6, 0, 1, 4]), (5, [7, 5, 6, 0, 1, 4]), (6, [29, 7, 5, 6, 0, 1, 4]), (8, [7, 5, 6, 0, 1, 4]), (7, [7, 5, 6, 0, 1, 4]), (4, [0, 6, 5, 1, 4]), (9, [4])]
abbrev ct116 (g96 : G96) (g99 : G99) : CTab := [(96, ⟨[.v i64, .v i64, .v ex, .v i64], [poly], true, false, 0, g96⟩), (99, ⟨[.v poly, .v poly], [poly, .bool], true, false, 0, g99⟩)]
abbrev kr116 : Env → Option R116 := endK TT [.cell 4 58] [poly] true false
abbrev sh116_6 : Shape := [(0, .val false [.fz (.slice 58 poly) 0 true]), (1, .val false [.fz (.slice 2 i64) 0 true]), (4, .box false [.fz i64 0 false, .fz i64 0 false, .rt 135 term 67 false true true]), (5, .box false [.fz i64 0 false, .fz i64 0 false, .rt 135 term 83 false true false]), (6, vv i64), (7, vv i64)]
def st116_6 (g96 : G96) (g99 : G99) (F : Nat) (s : ShVal sh116_6) (k kx : ShVal sh116_6 → Option R116) : Option R116 :=
  match s with
  | ((t0, _), (t1, _), (t4_0, t4_1, t4_2, _), (t5_0, t5_1, t5_2, _), (t6, _), (t7, _), _) => (bif decide ((0 : Int) < t7) then (bif ib t6 (Int.ofNat (List.length t0)) then (match (g99 ((t5_0, (t5_1, (t5_2, ()))), ((List.getD t0 (tn t6) (Ty.dflt (.pair (.int .i64) (.pair (.int .i64) (.pair (.slice 135 (.pair (.arr 3 (.int .u8)) (.pair (.int .i64) .unit))) .unit))))), ()))) with | some r31 => k ((t0, ()), ((t1, ()), ((t4_0, (t4_1, (t4_2, ()))), ((r31.1.1, (r31.1.2.1, (r31.1.2.2.1, ()))), ((t6, ()), (((w6 (t7 - (1 : Int))), ()), ())))))) | none => none) else none) else kx ((t0, ()), ((t1, ()), ((t4_0, (t4_1, (t4_2, ()))), ((t5_0, (t5_1, (t5_2, ()))), ((t6, ()), ((t7, ()), ())))))))
def ru116_6 (g96 : G96) (g99 : G99) (F : Nat) (s : ShVal sh116_6) (kx : ShVal sh116_6 → Option R116) : Option R116 := iter (fun s k => st116_6 g96 g99 F s k kx) F s
abbrev ls116_6 (g96 : G96) (g99 : G99) (F : Nat) : LS R116 := ⟨sh116_6, 2, ru116_6 g96 g99 F⟩
abbrev sh116_3 : Shape := [(0, .val false [.fz (.slice 58 poly) 0 true]), (1, .val false [.fz (.slice 2 i64) 0 true]), (4, .box false [.fz i64 0 false, .fz i64 0 false, .rt 135 term 67 false true true]), (5, .box false [.fz i64 0 false, .fz i64 0 false, .rt 135 term 83 false true false]), (6, vv i64)]
def st116_3 (g96 : G96) (g99 : G99) (F : Nat) (s : ShVal sh116_3) (k kx : ShVal sh116_3 → Option R116) : Option R116 :=
  match s with
  | ((t0, _), (t1, _), (t4_0, t4_1, t4_2, _), (t5_0, t5_1, t5_2, _), (t6, _), _) => (bif decide ((List.length t0) ≤ 9223372036854775807) then (bif decide (t6 < (Int.ofNat (List.length t0))) then (bif ib t6 (Int.ofNat (List.length t1)) then (ru116_6 g96 g99 F ((t0, ()), ((t1, ()), ((t4_0, (t4_1, (t4_2, ()))), ((t5_0, (t5_1, (t5_2, ()))), ((t6, ()), (((List.getD t1 (tn t6) (0 : Int)), ()), ())))))) (fun s' => match s' with | ((t0, _), (t1, _), (t4_0, t4_1, t4_2, _), (t5_0, t5_1, t5_2, _), (t6, _), (t7, _), _) => k ((t0, ()), ((t1, ()), ((t4_0, (t4_1, (t4_2, ()))), ((t5_0, (t5_1, (t5_2, ()))), (((w6 (t6 + (1 : Int))), ()), ()))))))) else none) else kx ((t0, ()), ((t1, ()), ((t4_0, (t4_1, (t4_2, ()))), ((t5_0, (t5_1, (t5_2, ()))), ((t6, ()), ())))))) else none)
def ru116_3 (g96 : G96) (g99 : G99) (F : Nat) (s : ShVal sh116_3) (kx : ShVal sh116_3 → Option R116) : Option R116 := iter (fun s k => st116_3 g96 g99 F s k kx) F s
abbrev ls116_3 (g96 : G96) (g99 : G99) (F : Nat) : LS R116 := ⟨sh116_3, 0, ru116_3 g96 g99 F⟩
def fn116 (g96 : G96) (g99 : G99) (F : Nat) (x : Args [.v (.slice 58 poly), .v (.slice 2 i64)]) : Option R116 :=
  match x with
  | (x0, x1, _) => (bif ib (0 : Int) (Int.ofNat (List.length x0)) then (bif ib (0 : Int) (Int.ofNat (List.length x0)) then (match (g96 ((List.getD x0 (tn (0 : Int)) (Ty.dflt (.pair (.int .i64) (.pair (.int .i64) (.pair (.slice 135 (.pair (.arr 3 (.int .u8)) (.pair (.int .i64) .unit))) .unit))))).1, ((List.getD x0 (tn (0 : Int)) (Ty.dflt (.pair (.int .i64) (.pair (.int .i64) (.pair (.slice 135 (.pair (.arr 3 (.int .u8)) (.pair (.int .i64) .unit))) .unit))))).2.1, ((tup Int (0 : Int) 3), ((1 : Int), ()))))) with | some r6 => (ru116_3 g96 g99 F ((x0, ()), ((x1, ()), (((Ty.dflt (.pair (.int .i64) (.pair (.int .i64) (.pair (.slice 135 (.pair (.arr 3 (.int .u8)) (.pair (.int .i64) .unit))) .unit)))).1, ((Ty.dflt (.pair (.int .i64) (.pair (.int .i64) (.pair (.slice 135 (.pair (.arr 3 (.int .u8)) (.pair (.int .i64) .unit))) .unit)))).2.1, ((Ty.dflt (.pair (.int .i64) (.pair (.int .i64) (.pair (.slice 135 (.pair (.arr 3 (.int .u8)) (.pair (.int .i64) .unit))) .unit)))).2.2.1, ()))), ((r6.1.1, (r6.1.2.1, (r6.1.2.2.1, ()))), (((0 : Int), ()), ()))))) (fun s' => match s' with | ((t0, _), (t1, _), (t4_0, t4_1, t4_2, _), (t5_0, t5_1, t5_2, _), (t6, _), _) => (some ((t5_0, (t5_1, (t5_2, ()))), ())))) | none => none) else none) else none)
theorem ev116_6 (g96 : G96) (g99 : G99) (F : Nat) (s : ShVal sh116_6) (k kx : ShVal sh116_6 → Option R116) : evL TT (ct116 g96 g99 ) kp116 [] (loopOf Try.f116 6) (envOf sh116_6 s) (fitK sh116_6 k) (fun j e => bif Nat.beq j 2 then fitK sh116_6 kx e else none) kr116 = st116_6 g96 g99 F s k kx := by
  obtain ⟨⟨t0, _⟩, ⟨t1, _⟩, ⟨t4_0, t4_1, t4_2, _⟩, ⟨t5_0, t5_1, t5_2, _⟩, ⟨t6, _⟩, ⟨t7, _⟩, _⟩ := s
  kernel_rfl
theorem ok116_6 (g96 : G96) (g99 : G99) (F : Nat) (hK : KOK Try.prog (ct116 g96 g99 )) : LSOK Try.prog ⟨42, false, undef⟩ (ls116_6 g96 g99 F) (loopOf Try.f116 6) kr116 :=
  loop_ok (st116_6 g96 g99 F) mixed tt_ok hK (by kernel_rfl) (LTOK_by (l := []) (by kernel_rfl) trivial) (ev116_6 g96 g99 F)
theorem ev116_3 (g96 : G96) (g99 : G99) (F : Nat) (s : ShVal sh116_3) (k kx : ShVal sh116_3 → Option R116) : evL TT (ct116 g96 g99 ) kp116 [(6, ls116_6 g96 g99 F)] (loopOf Try.f116 3) (envOf sh116_3 s) (fitK sh116_3 k) (fun j e => bif Nat.beq j 0 then fitK sh116_3 kx e else none) kr116 = st116_3 g96 g99 F s k kx := by
  obtain ⟨⟨t0, _⟩, ⟨t1, _⟩, ⟨t4_0, t4_1, t4_2, _⟩, ⟨t5_0, t5_1, t5_2, _⟩, ⟨t6, _⟩, _⟩ := s
  kernel_rfl
theorem ok116_3 (g96 : G96) (g99 : G99) (F : Nat) (hK : KOK Try.prog (ct116 g96 g99 )) : LSOK Try.prog ⟨42, false, undef⟩ (ls116_3 g96 g99 F) (loopOf Try.f116 3) kr116 :=
  loop_ok (st116_3 g96 g99 F) mixed tt_ok hK (by kernel_rfl) (LTOK_by (l := [loopOf Try.f116 6]) (by kernel_rfl) ⟨ls_at (by kernel_rfl) (ok116_6 g96 g99 F hK), trivial⟩) (ev116_3 g96 g99 F)
theorem ev116 (g96 : G96) (g99 : G99) (F : Nat) (x : Args [.v (.slice 58 poly), .v (.slice 2 i64)]) : fnK TT (ct116 g96 g99 ) kp116 [poly] [(3, ls116_3 g96 g99 F)] (bodyOf Try.f116) [.cell 4 58] [.v (.slice 58 poly), .v (.slice 2 i64)] true false x = fn116 g96 g99 F x := by
  obtain ⟨x0, x1, _⟩ := x
  kernel_rfl
theorem ok116 (g96 : G96) (g99 : G99) (hK : KOK Try.prog (ct116 g96 g99 )) (cf : G116) (h : ∀ x y, cf x = some y → ∃ F, fn116 g96 g99 F x = some y) : KOne Try.prog 116 ⟨[.v (.slice 58 poly), .v (.slice 2 i64)], [poly], true, false, 0, cf⟩ :=
  fn_one rfl (c := bodyOf Try.f116) mixed tt_ok hK Try.func116 (by kernel_rfl) (by kernel_rfl) (Nat.le_of_ble_eq_true (by kernel_rfl)) (by decide) fun x y hxy => by
    obtain ⟨F, hF⟩ := h x y hxy
    exact ⟨[(3, ls116_3 g96 g99 F)], LTOK_by (l := [loopOf Try.f116 3]) (by kernel_rfl) ⟨ls_at (by kernel_rfl) (ok116_3 g96 g99 F hK), trivial⟩, (ev116 g96 g99 F x).trans hF⟩
/-! spec.ProductOfList -/
abbrev R52 : Type := Ress [poly, i64]
abbrev G52 : Type := Args [.v (.slice 58 poly), .v (.slice 2 i64)] → Option R52
abbrev kp52 : List (Nat × List Nat) := [(0, [1, 0, 4]), (1, [1, 0, 6, 4]), (2, [13, 1, 0, 6, 4]), (3, [5, 4]), (4, [20, 0, 1, 4]), (5, [5, 4]), (6, [4, 7, 1, 0]), (7, [25, 0, 1, 7, 4]), (9, [32, 0, 1, 7, 4]), (10, [5, 4]), (8, [4, 7, 1, 0]), (11, [4, 8, 1, 0]), (12, [4, 8, 1, 0, 9]), (13, [37, 0, 1, 9, 8, 4]), (15, [44, 0, 1, 9, 8, 4]), (16, [5, 4]), (17, [9, 4, 8, 1, 0]), (14, [4, 8, 1, 0, 9]), (18, [59, 1, 0, 4]), (19, [5, 4]), (20, [5, 4])]
abbrev ct52 (g64 : G64) (g115 : G115) (g116 : G116) : CTab := [(64, ⟨[.v (.slice 58 poly), .v i64], [i64], false, false, 0, g64⟩), (115, ⟨[.v poly], [i64], false, false, 0, g115⟩), (116, ⟨[.v (.slice 58 poly), .v (.slice 2 i64)], [poly], true, false, 0, g116⟩)]
abbrev kr52 : Env → Option R52 := endK TT [.cell 4 58, .tmp 5] [poly, i64] true false
abbrev sh52_7 : Shape := [(0, .val false [.fz (.slice 58 poly) 0 true]), (1, .val false [.fz (.slice 2 i64) 0 true]), (4, .box false [.fz i64 0 false, .fz i64 0 false, .rt 135 term 67 false true true]), (7, vv i64)]
def st52_7 (g64 : G64) (g115 : G115) (g116 : G116) (F : Nat) (s : ShVal sh52_7) (k kx : ShVal sh52_7 → Option R52) : Option R52 :=
  match s with
  | ((t0, _), (t1, _), (t4_0, t4_1, t4_2, _), (t7, _), _) => (bif decide ((List.length t1) ≤ 9223372036854775807) then (bif decide (t7 < (Int.ofNat (List.length t1))) then (bif ib t7 (Int.ofNat (List.length t1)) then (bif decide ((List.getD t1 (tn t7) (0 : Int)) < (0 : Int)) then (some (((Ty.dflt (.pair (.int .i64) (.pair (.int .i64) (.pair (.slice 135 (.pair (.arr 3 (.int .u8)) (.pair (.int .i64) .unit))) .unit)))).1, ((Ty.dflt (.pair (.int .i64) (.pair (.int .i64) (.pair (.slice 135 (.pair (.arr 3 (.int .u8)) (.pair (.int .i64) .unit))) .unit)))).2.1, ((Ty.dflt (.pair (.int .i64) (.pair (.int .i64) (.pair (.slice 135 (.pair (.arr 3 (.int .u8)) (.pair (.int .i64) .unit))) .unit)))).2.2.1, ()))), ((2 : Int), ()))) else k ((t0, ()), ((t1, ()), ((t4_0, (t4_1, (t4_2, ()))), (((w6 (t7 + (1 : Int))), ()), ()))))) else none) else kx ((t0, ()), ((t1, ()), ((t4_0, (t4_1, (t4_2, ()))), ((t7, ()), ()))))) else none)
def ru52_7 (g64 : G64) (g115 : G115) (g116 : G116) (F : Nat) (s : ShVal sh52_7) (kx : ShVal sh52_7 → Option R52) : Option R52 := iter (fun s k => st52_7 g64 g115 g116 F s k kx) F s
abbrev ls52_7 (g64 : G64) (g115 : G115) (g116 : G116) (F : Nat) : LS R52 := ⟨sh52_7, 0, ru52_7 g64 g115 g116 F⟩
abbrev sh52_13 : Shape := [(0, .val false [.fz (.slice 58 poly) 0 true]), (1, .val false [.fz (.slice 2 i64) 0 true]), (4, .box false [.fz i64 0 false, .fz i64 0 false, .rt 135 term 67 false true true]), (8, vv i64), (9, vv i64)]
def st52_13 (g64 : G64) (g115 : G115) (g116 : G116) (F : Nat) (s : ShVal sh52_13) (k kx : ShVal sh52_13 → Option R52) : Option R52 :=
  match s with
  | ((t0, _), (t1, _), (t4_0, t4_1, t4_2, _), (t8, _), (t9, _), _) => (bif decide ((List.length t1) ≤ 9223372036854775807) then (bif decide (t9 < (Int.ofNat (List.length t1))) then (bif ib t9 (Int.ofNat (List.length t1)) then (bif decide ((12 : Int) < (List.getD t1 (tn t9) (0 : Int))) then (some (((Ty.dflt (.pair (.int .i64) (.pair (.int .i64) (.pair (.slice 135 (.pair (.arr 3 (.int .u8)) (.pair (.int .i64) .unit))) .unit)))).1, ((Ty.dflt (.pair (.int .i64) (.pair (.int .i64) (.pair (.slice 135 (.pair (.arr 3 (.int .u8)) (.pair (.int .i64) .unit))) .unit)))).2.1, ((Ty.dflt (.pair (.int .i64) (.pair (.int .i64) (.pair (.slice 135 (.pair (.arr 3 (.int .u8)) (.pair (.int .i64) .unit))) .unit)))).2.2.1, ()))), ((3 : Int), ()))) else (bif ib t9 (Int.ofNat (List.length t1)) then (bif ib t9 (Int.ofNat (List.length t0)) then (match (g115 ((List.getD t0 (tn t9) (Ty.dflt (.pair (.int .i64) (.pair (.int .i64) (.pair (.slice 135 (.pair (.arr 3 (.int .u8)) (.pair (.int .i64) .unit))) .unit))))), ())) with | some r29 => k ((t0, ()), ((t1, ()), ((t4_0, (t4_1, (t4_2, ()))), (((w6 (t8 + (w6 ((List.getD t1 (tn t9) (0 : Int)) * r29.1)))), ()), (((w6 (t9 + (1 : Int))), ()), ()))))) | none => none) else none) else none)) else none) else kx ((t0, ()), ((t1, ()), ((t4_0, (t4_1, (t4_2, ()))), ((t8, ()), ((t9, ()), ())))))) else none)
def ru52_13 (g64 : G64) (g115 : G115) (g116 : G116) (F : Nat) (s : ShVal sh52_13) (kx : ShVal sh52_13 → Option R52) : Option R52 := iter (fun s k => st52_13 g64 g115 g116 F s k kx) F s
abbrev ls52_13 (g64 : G64) (g115 : G115) (g116 : G116) (F : Nat) : LS R52 := ⟨sh52_13, 2, ru52_13 g64 g115 g116 F⟩
def fn52 (g64 : G64) (g115 : G115) (g116 : G116) (F : Nat) (x : Args [.v (.slice 58 poly), .v (.slice 2 i64)]) : Option R52 :=
  match x with
  | (x0, x1, _) => (match (g64 (x0, ((0 : Int), ()))) with | some r7 => (bif (!decide (r7.1 = (0 : Int))) then (some (((Ty.dflt (.pair (.int .i64) (.pair (.int .i64) (.pair (.slice 135 (.pair (.arr 3 (.int .u8)) (.pair (.int .i64) .unit))) .unit)))).1, ((Ty.dflt (.pair (.int .i64) (.pair (.int .i64) (.pair (.slice 135 (.pair (.arr 3 (.int .u8)) (.pair (.int .i64) .unit))) .unit)))).2.1, ((Ty.dflt (.pair (.int .i64) (.pair (.int .i64) (.pair (.slice 135 (.pair (.arr 3 (.int .u8)) (.pair (.int .i64) .unit))) .unit)))).2.2.1, ()))), (r7.1, ()))) else (bif decide ((List.length x1) ≤ 9223372036854775807) then (bif decide ((List.length x0) ≤ 9223372036854775807) then (bif (!decide ((Int.ofNat (List.length x1)) = (Int.ofNat (List.length x0)))) then (some (((Ty.dflt (.pair (.int .i64) (.pair (.int .i64) (.pair (.slice 135 (.pair (.arr 3 (.int .u8)) (.pair (.int .i64) .unit))) .unit)))).1, ((Ty.dflt (.pair (.int .i64) (.pair (.int .i64) (.pair (.slice 135 (.pair (.arr 3 (.int .u8)) (.pair (.int .i64) .unit))) .unit)))).2.1, ((Ty.dflt (.pair (.int .i64) (.pair (.int .i64) (.pair (.slice 135 (.pair (.arr 3 (.int .u8)) (.pair (.int .i64) .unit))) .unit)))).2.2.1, ()))), ((2 : Int), ()))) else (ru52_7 g64 g115 g116 F ((x0, ()), ((x1, ()), (((Ty.dflt (.pair (.int .i64) (.pair (.int .i64) (.pair (.slice 135 (.pair (.arr 3 (.int .u8)) (.pair (.int .i64) .unit))) .unit)))).1, ((Ty.dflt (.pair (.int .i64) (.pair (.int .i64) (.pair (.slice 135 (.pair (.arr 3 (.int .u8)) (.pair (.int .i64) .unit))) .unit)))).2.1, ((Ty.dflt (.pair (.int .i64) (.pair (.int .i64) (.pair (.slice 135 (.pair (.arr 3 (.int .u8)) (.pair (.int .i64) .unit))) .unit)))).2.2.1, ()))), (((0 : Int), ()), ())))) (fun s' => match s' with | ((t0, _), (t1, _), (t4_0, t4_1, t4_2, _), (t7, _), _) => (ru52_13 g64 g115 g116 F ((t0, ()), ((t1, ()), ((t4_0, (t4_1, (t4_2, ()))), (((0 : Int), ()), (((0 : Int), ()), ()))))) (fun s' => match s' with | ((t0, _), (t1, _), (t4_0, t4_1, t4_2, _), (t8, _), (t9, _), _) => (bif decide ((12 : Int) < t8) then (some (((Ty.dflt (.pair (.int .i64) (.pair (.int .i64) (.pair (.slice 135 (.pair (.arr 3 (.int .u8)) (.pair (.int .i64) .unit))) .unit)))).1, ((Ty.dflt (.pair (.int .i64) (.pair (.int .i64) (.pair (.slice 135 (.pair (.arr 3 (.int .u8)) (.pair (.int .i64) .unit))) .unit)))).2.1, ((Ty.dflt (.pair (.int .i64) (.pair (.int .i64) (.pair (.slice 135 (.pair (.arr 3 (.int .u8)) (.pair (.int .i64) .unit))) .unit)))).2.2.1, ()))), ((3 : Int), ()))) else (match (g116 (t0, (t1, ()))) with | some r28 => (some ((r28.1.1, (r28.1.2.1, (r28.1.2.2.1, ()))), ((0 : Int), ()))) | none => none))))))) else none) else none)) | none => none)
theorem ev52_7 (g64 : G64) (g115 : G115) (g116 : G116) (F : Nat) (s : ShVal sh52_7) (k kx : ShVal sh52_7 → Option R52) : evL TT (ct52 g64 g115 g116 ) kp52 [] (loopOf Try.f52 7) (envOf sh52_7 s) (fitK sh52_7 k) (fun j e => bif Nat.beq j 0 then fitK sh52_7 kx e else none) kr52 = st52_7 g64 g115 g116 F s k kx := by
  obtain ⟨⟨t0, _⟩, ⟨t1, _⟩, ⟨t4_0, t4_1, t4_2, _⟩, ⟨t7, _⟩, _⟩ := s
  kernel_rfl
theorem ok52_7 (g64 : G64) (g115 : G115) (g116 : G116) (F : Nat) (hK : KOK Try.prog (ct52 g64 g115 g116 )) : LSOK Try.prog ⟨64, false, undef⟩ (ls52_7 g64 g115 g116 F) (loopOf Try.f52 7) kr52 :=
  loop_ok (st52_7 g64 g115 g116 F) mixed tt_ok hK (by kernel_rfl) (LTOK_by (l := []) (by kernel_rfl) trivial) (ev52_7 g64 g115 g116 F)
theorem ev52_13 (g64 : G64) (g115 : G115) (g116 : G116) (F : Nat) (s : ShVal sh52_13) (k kx : ShVal sh52_13 → Option R52) : evL TT (ct52 g64 g115 g116 ) kp52 [] (loopOf Try.f52 13) (envOf sh52_13 s) (fitK sh52_13 k) (fun j e => bif Nat.beq j 2 then fitK sh52_13 kx e else none) kr52 = st52_13 g64 g115 g116 F s k kx := by
  obtain ⟨⟨t0, _⟩, ⟨t1, _⟩, ⟨t4_0, t4_1, t4_2, _⟩, ⟨t8, _⟩, ⟨t9, _⟩, _⟩ := s
  kernel_rfl
theorem ok52_13 (g64 : G64) (g115 : G115) (g116 : G116) (F : Nat) (hK : KOK Try.prog (ct52 g64 g115 g116 )) : LSOK Try.prog ⟨64, false, undef⟩ (ls52_13 g64 g115 g116 F) (loopOf Try.f52 13) kr52 :=
  loop_ok (st52_13 g64 g115 g116 F) mixed tt_ok hK (by kernel_rfl) (LTOK_by (l := []) (by kernel_rfl) trivial) (ev52_13 g64 g115 g116 F)
theorem ev52 (g64 : G64) (g115 : G115) (g116 : G116) (F : Nat) (x : Args [.v (.slice 58 poly), .v (.slice 2 i64)]) : fnK TT (ct52 g64 g115 g116 ) kp52 [poly, i64] [(7, ls52_7 g64 g115 g116 F), (13, ls52_13 g64 g115 g116 F)] (bodyOf Try.f52) [.cell 4 58, .tmp 5] [.v (.slice 58 poly), .v (.slice 2 i64)] true false x = fn52 g64 g115 g116 F x := by
  obtain ⟨x0, x1, _⟩ := x
  kernel_rfl
theorem ok52 (g64 : G64) (g115 : G115) (g116 : G116) (hK : KOK Try.prog (ct52 g64 g115 g116 )) (cf : G52) (h : ∀ x y, cf x = some y → ∃ F, fn52 g64 g115 g116 F x = some y) : KOne Try.prog 52 ⟨[.v (.slice 58 poly), .v (.slice 2 i64)], [poly, i64], true, false, 0, cf⟩ :=
  fn_one rfl (c := bodyOf Try.f52) mixed tt_ok hK Try.func52 (by kernel_rfl) (by kernel_rfl) (Nat.le_of_ble_eq_true (by kernel_rfl)) (by decide) fun x y hxy => by
    obtain ⟨F, hF⟩ := h x y hxy
    exact ⟨[(7, ls52_7 g64 g115 g116 F), (13, ls52_13 g64 g115 g116 F)], LTOK_by (l := [loopOf Try.f52 7, loopOf Try.f52 13]) (by kernel_rfl) ⟨ls_at (by kernel_rfl) (ok52_7 g64 g115 g116 F hK), ⟨ls_at (by kernel_rfl) (ok52_13 g64 g115 g116 F hK), trivial⟩⟩, (ev52 g64 g115 g116 F x).trans hF⟩
/-! impl.ProductOfList -/
abbrev R53 : Type := Ress [poly, i64]
abbrev G53 : Type := Args [.v (.slice 58 poly), .v (.slice 2 i64)] → Option R53
abbrev kp53 : List (Nat × List Nat) := [(0, [0, 1, 4]), (1, [0, 1, 6, 4]), (2, [15, 0, 1, 6, 4]), (3, [5, 4]), (4, [22, 1, 0, 4]), (5, [5, 4]), (6, [4, 26, 24, 0, 1, 25]), (7, [27, 25, 1, 0, 24, 26, 4]), (8, [8, 25, 1, 0, 24, 26, 4]), (9, [31, 25, 1, 0, 24, 26, 4]), (10, [5, 4]), (11, [4, 26, 24, 0, 1, 25]), (12, [4, 9, 0, 1]), (13, [4, 9, 0, 36, 34, 1, 35]), (14, [37, 35, 1, 34, 0, 36, 9, 4]), (15, [35, 1, 34, 0, 36, 10, 11, 9, 4]), (16, [42, 35, 1, 34, 0, 36, 10, 11, 9, 4]), (17, [5, 4]), (18, [36, 4, 9, 0, 34, 1, 35]), (19, [4, 9, 0, 36, 34, 1, 35]), (20, [55, 1, 0, 4]), (21, [5, 4]), (22, [5, 4])]
abbrev ct53 (g67 : G67) (g117 : G117) (g118 : G118) : CTab := [(67, ⟨[.v (.slice 58 poly)], [i64], false, false, 0, g67⟩), (117, ⟨[.v poly], [i64], false, false, 0, g117⟩), (118, ⟨[.v (.slice 58 poly), .v (.slice 2 i64)], [poly], true, false, 0, g118⟩)]
abbrev kr53 : Env → Option R53 := endK TT [.cell 4 58, .tmp 5] [poly, i64] true false
abbrev sh53_7 : Shape := [(0, .val false [.fz (.slice 58 poly) 0 true]), (1, .val false [.fz (.slice 2 i64) 0 true]), (4, .box false [.fz i64 0 false, .fz i64 0 false, .rt 135 term 67 false true true]), (24, .val false [.fz (.slice 2 i64) 0 true]), (25, vv i64), (26, vv i64)]
def st53_7 (g67 : G67) (g117 : G117) (g118 : G118) (F : Nat) (s : ShVal sh53_7) (k kx : ShVal sh53_7 → Option R53) : Option R53 :=
  match s with
  | ((t0, _), (t1, _), (t4_0, t4_1, t4_2, _), (t24, _), (t25, _), (t26, _), _) => (bif decide (t26 < t25) then (bif ib t26 (Int.ofNat (List.length t24)) then (bif decide ((List.getD t24 (tn t26) (0 : Int)) < (0 : Int)) then (some (((Ty.dflt (.pair (.int .i64) (.pair (.int .i64) (.pair (.slice 135 (.pair (.arr 3 (.int .u8)) (.pair (.int .i64) .unit))) .unit)))).1, ((Ty.dflt (.pair (.int .i64) (.pair (.int .i64) (.pair (.slice 135 (.pair (.arr 3 (.int .u8)) (.pair (.int .i64) .unit))) .unit)))).2.1, ((Ty.dflt (.pair (.int .i64) (.pair (.int .i64) (.pair (.slice 135 (.pair (.arr 3 (.int .u8)) (.pair (.int .i64) .unit))) .unit)))).2.2.1, ()))), ((2 : Int), ()))) else k ((t0, ()), ((t1, ()), ((t4_0, (t4_1, (t4_2, ()))), ((t24, ()), ((t25, ()), (((w6 (t26 + (1 : Int))), ()), ()))))))) else none) else kx ((t0, ()), ((t1, ()), ((t4_0, (t4_1, (t4_2, ()))), ((t24, ()), ((t25, ()), ((t26, ()), ())))))))
def ru53_7 (g67 : G67) (g117 : G117) (g118 : G118) (F : Nat) (s : ShVal sh53_7) (kx : ShVal sh53_7 → Option R53) : Option R53 := iter (fun s k => st53_7 g67 g117 g118 F s k kx) F s
abbrev ls53_7 (g67 : G67) (g117 : G117) (g118 : G118) (F : Nat) : LS R53 := ⟨sh53_7, 0, ru53_7 g67 g117 g118 F⟩
abbrev sh53_14 : Shape := [(0, .val false [.fz (.slice 58 poly) 0 true]), (1, .val false [.fz (.slice 2 i64) 0 true]), (4, .box false [.fz i64 0 false, .fz i64 0 false, .rt 135 term 67 false true true]), (9, vv i64), (34, .val false [.fz (.slice 2 i64) 0 true]), (35, vv i64), (36, vv i64)]
def st53_14 (g67 : G67) (g117 : G117) (g118 : G118) (F : Nat) (s : ShVal sh53_14) (k kx : ShVal sh53_14 → Option R53) : Option R53 :=
  match s with
  | ((t0, _), (t1, _), (t4_0, t4_1, t4_2, _), (t9, _), (t34, _), (t35, _), (t36, _), _) => (bif decide (t36 < t35) then (bif ib t36 (Int.ofNat (List.length t34)) then (bif decide ((12 : Int) < (List.getD t34 (tn t36) (0 : Int))) then (some (((Ty.dflt (.pair (.int .i64) (.pair (.int .i64) (.pair (.slice 135 (.pair (.arr 3 (.int .u8)) (.pair (.int .i64) .unit))) .unit)))).1, ((Ty.dflt (.pair (.int .i64) (.pair (.int .i64) (.pair (.slice 135 (.pair (.arr 3 (.int .u8)) (.pair (.int .i64) .unit))) .unit)))).2.1, ((Ty.dflt (.pair (.int .i64) (.pair (.int .i64) (.pair (.slice 135 (.pair (.arr 3 (.int .u8)) (.pair (.int .i64) .unit))) .unit)))).2.2.1, ()))), ((3 : Int), ()))) else (bif ib t36 (Int.ofNat (List.length t0)) then (match (g117 ((List.getD t0 (tn t36) (Ty.dflt (.pair (.int .i64) (.pair (.int .i64) (.pair (.slice 135 (.pair (.arr 3 (.int .u8)) (.pair (.int .i64) .unit))) .unit))))), ())) with | some r34 => k ((t0, ()), ((t1, ()), ((t4_0, (t4_1, (t4_2, ()))), (((w6 (t9 + (w6 ((List.getD t34 (tn t36) (0 : Int)) * r34.1)))), ()), ((t34, ()), ((t35, ()), (((w6 (t36 + (1 : Int))), ()), ()))))))) | none => none) else none)) else none) else kx ((t0, ()), ((t1, ()), ((t4_0, (t4_1, (t4_2, ()))), ((t9, ()), ((t34, ()), ((t35, ()), ((t36, ()), ()))))))))
def ru53_14 (g67 : G67) (g117 : G117) (g118 : G118) (F : Nat) (s : ShVal sh53_14) (kx : ShVal sh53_14 → Option R53) : Option R53 := iter (fun s k => st53_14 g67 g117 g118 F s k kx) F s
abbrev ls53_14 (g67 : G67) (g117 : G117) (g118 : G118) (F : Nat) : LS R53 := ⟨sh53_14, 2, ru53_14 g67 g117 g118 F⟩
def fn53 (g67 : G67) (g117 : G117) (g118 : G118) (F : Nat) (x : Args [.v (.slice 58 poly), .v (.slice 2 i64)]) : Option R53 :=
  match x with
  | (x0, x1, _) => (match (g67 (x0, ())) with | some r7 => (bif (!decide (r7.1 = (0 : Int))) then (some (((Ty.dflt (.pair (.int .i64) (.pair (.int .i64) (.pair (.slice 135 (.pair (.arr 3 (.int .u8)) (.pair (.int .i64) .unit))) .unit)))).1, ((Ty.dflt (.pair (.int .i64) (.pair (.int .i64) (.pair (.slice 135 (.pair (.arr 3 (.int .u8)) (.pair (.int .i64) .unit))) .unit)))).2.1, ((Ty.dflt (.pair (.int .i64) (.pair (.int .i64) (.pair (.slice 135 (.pair (.arr 3 (.int .u8)) (.pair (.int .i64) .unit))) .unit)))).2.2.1, ()))), (r7.1, ()))) else (bif decide ((List.length x1) ≤ 9223372036854775807) then (bif decide ((List.length x0) ≤ 9223372036854775807) then (bif (!decide ((Int.ofNat (List.length x1)) = (Int.ofNat (List.length x0)))) then (some (((Ty.dflt (.pair (.int .i64) (.pair (.int .i64) (.pair (.slice 135 (.pair (.arr 3 (.int .u8)) (.pair (.int .i64) .unit))) .unit)))).1, ((Ty.dflt (.pair (.int .i64) (.pair (.int .i64) (.pair (.slice 135 (.pair (.arr 3 (.int .u8)) (.pair (.int .i64) .unit))) .unit)))).2.1, ((Ty.dflt (.pair (.int .i64) (.pair (.int .i64) (.pair (.slice 135 (.pair (.arr 3 (.int .u8)) (.pair (.int .i64) .unit))) .unit)))).2.2.1, ()))), ((2 : Int), ()))) else (bif decide ((List.length x1) ≤ 9223372036854775807) then (ru53_7 g67 g117 g118 F ((x0, ()), ((x1, ()), (((Ty.dflt (.pair (.int .i64) (.pair (.int .i64) (.pair (.slice 135 (.pair (.arr 3 (.int .u8)) (.pair (.int .i64) .unit))) .unit)))).1, ((Ty.dflt (.pair (.int .i64) (.pair (.int .i64) (.pair (.slice 135 (.pair (.arr 3 (.int .u8)) (.pair (.int .i64) .unit))) .unit)))).2.1, ((Ty.dflt (.pair (.int .i64) (.pair (.int .i64) (.pair (.slice 135 (.pair (.arr 3 (.int .u8)) (.pair (.int .i64) .unit))) .unit)))).2.2.1, ()))), ((x1, ()), (((Int.ofNat (List.length x1)), ()), (((0 : Int), ()), ())))))) (fun s' => match s' with | ((t0, _), (t1, _), (t4_0, t4_1, t4_2, _), (t24, _), (t25, _), (t26, _), _) => (bif decide ((List.length t1) ≤ 9223372036854775807) then (ru53_14 g67 g117 g118 F ((t0, ()), ((t1, ()), ((t4_0, (t4_1, (t4_2, ()))), (((0 : Int), ()), ((t1, ()), (((Int.ofNat (List.length t1)), ()), (((0 : Int), ()), ()))))))) (fun s' => match s' with | ((t0, _), (t1, _), (t4_0, t4_1, t4_2, _), (t9, _), (t34, _), (t35, _), (t36, _), _) => (bif decide ((12 : Int) < t9) then (some (((Ty.dflt (.pair (.int .i64) (.pair (.int .i64) (.pair (.slice 135 (.pair (.arr 3 (.int .u8)) (.pair (.int .i64) .unit))) .unit)))).1, ((Ty.dflt (.pair (.int .i64) (.pair (.int .i64) (.pair (.slice 135 (.pair (.arr 3 (.int .u8)) (.pair (.int .i64) .unit))) .unit)))).2.1, ((Ty.dflt (.pair (.int .i64) (.pair (.int .i64) (.pair (.slice 135 (.pair (.arr 3 (.int .u8)) (.pair (.int .i64) .unit))) .unit)))).2.2.1, ()))), ((3 : Int), ()))) else (match (g118 (t0, (t1, ()))) with | some r32 => (some ((r32.1.1, (r32.1.2.1, (r32.1.2.2.1, ()))), ((0 : Int), ()))) | none => none)))) else none))) else none)) else none) else none)) | none => none)
theorem ev53_7 (g67 : G67) (g117 : G117) (g118 : G118) (F : Nat) (s : ShVal sh53_7) (k kx : ShVal sh53_7 → Option R53) : evL TT (ct53 g67 g117 g118 ) kp53 [] (loopOf Try.f53 7) (envOf sh53_7 s) (fitK sh53_7 k) (fun j e => bif Nat.beq j 0 then fitK sh53_7 kx e else none) kr53 = st53_7 g67 g117 g118 F s k kx := by
  obtain ⟨⟨t0, _⟩, ⟨t1, _⟩, ⟨t4_0, t4_1, t4_2, _⟩, ⟨t24, _⟩, ⟨t25, _⟩, ⟨t26, _⟩, _⟩ := s
  kernel_rfl
theorem ok53_7 (g67 : G67) (g117 : G117) (g118 : G118) (F : Nat) (hK : KOK Try.prog (ct53 g67 g117 g118 )) : LSOK Try.prog ⟨60, false, undef⟩ (ls53_7 g67 g117 g118 F) (loopOf Try.f53 7) kr53 :=
  loop_ok (st53_7 g67 g117 g118 F) mixed tt_ok hK (by kernel_rfl) (LTOK_by (l := []) (by kernel_rfl) trivial) (ev53_7 g67 g117 g118 F)
theorem ev53_14 (g67 : G67) (g117 : G117) (g118 : G118) (F : Nat) (s : ShVal sh53_14) (k kx : ShVal sh53_14 → Option R53) : evL TT (ct53 g67 g117 g118 ) kp53 [] (loopOf Try.f53 14) (envOf sh53_14 s) (fitK sh53_14 k) (fun j e => bif Nat.beq j 2 then fitK sh53_14 kx e else none) kr53 = st53_14 g67 g117 g118 F s k kx := by
  obtain ⟨⟨t0, _⟩, ⟨t1, _⟩, ⟨t4_0, t4_1, t4_2, _⟩, ⟨t9, _⟩, ⟨t34, _⟩, ⟨t35, _⟩, ⟨t36, _⟩, _⟩ := s
  kernel_rfl
theorem ok53_14 (g67 : G67) (g117 : G117) (g118 : G118) (F : Nat) (hK : KOK Try.prog (ct53 g67 g117 g118 )) : LSOK Try.prog ⟨60, false, undef⟩ (ls53_14 g67 g117 g118 F) (loopOf Try.f53 14) kr53 :=
  loop_ok (st53_14 g67 g117 g118 F) mixed tt_ok hK (by kernel_rfl) (LTOK_by (l := []) (by kernel_rfl) trivial) (ev53_14 g67 g117 g118 F)
theorem ev53 (g67 : G67) (g117 : G117) (g118 : G118) (F : Nat) (x : Args [.v (.slice 58 poly), .v (.slice 2 i64)]) : fnK TT (ct53 g67 g117 g118 ) kp53 [poly, i64] [(7, ls53_7 g67 g117 g118 F), (14, ls53_14 g67 g117 g118 F)] (bodyOf Try.f53) [.cell 4 58, .tmp 5] [.v (.slice 58 poly), .v (.slice 2 i64)] true false x = fn53 g67 g117 g118 F x := by
  obtain ⟨x0, x1, _⟩ := x
  kernel_rfl
theorem ok53 (g67 : G67) (g117 : G117) (g118 : G118) (hK : KOK Try.prog (ct53 g67 g117 g118 )) (cf : G53) (h : ∀ x y, cf x = some y → ∃ F, fn53 g67 g117 g118 F x = some y) : KOne Try.prog 53 ⟨[.v (.slice 58 poly), .v (.slice 2 i64)], [poly, i64], true, false, 0, cf⟩ :=
  fn_one rfl (c := bodyOf Try.f53) mixed tt_ok hK Try.func53 (by kernel_rfl) (by kernel_rfl) (Nat.le_of_ble_eq_true (by kernel_rfl)) (by decide) fun x y hxy => by
    obtain ⟨F, hF⟩ := h x y hxy
    exact ⟨[(7, ls53_7 g67 g117 g118 F), (14, ls53_14 g67 g117 g118 F)], LTOK_by (l := [loopOf Try.f53 7, loopOf Try.f53 14]) (by kernel_rfl) ⟨ls_at (by kernel_rfl) (ok53_7 g67 g117 g118 F hK), ⟨ls_at (by kernel_rfl) (ok53_14 g67 g117 g118 F hK), trivial⟩⟩, (ev53 g67 g117 g118 F x).trans hF⟩
end Go.Proofs.YtkoifikjfnbcpaaEv
