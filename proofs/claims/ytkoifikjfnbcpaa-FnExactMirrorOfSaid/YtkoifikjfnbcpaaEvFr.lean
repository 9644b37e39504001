/- What functions of the program come to, printed by a program of this work: loops by their steps, calls by what is known of them; each text is checked by the kernel. No condition. -/
import Derived.Test.YtkoifikjfnbcpaaEvFm
set_option linter.unusedVariables false
namespace Go.Proofs.YtkoifikjfnbcpaaEv
open Go Go.RowKit
/-! impl.lead$1 -/
abbrev R178 : Type := Ress [.bool]
abbrev G178 : Type := Args [.v i64] → Option R178
abbrev kp178 : List (Nat × List Nat) := [(0, [0]), (1, [2])]
abbrev ct178 : CTab := []
abbrev kr178 : Env → Option R178 := endK TT [.tmp 2] [.bool] false false
def fn178 (F : Nat) (x : Args [.v i64]) : Option R178 :=
  match x with
  | (x0, _) => (some ((!decide (x0 = (0 : Int))), ()))
theorem ev178 (F : Nat) (x : Args [.v i64]) : fnK TT (ct178 ) kp178 [.bool] [] (bodyOf Try.f178) [.tmp 2] [.v i64] false false x = fn178 F x := by
  obtain ⟨x0, _⟩ := x
  kernel_rfl
theorem ok178 (hK : KOK Try.prog (ct178 )) (cf : G178) (h : ∀ x y, cf x = some y → ∃ F, fn178 F x = some y) : KOne Try.prog 178 ⟨[.v i64], [.bool], false, false, 0, cf⟩ :=
  fn_one rfl (c := bodyOf Try.f178) mixed tt_ok hK Try.func178 (by kernel_rfl) (by kernel_rfl) (Nat.le_of_ble_eq_true (by kernel_rfl)) (by decide) fun x y hxy => by
    obtain ⟨F, hF⟩ := h x y hxy
    exact ⟨[], LTOK_by (l := []) (by kernel_rfl) trivial, (ev178 F x).trans hF⟩
/-! slices.IndexFunc[[]int64,int64] -/
abbrev R177 : Type := Ress [i64]
abbrev G177 : Type := Args [.v (.slice 2 i64), .fn 178] → Option R177
abbrev kp177 : List (Nat × List Nat) := [(0, [0, 1]), (1, [8, 0, 1, 7]), (2, [9, 7, 1, 0, 8]), (3, [7, 1, 0, 8, 5]), (4, [16, 7, 1, 0, 8, 5]), (5, [4]), (6, [8, 0, 1, 7]), (7, [4])]
abbrev ct177 (g178 : G178) : CTab := [(178, ⟨[.v i64], [.bool], false, false, 0, g178⟩)]
abbrev kr177 : Env → Option R177 := endK TT [.tmp 4] [i64] false false
abbrev sh177_2 : Shape := [(0, .val false [.fz (.slice 2 i64) 0 true]), (1, .fn 178 []), (7, vv i64), (8, vv i64)]
def st177_2 (g178 : G178) (F : Nat) (s : ShVal sh177_2) (k kx : ShVal sh177_2 → Option R177) : Option R177 :=
  match s with
  | ((t0, _), _, (t7, _), (t8, _), _) => (bif decide (t8 < t7) then (bif ib t8 (Int.ofNat (List.length t0)) then (match (g178 ((List.getD t0 (tn t8) (0 : Int)), ())) with | some r11 => (bif r11.1 then (some (t8, ())) else k ((t0, ()), ((), ((t7, ()), (((w6 (t8 + (1 : Int))), ()), ()))))) | none => none) else none) else kx ((t0, ()), ((), ((t7, ()), ((t8, ()), ())))))
def ru177_2 (g178 : G178) (F : Nat) (s : ShVal sh177_2) (kx : ShVal sh177_2 → Option R177) : Option R177 := iter (fun s k => st177_2 g178 F s k kx) F s
abbrev ls177_2 (g178 : G178) (F : Nat) : LS R177 := ⟨sh177_2, 0, ru177_2 g178 F⟩
def fn177 (g178 : G178) (F : Nat) (x : Args [.v (.slice 2 i64), .fn 178]) : Option R177 :=
  match x with
  | (x0, x1, _) => (bif decide ((List.length x0) ≤ 9223372036854775807) then (ru177_2 g178 F ((x0, ()), ((), (((Int.ofNat (List.length x0)), ()), (((0 : Int), ()), ())))) (fun s' => match s' with | ((t0, _), _, (t7, _), (t8, _), _) => (some ((-(1 : Int)), ())))) else none)
theorem ev177_2 (g178 : G178) (F : Nat) (s : ShVal sh177_2) (k kx : ShVal sh177_2 → Option R177) : evL TT (ct177 g178 ) kp177 [] (loopOf Try.f177 2) (envOf sh177_2 s) (fitK sh177_2 k) (fun j e => bif Nat.beq j 0 then fitK sh177_2 kx e else none) kr177 = st177_2 g178 F s k kx := by
  obtain ⟨⟨t0, _⟩, _, ⟨t7, _⟩, ⟨t8, _⟩, _⟩ := s
  kernel_rfl
theorem ok177_2 (g178 : G178) (F : Nat) (hK : KOK Try.prog (ct177 g178 )) : LSOK Try.prog ⟨19, false, undef⟩ (ls177_2 g178 F) (loopOf Try.f177 2) kr177 :=
  loop_ok (st177_2 g178 F) mixed tt_ok hK (by kernel_rfl) (LTOK_by (l := []) (by kernel_rfl) trivial) (ev177_2 g178 F)
theorem ev177 (g178 : G178) (F : Nat) (x : Args [.v (.slice 2 i64), .fn 178]) : fnK TT (ct177 g178 ) kp177 [i64] [(2, ls177_2 g178 F)] (bodyOf Try.f177) [.tmp 4] [.v (.slice 2 i64), .fn 178] false false x = fn177 g178 F x := by
  obtain ⟨x0, x1, _⟩ := x
  kernel_rfl
theorem ok177 (g178 : G178) (hK : KOK Try.prog (ct177 g178 )) (cf : G177) (h : ∀ x y, cf x = some y → ∃ F, fn177 g178 F x = some y) : KOne Try.prog 177 ⟨[.v (.slice 2 i64), .fn 178], [i64], false, false, 0, cf⟩ :=
  fn_one rfl (c := bodyOf Try.f177) mixed tt_ok hK Try.func177 (by kernel_rfl) (by kernel_rfl) (Nat.le_of_ble_eq_true (by kernel_rfl)) (by decide) fun x y hxy => by
    obtain ⟨F, hF⟩ := h x y hxy
    exact ⟨[(2, ls177_2 g178 F)], LTOK_by (l := [loopOf Try.f177 2]) (by kernel_rfl) ⟨ls_at (by kernel_rfl) (ok177_2 g178 F hK), trivial⟩, (ev177 g178 F x).trans hF⟩
/-! impl.lead -/
abbrev R157 : Type := Ress [i64]
abbrev G157 : Type := Args [.v (.slice 2 i64)] → Option R157
abbrev kp157 : List (Nat × List Nat) := [(0, [0]), (1, [2])]
abbrev ct157 (g177 : G177) : CTab := [(177, ⟨[.v (.slice 2 i64), .fn 178], [i64], false, false, 0, g177⟩)]
abbrev kr157 : Env → Option R157 := endK TT [.tmp 2] [i64] false false
def fn157 (g177 : G177) (F : Nat) (x : Args [.v (.slice 2 i64)]) : Option R157 :=
  match x with
  | (x0, _) => (match (g177 (x0, ((), ()))) with | some r4 => (some (r4.1, ())) | none => none)
theorem ev157 (g177 : G177) (F : Nat) (x : Args [.v (.slice 2 i64)]) : fnK TT (ct157 g177 ) kp157 [i64] [] (bodyOf Try.f157) [.tmp 2] [.v (.slice 2 i64)] false false x = fn157 g177 F x := by
  obtain ⟨x0, _⟩ := x
  kernel_rfl
theorem ok157 (g177 : G177) (hK : KOK Try.prog (ct157 g177 )) (cf : G157) (h : ∀ x y, cf x = some y → ∃ F, fn157 g177 F x = some y) : KOne Try.prog 157 ⟨[.v (.slice 2 i64)], [i64], false, false, 0, cf⟩ :=
  fn_one rfl (c := bodyOf Try.f157) mixed tt_ok hK Try.func157 (by kernel_rfl) (by kernel_rfl) (Nat.le_of_ble_eq_true (by kernel_rfl)) (by decide) fun x y hxy => by
    obtain ⟨F, hF⟩ := h x y hxy
    exact ⟨[], LTOK_by (l := []) (by kernel_rfl) trivial, (ev157 g177 F x).trans hF⟩
/-! impl.inverse -/
abbrev R79 : Type := Ress [i64]
abbrev G79 : Type := Args [.v i64, .v i64] → Option R79
abbrev kp79 : List (Nat × List Nat) := [(0, [1, 0]), (1, [5, 1, 0]), (2, [8, 0, 1, 5]), (4, [16, 0, 1, 5]), (5, [4]), (3, [5, 1, 0]), (6, [4])]
abbrev ct79 : CTab := []
abbrev kr79 : Env → Option R79 := endK TT [.tmp 4] [i64] false false
abbrev sh79_2 : Shape := [(0, vv i64), (1, vv i64), (5, vv i64)]
def st79_2 (F : Nat) (s : ShVal sh79_2) (k kx : ShVal sh79_2 → Option R79) : Option R79 :=
  match s with
  | ((t0, _), (t1, _), (t5, _), _) => (bif decide (t5 < t1) then (bif (!decide (t1 = (0 : Int))) then (bif decide ((Int.tmod (w6 (t0 * t5)) t1) = (1 : Int)) then (some (t5, ())) else k ((t0, ()), ((t1, ()), (((w6 (t5 + (1 : Int))), ()), ())))) else none) else kx ((t0, ()), ((t1, ()), ((t5, ()), ()))))
def ru79_2 (F : Nat) (s : ShVal sh79_2) (kx : ShVal sh79_2 → Option R79) : Option R79 := iter (fun s k => st79_2 F s k kx) F s
abbrev ls79_2 (F : Nat) : LS R79 := ⟨sh79_2, 0, ru79_2 F⟩
def fn79 (F : Nat) (x : Args [.v i64, .v i64]) : Option R79 :=
  match x with
  | (x0, x1, _) => (ru79_2 F ((x0, ()), ((x1, ()), (((1 : Int), ()), ()))) (fun s' => match s' with | ((t0, _), (t1, _), (t5, _), _) => (some ((0 : Int), ()))))
theorem ev79_2 (F : Nat) (s : ShVal sh79_2) (k kx : ShVal sh79_2 → Option R79) : evL TT (ct79 ) kp79 [] (loopOf Try.f79 2) (envOf sh79_2 s) (fitK sh79_2 k) (fun j e => bif Nat.beq j 0 then fitK sh79_2 kx e else none) kr79 = st79_2 F s k kx := by
  obtain ⟨⟨t0, _⟩, ⟨t1, _⟩, ⟨t5, _⟩, _⟩ := s
  kernel_rfl
theorem ok79_2 (F : Nat) (hK : KOK Try.prog (ct79 )) : LSOK Try.prog ⟨18, false, undef⟩ (ls79_2 F) (loopOf Try.f79 2) kr79 :=
  loop_ok (st79_2 F) mixed tt_ok hK (by kernel_rfl) (LTOK_by (l := []) (by kernel_rfl) trivial) (ev79_2 F)
theorem ev79 (F : Nat) (x : Args [.v i64, .v i64]) : fnK TT (ct79 ) kp79 [i64] [(2, ls79_2 F)] (bodyOf Try.f79) [.tmp 4] [.v i64, .v i64] false false x = fn79 F x := by
  obtain ⟨x0, x1, _⟩ := x
  kernel_rfl
theorem ok79 (hK : KOK Try.prog (ct79 )) (cf : G79) (h : ∀ x y, cf x = some y → ∃ F, fn79 F x = some y) : KOne Try.prog 79 ⟨[.v i64, .v i64], [i64], false, false, 0, cf⟩ :=
  fn_one rfl (c := bodyOf Try.f79) mixed tt_ok hK Try.func79 (by kernel_rfl) (by kernel_rfl) (Nat.le_of_ble_eq_true (by kernel_rfl)) (by decide) fun x y hxy => by
    obtain ⟨F, hF⟩ := h x y hxy
    exact ⟨[(2, ls79_2 F)], LTOK_by (l := [loopOf Try.f79 2]) (by kernel_rfl) ⟨ls_at (by kernel_rfl) (ok79_2 F hK), trivial⟩, (ev79 F x).trans hF⟩
/-! impl.less -/
abbrev R156 : Type := Ress [(.slice 2 i64)]
abbrev G156 : Type := Args [.v i64, .v (.slice 24 (.slice 2 i64)), .v (.slice 2 i64)] → Option R156
abbrev kp156 : List (Nat × List Nat) := [(0, [2, 1, 0]), (1, [1, 2, 0]), (2, [16, 2, 0, 14, 15]), (3, [17, 0, 2, 16, 14, 15]), (4, [8, 0, 2, 16, 14, 15]), (5, [8, 0, 9, 2, 16, 14, 15]), (6, [26, 8, 0, 9, 2, 16, 14, 15]), (7, [29, 0, 9, 2, 27, 16, 14, 15, 28]), (8, [30, 29, 0, 9, 2, 27, 16, 14, 15, 28]), (9, [10, 11, 29, 0, 9, 2, 27, 16, 14, 15, 28]), (10, [29, 0, 9, 2, 27, 16, 14, 15, 28]), (11, [29, 0, 9, 2, 27, 16, 14, 15, 28]), (12, [16, 2, 0, 14, 15]), (13, [6])]
abbrev ct156 (g91 : G91) (g157 : G157) : CTab := [(91, ⟨[.v (.slice 2 i64)], [(.slice 2 i64)], true, false, 0, g91⟩), (157, ⟨[.v (.slice 2 i64)], [i64], false, false, 0, g157⟩)]
abbrev kr156 : Env → Option R156 := endK TT [.tmp 6] [(.slice 2 i64)] true false
abbrev sh156_8 : Shape := [(0, vv i64), (2, vr 2 i64 33 false), (9, vv i64), (14, .val false [.fz (.slice 24 (.slice 2 i64)) 0 true]), (15, vv i64), (16, vv i64), (27, .val false [.fz (.slice 2 i64) 0 true]), (28, vv i64), (29, vv i64)]
def st156_8 (g91 : G91) (g157 : G157) (F : Nat) (s : ShVal sh156_8) (k kx : ShVal sh156_8 → Option R156) : Option R156 :=
  match s with
  | ((t0, _), (t2, _), (t9, _), (t14, _), (t15, _), (t16, _), (t27, _), (t28, _), (t29, _), _) => (bif decide (t29 < t28) then (bif ib t29 (Int.ofNat (List.length t27)) then (bif ib t29 (Int.ofNat (List.length t2)) then (bif (!decide (t0 = (0 : Int))) then (bif ib t29 (Int.ofNat (List.length t2)) then k ((t0, ()), (((List.set t2 (tn t29) (Int.tmod (w6 ((List.getD t2 (tn t29) (0 : Int)) + (w6 ((w6 (t0 - t9)) * (List.getD t27 (tn t29) (0 : Int)))))) t0)), ()), ((t9, ()), ((t14, ()), ((t15, ()), ((t16, ()), ((t27, ()), ((t28, ()), (((w6 (t29 + (1 : Int))), ()), ()))))))))) else none) else none) else none) else none) else kx ((t0, ()), ((t2, ()), ((t9, ()), ((t14, ()), ((t15, ()), ((t16, ()), ((t27, ()), ((t28, ()), ((t29, ()), ()))))))))))
def ru156_8 (g91 : G91) (g157 : G157) (F : Nat) (s : ShVal sh156_8) (kx : ShVal sh156_8 → Option R156) : Option R156 := iter (fun s k => st156_8 g91 g157 F s k kx) F s
abbrev ls156_8 (g91 : G91) (g157 : G157) (F : Nat) : LS R156 := ⟨sh156_8, 2, ru156_8 g91 g157 F⟩
abbrev sh156_3 : Shape := [(0, vv i64), (2, vr 2 i64 33 false), (14, .val false [.fz (.slice 24 (.slice 2 i64)) 0 true]), (15, vv i64), (16, vv i64)]
def st156_3 (g91 : G91) (g157 : G157) (F : Nat) (s : ShVal sh156_3) (k kx : ShVal sh156_3 → Option R156) : Option R156 :=
  match s with
  | ((t0, _), (t2, _), (t14, _), (t15, _), (t16, _), _) => (bif decide (t16 < t15) then (bif ib t16 (Int.ofNat (List.length t14)) then (match (g157 ((List.getD t14 (tn t16) []), ())) with | some r17 => (bif ib r17.1 (Int.ofNat (List.length t2)) then (bif (!decide ((List.getD t2 (tn r17.1) (0 : Int)) = (0 : Int))) then (bif decide ((List.length (List.getD t14 (tn t16) [])) ≤ 9223372036854775807) then (ru156_8 g91 g157 F ((t0, ()), ((t2, ()), (((List.getD t2 (tn r17.1) (0 : Int)), ()), ((t14, ()), ((t15, ()), ((t16, ()), (((List.getD t14 (tn t16) []), ()), (((Int.ofNat (List.length (List.getD t14 (tn t16) []))), ()), (((0 : Int), ()), ()))))))))) (fun s' => match s' with | ((t0, _), (t2, _), (t9, _), (t14, _), (t15, _), (t16, _), (t27, _), (t28, _), (t29, _), _) => k ((t0, ()), ((t2, ()), ((t14, ()), ((t15, ()), (((w6 (t16 + (1 : Int))), ()), ()))))))) else none) else k ((t0, ()), ((t2, ()), ((t14, ()), ((t15, ()), (((w6 (t16 + (1 : Int))), ()), ())))))) else none) | none => none) else none) else kx ((t0, ()), ((t2, ()), ((t14, ()), ((t15, ()), ((t16, ()), ()))))))
def ru156_3 (g91 : G91) (g157 : G157) (F : Nat) (s : ShVal sh156_3) (kx : ShVal sh156_3 → Option R156) : Option R156 := iter (fun s k => st156_3 g91 g157 F s k kx) F s
abbrev ls156_3 (g91 : G91) (g157 : G157) (F : Nat) : LS R156 := ⟨sh156_3, 0, ru156_3 g91 g157 F⟩
def fn156 (g91 : G91) (g157 : G157) (F : Nat) (x : Args [.v i64, .v (.slice 24 (.slice 2 i64)), .v (.slice 2 i64)]) : Option R156 :=
  match x with
  | (x0, x1, x2, _) => (match (g91 (x2, ())) with | some r7 => (bif decide ((List.length x1) ≤ 9223372036854775807) then (ru156_3 g91 g157 F ((x0, ()), ((r7.1, ()), ((x1, ()), (((Int.ofNat (List.length x1)), ()), (((0 : Int), ()), ()))))) (fun s' => match s' with | ((t0, _), (t2, _), (t14, _), (t15, _), (t16, _), _) => (some (t2, ())))) else none) | none => none)
theorem ev156_8 (g91 : G91) (g157 : G157) (F : Nat) (s : ShVal sh156_8) (k kx : ShVal sh156_8 → Option R156) : evL TT (ct156 g91 g157 ) kp156 [] (loopOf Try.f156 8) (envOf sh156_8 s) (fitK sh156_8 k) (fun j e => bif Nat.beq j 2 then fitK sh156_8 kx e else none) kr156 = st156_8 g91 g157 F s k kx := by
  obtain ⟨⟨t0, _⟩, ⟨t2, _⟩, ⟨t9, _⟩, ⟨t14, _⟩, ⟨t15, _⟩, ⟨t16, _⟩, ⟨t27, _⟩, ⟨t28, _⟩, ⟨t29, _⟩, _⟩ := s
  kernel_rfl
theorem ok156_8 (g91 : G91) (g157 : G157) (F : Nat) (hK : KOK Try.prog (ct156 g91 g157 )) : LSOK Try.prog ⟨52, false, undef⟩ (ls156_8 g91 g157 F) (loopOf Try.f156 8) kr156 :=
  loop_ok (st156_8 g91 g157 F) mixed tt_ok hK (by kernel_rfl) (LTOK_by (l := []) (by kernel_rfl) trivial) (ev156_8 g91 g157 F)
theorem ev156_3 (g91 : G91) (g157 : G157) (F : Nat) (s : ShVal sh156_3) (k kx : ShVal sh156_3 → Option R156) : evL TT (ct156 g91 g157 ) kp156 [(8, ls156_8 g91 g157 F)] (loopOf Try.f156 3) (envOf sh156_3 s) (fitK sh156_3 k) (fun j e => bif Nat.beq j 0 then fitK sh156_3 kx e else none) kr156 = st156_3 g91 g157 F s k kx := by
  obtain ⟨⟨t0, _⟩, ⟨t2, _⟩, ⟨t14, _⟩, ⟨t15, _⟩, ⟨t16, _⟩, _⟩ := s
  kernel_rfl
theorem ok156_3 (g91 : G91) (g157 : G157) (F : Nat) (hK : KOK Try.prog (ct156 g91 g157 )) : LSOK Try.prog ⟨52, false, undef⟩ (ls156_3 g91 g157 F) (loopOf Try.f156 3) kr156 :=
  loop_ok (st156_3 g91 g157 F) mixed tt_ok hK (by kernel_rfl) (LTOK_by (l := [loopOf Try.f156 8]) (by kernel_rfl) ⟨ls_at (by kernel_rfl) (ok156_8 g91 g157 F hK), trivial⟩) (ev156_3 g91 g157 F)
theorem ev156 (g91 : G91) (g157 : G157) (F : Nat) (x : Args [.v i64, .v (.slice 24 (.slice 2 i64)), .v (.slice 2 i64)]) : fnK TT (ct156 g91 g157 ) kp156 [(.slice 2 i64)] [(3, ls156_3 g91 g157 F)] (bodyOf Try.f156) [.tmp 6] [.v i64, .v (.slice 24 (.slice 2 i64)), .v (.slice 2 i64)] true false x = fn156 g91 g157 F x := by
  obtain ⟨x0, x1, x2, _⟩ := x
  kernel_rfl
theorem ok156 (g91 : G91) (g157 : G157) (hK : KOK Try.prog (ct156 g91 g157 )) (cf : G156) (h : ∀ x y, cf x = some y → ∃ F, fn156 g91 g157 F x = some y) : KOne Try.prog 156 ⟨[.v i64, .v (.slice 24 (.slice 2 i64)), .v (.slice 2 i64)], [(.slice 2 i64)], true, false, 0, cf⟩ :=
  fn_one rfl (c := bodyOf Try.f156) mixed tt_ok hK Try.func156 (by kernel_rfl) (by kernel_rfl) (Nat.le_of_ble_eq_true (by kernel_rfl)) (by decide) fun x y hxy => by
    obtain ⟨F, hF⟩ := h x y hxy
    exact ⟨[(3, ls156_3 g91 g157 F)], LTOK_by (l := [loopOf Try.f156 3]) (by kernel_rfl) ⟨ls_at (by kernel_rfl) (ok156_3 g91 g157 F hK), trivial⟩, (ev156 g91 g157 F x).trans hF⟩
/-! impl.take -/
abbrev R172 : Type := Ress [(.slice 24 (.slice 2 i64))]
abbrev G172 : Type := Args [.v i64, .v (.slice 24 (.slice 2 i64)), .v (.slice 2 i64)] → Option R172
abbrev kp172 : List (Nat × List Nat) := [(0, [2, 0, 1]), (1, [2, 0, 1]), (2, [2, 0, 7, 1]), (3, [19, 2, 0, 7, 1]), (4, [6]), (5, [0, 8, 2, 1]), (6, [29, 0, 8, 2, 1, 28]), (7, [30, 29, 0, 8, 2, 1, 28]), (8, [9, 29, 0, 8, 2, 1, 28]), (9, [29, 0, 8, 2, 1, 28]), (10, [29, 0, 8, 2, 1, 28]), (11, [46, 2, 0, 1, 44, 45]), (12, [47, 46, 2, 0, 1, 44, 45]), (13, [10, 11, 46, 2, 0, 1, 44, 45]), (14, [46, 2, 0, 1, 44, 45]), (15, [46, 2, 0, 1, 44, 45]), (16, [6])]
abbrev ct172 (g156 : G156) (g79 : G79) (g157 : G157) : CTab := [(156, ⟨[.v i64, .v (.slice 24 (.slice 2 i64)), .v (.slice 2 i64)], [(.slice 2 i64)], true, false, 0, g156⟩), (79, ⟨[.v i64, .v i64], [i64], false, false, 0, g79⟩), (157, ⟨[.v (.slice 2 i64)], [i64], false, false, 0, g157⟩)]
abbrev kr172 : Env → Option R172 := endK TT [.tmp 6] [(.slice 24 (.slice 2 i64))] true false
abbrev sh172_7 : Shape := [(0, vv i64), (1, vr 24 (.slice 2 i64) 17 false), (2, vr 2 i64 33 false), (8, vv i64), (28, vv i64), (29, vv i64)]
def st172_7 (g156 : G156) (g79 : G79) (g157 : G157) (F : Nat) (s : ShVal sh172_7) (k kx : ShVal sh172_7 → Option R172) : Option R172 :=
  match s with
  | ((t0, _), (t1, _), (t2, _), (t8, _), (t28, _), (t29, _), _) => (bif decide (t29 < t28) then (bif ib t29 (Int.ofNat (List.length t2)) then (bif (!decide (t0 = (0 : Int))) then (bif ib t29 (Int.ofNat (List.length t2)) then k ((t0, ()), ((t1, ()), (((List.set t2 (tn t29) (Int.tmod (w6 ((List.getD t2 (tn t29) (0 : Int)) * t8)) t0)), ()), ((t8, ()), ((t28, ()), (((w6 (t29 + (1 : Int))), ()), ())))))) else none) else none) else none) else kx ((t0, ()), ((t1, ()), ((t2, ()), ((t8, ()), ((t28, ()), ((t29, ()), ())))))))
def ru172_7 (g156 : G156) (g79 : G79) (g157 : G157) (F : Nat) (s : ShVal sh172_7) (kx : ShVal sh172_7 → Option R172) : Option R172 := iter (fun s k => st172_7 g156 g79 g157 F s k kx) F s
abbrev ls172_7 (g156 : G156) (g79 : G79) (g157 : G157) (F : Nat) : LS R172 := ⟨sh172_7, 0, ru172_7 g156 g79 g157 F⟩
abbrev sh172_12 : Shape := [(0, vv i64), (1, vr 24 (.slice 2 i64) 17 false), (2, vr 2 i64 33 false), (44, vr 24 (.slice 2 i64) 17 false), (45, vv i64), (46, vv i64)]
def st172_12 (g156 : G156) (g79 : G79) (g157 : G157) (F : Nat) (s : ShVal sh172_12) (k kx : ShVal sh172_12 → Option R172) : Option R172 :=
  match s with
  | ((t0, _), (t1, _), (t2, _), (t44, _), (t45, _), (t46, _), _) => (bif decide (t46 < t45) then (bif ib t46 (Int.ofNat (List.length t44)) then (match (g156 (t0, ((t2 :: []), ((List.getD t44 (tn t46) []), ())))) with | some r31 => (bif ib t46 (Int.ofNat (List.length t1)) then k ((t0, ()), (((List.set t1 (tn t46) r31.1), ()), ((t2, ()), (((List.set t44 (tn t46) r31.1), ()), ((t45, ()), (((w6 (t46 + (1 : Int))), ()), ())))))) else none) | none => none) else none) else kx ((t0, ()), ((t1, ()), ((t2, ()), ((t44, ()), ((t45, ()), ((t46, ()), ())))))))
def ru172_12 (g156 : G156) (g79 : G79) (g157 : G157) (F : Nat) (s : ShVal sh172_12) (kx : ShVal sh172_12 → Option R172) : Option R172 := iter (fun s k => st172_12 g156 g79 g157 F s k kx) F s
abbrev ls172_12 (g156 : G156) (g79 : G79) (g157 : G157) (F : Nat) : LS R172 := ⟨sh172_12, 2, ru172_12 g156 g79 g157 F⟩
def fn172 (g156 : G156) (g79 : G79) (g157 : G157) (F : Nat) (x : Args [.v i64, .v (.slice 24 (.slice 2 i64)), .v (.slice 2 i64)]) : Option R172 :=
  match x with
  | (x0, x1, x2, _) => (match (g156 (x0, (x1, (x2, ())))) with | some r8 => (match (g157 (r8.1, ())) with | some r10 => (bif decide (r10.1 < (0 : Int)) then (some (x1, ())) else (bif ib r10.1 (Int.ofNat (List.length r8.1)) then (match (g79 ((List.getD r8.1 (tn r10.1) (0 : Int)), (x0, ()))) with | some r13 => (bif decide ((List.length r8.1) ≤ 9223372036854775807) then (ru172_7 g156 g79 g157 F ((x0, ()), ((x1, ()), ((r8.1, ()), ((r13.1, ()), (((Int.ofNat (List.length r8.1)), ()), (((0 : Int), ()), ())))))) (fun s' => match s' with | ((t0, _), (t1, _), (t2, _), (t8, _), (t28, _), (t29, _), _) => (bif decide ((List.length t1) ≤ 9223372036854775807) then (ru172_12 g156 g79 g157 F ((t0, ()), ((t1, ()), ((t2, ()), ((t1, ()), (((Int.ofNat (List.length t1)), ()), (((0 : Int), ()), ())))))) (fun s' => match s' with | ((t0, _), (t1, _), (t2, _), (t44, _), (t45, _), (t46, _), _) => (bif (growOk (List.length t1) (List.length (t2 :: []))) then (some ((t1 ++ (t2 :: [])), ())) else none))) else none))) else none) | none => none) else none)) | none => none) | none => none)
theorem ev172_7 (g156 : G156) (g79 : G79) (g157 : G157) (F : Nat) (s : ShVal sh172_7) (k kx : ShVal sh172_7 → Option R172) : evL TT (ct172 g156 g79 g157 ) kp172 [] (loopOf Try.f172 7) (envOf sh172_7 s) (fitK sh172_7 k) (fun j e => bif Nat.beq j 0 then fitK sh172_7 kx e else none) kr172 = st172_7 g156 g79 g157 F s k kx := by
  obtain ⟨⟨t0, _⟩, ⟨t1, _⟩, ⟨t2, _⟩, ⟨t8, _⟩, ⟨t28, _⟩, ⟨t29, _⟩, _⟩ := s
  kernel_rfl
theorem ok172_7 (g156 : G156) (g79 : G79) (g157 : G157) (F : Nat) (hK : KOK Try.prog (ct172 g156 g79 g157 )) : LSOK Try.prog ⟨64, false, undef⟩ (ls172_7 g156 g79 g157 F) (loopOf Try.f172 7) kr172 :=
  loop_ok (st172_7 g156 g79 g157 F) mixed tt_ok hK (by kernel_rfl) (LTOK_by (l := []) (by kernel_rfl) trivial) (ev172_7 g156 g79 g157 F)
theorem ev172_12 (g156 : G156) (g79 : G79) (g157 : G157) (F : Nat) (s : ShVal sh172_12) (k kx : ShVal sh172_12 → Option R172) : evL TT (ct172 g156 g79 g157 ) kp172 [] (loopOf Try.f172 12) (envOf sh172_12 s) (fitK sh172_12 k) (fun j e => bif Nat.beq j 2 then fitK sh172_12 kx e else none) kr172 = st172_12 g156 g79 g157 F s k kx := by
  obtain ⟨⟨t0, _⟩, ⟨t1, _⟩, ⟨t2, _⟩, ⟨t44, _⟩, ⟨t45, _⟩, ⟨t46, _⟩, _⟩ := s
  kernel_rfl
theorem ok172_12 (g156 : G156) (g79 : G79) (g157 : G157) (F : Nat) (hK : KOK Try.prog (ct172 g156 g79 g157 )) : LSOK Try.prog ⟨64, false, undef⟩ (ls172_12 g156 g79 g157 F) (loopOf Try.f172 12) kr172 :=
  loop_ok (st172_12 g156 g79 g157 F) mixed tt_ok hK (by kernel_rfl) (LTOK_by (l := []) (by kernel_rfl) trivial) (ev172_12 g156 g79 g157 F)
theorem ev172 (g156 : G156) (g79 : G79) (g157 : G157) (F : Nat) (x : Args [.v i64, .v (.slice 24 (.slice 2 i64)), .v (.slice 2 i64)]) : fnX TT (ct172 g156 g79 g157 ) kp172 .i64 24 (.slice 2 i64) (.slice 2 i64) (.slice 24 (.slice 2 i64)) [(7, ls172_7 g156 g79 g157 F), (12, ls172_12 g156 g79 g157 F)] (bodyOf Try.f172) [.tmp 6] x = fn172 g156 g79 g157 F x := by
  obtain ⟨x0, x1, x2, _⟩ := x
  kernel_rfl
theorem ok172 (g156 : G156) (g79 : G79) (g157 : G157) (hK : KOK Try.prog (ct172 g156 g79 g157 )) (cf : G172) (h : ∀ x y, cf x = some y → ∃ F, fn172 g156 g79 g157 F x = some y) : KOne Try.prog 172 ⟨[.v i64, .v (.slice 24 (.slice 2 i64)), .v (.slice 2 i64)], [(.slice 24 (.slice 2 i64))], true, false, 2, cf⟩ :=
  fnX_one (c := bodyOf Try.f172) mixed tt_ok hK Try.func172 (by kernel_rfl) (by kernel_rfl) (Nat.le_of_ble_eq_true (by kernel_rfl)) (by decide) fun x y hxy => by
    obtain ⟨F, hF⟩ := h x y hxy
    exact ⟨[(7, ls172_7 g156 g79 g157 F), (12, ls172_12 g156 g79 g157 F)], LTOK_by (l := [loopOf Try.f172 7, loopOf Try.f172 12]) (by kernel_rfl) ⟨ls_at (by kernel_rfl) (ok172_7 g156 g79 g157 F hK), ⟨ls_at (by kernel_rfl) (ok172_12 g156 g79 g157 F hK), trivial⟩⟩, (ev172 g156 g79 g157 F x).trans hF⟩
/-! impl.reduce$1 -/
abbrev R174 : Type := Ress [i64]
abbrev G174 : Type := Args [.v (.slice 2 i64), .v (.slice 2 i64)] → Option R174
abbrev kp174 : List (Nat × List Nat) := [(0, [0, 1]), (1, [4])]
abbrev ct174 (g157 : G157) : CTab := [(157, ⟨[.v (.slice 2 i64)], [i64], false, false, 0, g157⟩)]
abbrev kr174 : Env → Option R174 := endK TT [.tmp 4] [i64] false false
def fn174 (g157 : G157) (F : Nat) (x : Args [.v (.slice 2 i64), .v (.slice 2 i64)]) : Option R174 :=
  match x with
  | (x0, x1, _) => (match (g157 (x0, ())) with | some r5 => (match (g157 (x1, ())) with | some r6 => (some ((w6 (r5.1 - r6.1)), ())) | none => none) | none => none)
theorem ev174 (g157 : G157) (F : Nat) (x : Args [.v (.slice 2 i64), .v (.slice 2 i64)]) : fnK TT (ct174 g157 ) kp174 [i64] [] (bodyOf Try.f174) [.tmp 4] [.v (.slice 2 i64), .v (.slice 2 i64)] false false x = fn174 g157 F x := by
  obtain ⟨x0, x1, _⟩ := x
  kernel_rfl
theorem ok174 (g157 : G157) (hK : KOK Try.prog (ct174 g157 )) (cf : G174) (h : ∀ x y, cf x = some y → ∃ F, fn174 g157 F x = some y) : KOne Try.prog 174 ⟨[.v (.slice 2 i64), .v (.slice 2 i64)], [i64], false, false, 0, cf⟩ :=
  fn_one rfl (c := bodyOf Try.f174) mixed tt_ok hK Try.func174 (by kernel_rfl) (by kernel_rfl) (Nat.le_of_ble_eq_true (by kernel_rfl)) (by decide) fun x y hxy => by
    obtain ⟨F, hF⟩ := h x y hxy
    exact ⟨[], LTOK_by (l := []) (by kernel_rfl) trivial, (ev174 g157 F x).trans hF⟩
/-! impl.reduce -/
abbrev R145 : Type := Ress [(.slice 24 (.slice 2 i64))]
abbrev G145 : Type := Args [.v i64, .v (.slice 24 (.slice 2 i64))] → Option R145
abbrev kp145 : List (Nat × List Nat) := [(0, [1, 0]), (1, [1, 5, 0]), (2, [11, 5, 0, 9, 10]), (3, [12, 5, 11, 0, 9, 10]), (4, [5, 7, 11, 0, 9, 10]), (5, [11, 5, 0, 9, 10]), (6, [11, 5, 0, 9, 10]), (7, [5]), (8, [4])]
abbrev ct145 (g173 : G173) (g172 : G172) : CTab := [(173, ⟨[.v (.slice 24 (.slice 2 i64)), .fn 174], [(.slice 24 (.slice 2 i64))], false, false, 1, g173⟩), (172, ⟨[.v i64, .v (.slice 24 (.slice 2 i64)), .v (.slice 2 i64)], [(.slice 24 (.slice 2 i64))], true, false, 2, g172⟩)]
abbrev kr145 : Env → Option R145 := endK TT [.tmp 4] [(.slice 24 (.slice 2 i64))] true false
abbrev sh145_3 : Shape := [(0, vv i64), (5, vr 24 (.slice 2 i64) 81 false), (9, .val false [.fz (.slice 24 (.slice 2 i64)) 0 true]), (10, vv i64), (11, vv i64)]
def st145_3 (g173 : G173) (g172 : G172) (F : Nat) (s : ShVal sh145_3) (k kx : ShVal sh145_3 → Option R145) : Option R145 :=
  match s with
  | ((t0, _), (t5, _), (t9, _), (t10, _), (t11, _), _) => (bif decide (t11 < t10) then (bif ib t11 (Int.ofNat (List.length t9)) then (match (g172 (t0, (t5, ((List.getD t9 (tn t11) []), ())))) with | some r15 => k ((t0, ()), ((r15.1, ()), ((t9, ()), ((t10, ()), (((w6 (t11 + (1 : Int))), ()), ()))))) | none => none) else none) else kx ((t0, ()), ((t5, ()), ((t9, ()), ((t10, ()), ((t11, ()), ()))))))
def ru145_3 (g173 : G173) (g172 : G172) (F : Nat) (s : ShVal sh145_3) (kx : ShVal sh145_3 → Option R145) : Option R145 := iter (fun s k => st145_3 g173 g172 F s k kx) F s
abbrev ls145_3 (g173 : G173) (g172 : G172) (F : Nat) : LS R145 := ⟨sh145_3, 0, ru145_3 g173 g172 F⟩
def fn145 (g173 : G173) (g172 : G172) (F : Nat) (x : Args [.v i64, .v (.slice 24 (.slice 2 i64))]) : Option R145 :=
  match x with
  | (x0, x1, _) => (bif decide ((List.length x1) ≤ 9223372036854775807) then (ru145_3 g173 g172 F ((x0, ()), (([], ()), ((x1, ()), (((Int.ofNat (List.length x1)), ()), (((0 : Int), ()), ()))))) (fun s' => match s' with | ((t0, _), (t5, _), (t9, _), (t10, _), (t11, _), _) => (match (g173 (t5, ((), ()))) with | some r13 => (some ((bif ((Nat.beq 24 24) && ((Nat.beq 2 2) && true)) then r13.1 else []), ())) | none => none))) else none)
theorem ev145_3 (g173 : G173) (g172 : G172) (F : Nat) (s : ShVal sh145_3) (k kx : ShVal sh145_3 → Option R145) : evL TT (ct145 g173 g172 ) kp145 [] (loopOf Try.f145 3) (envOf sh145_3 s) (fitK sh145_3 k) (fun j e => bif Nat.beq j 0 then fitK sh145_3 kx e else none) kr145 = st145_3 g173 g172 F s k kx := by
  obtain ⟨⟨t0, _⟩, ⟨t5, _⟩, ⟨t9, _⟩, ⟨t10, _⟩, ⟨t11, _⟩, _⟩ := s
  kernel_rfl
theorem ok145_3 (g173 : G173) (g172 : G172) (F : Nat) (hK : KOK Try.prog (ct145 g173 g172 )) : LSOK Try.prog ⟨23, false, undef⟩ (ls145_3 g173 g172 F) (loopOf Try.f145 3) kr145 :=
  loop_ok (st145_3 g173 g172 F) mixed tt_ok hK (by kernel_rfl) (LTOK_by (l := []) (by kernel_rfl) trivial) (ev145_3 g173 g172 F)
theorem ev145 (g173 : G173) (g172 : G172) (F : Nat) (x : Args [.v i64, .v (.slice 24 (.slice 2 i64))]) : fnK TT (ct145 g173 g172 ) kp145 [(.slice 24 (.slice 2 i64))] [(3, ls145_3 g173 g172 F)] (bodyOf Try.f145) [.tmp 4] [.v i64, .v (.slice 24 (.slice 2 i64))] true false x = fn145 g173 g172 F x := by
  obtain ⟨x0, x1, _⟩ := x
  kernel_rfl
theorem ok145 (g173 : G173) (g172 : G172) (hK : KOK Try.prog (ct145 g173 g172 )) (cf : G145) (h : ∀ x y, cf x = some y → ∃ F, fn145 g173 g172 F x = some y) : KOne Try.prog 145 ⟨[.v i64, .v (.slice 24 (.slice 2 i64))], [(.slice 24 (.slice 2 i64))], true, false, 0, cf⟩ :=
  fn_one rfl (c := bodyOf Try.f145) mixed tt_ok hK Try.func145 (by kernel_rfl) (by kernel_rfl) (Nat.le_of_ble_eq_true (by kernel_rfl)) (by decide) fun x y hxy => by
    obtain ⟨F, hF⟩ := h x y hxy
    exact ⟨[(3, ls145_3 g173 g172 F)], LTOK_by (l := [loopOf Try.f145 3]) (by kernel_rfl) ⟨ls_at (by kernel_rfl) (ok145_3 g173 g172 F hK), trivial⟩, (ev145 g173 g172 F x).trans hF⟩
end Go.Proofs.YtkoifikjfnbcpaaEv
