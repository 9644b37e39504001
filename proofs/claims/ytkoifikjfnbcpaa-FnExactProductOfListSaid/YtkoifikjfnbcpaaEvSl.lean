/- What functions of the program come to, printed by a program of this work: loops by their steps, calls by what is known of them; each text is checked by the kernel. No condition. -/
import Derived.Test.YtkoifikjfnbcpaaEvTst
set_option linter.unusedVariables false
namespace Go.Proofs.YtkoifikjfnbcpaaEv
open Go Go.RowKit
/-! laws.eqExps -/
abbrev R171 : Type := Ress [.bool]
abbrev G171 : Type := Args [.v ex, .v ex] → Option R171
abbrev kp171 : List (Nat × List Nat) := [(0, [3, 2]), (1, [5, 3, 2]), (2, [7, 2, 3, 5]), (4, [16, 2, 3, 5]), (5, [4]), (3, [5, 3, 2]), (6, [4])]
abbrev ct171 : CTab := []
abbrev kr171 : Env → Option R171 := endK TT [.tmp 4] [.bool] false false
abbrev sh171_2 : Shape := [(2, bb ex), (3, bb ex), (5, vv i64)]
def st171_2 (F : Nat) (s : ShVal sh171_2) (k kx : ShVal sh171_2 → Option R171) : Option R171 :=
  match s with
  | ((t2, _), (t3, _), (t5, _), _) => (bif decide (t5 < (3 : Int)) then (bif ib t5 (Int.ofNat 3) then (bif ib t5 (Int.ofNat 3) then (bif (!decide ((tget (0 : Int) 3 t2 (tn t5)) = (tget (0 : Int) 3 t3 (tn t5)))) then (some (false, ())) else k ((t2, ()), ((t3, ()), (((w6 (t5 + (1 : Int))), ()), ())))) else none) else none) else kx ((t2, ()), ((t3, ()), ((t5, ()), ()))))
def ru171_2 (F : Nat) (s : ShVal sh171_2) (kx : ShVal sh171_2 → Option R171) : Option R171 := iter (fun s k => st171_2 F s k kx) F s
abbrev ls171_2 (F : Nat) : LS R171 := ⟨sh171_2, 0, ru171_2 F⟩
def fn171 (F : Nat) (x : Args [.v ex, .v ex]) : Option R171 :=
  match x with
  | (x0, x1, _) => (ru171_2 F ((x0, ()), ((x1, ()), (((0 : Int), ()), ()))) (fun s' => match s' with | ((t2, _), (t3, _), (t5, _), _) => (some (true, ()))))
theorem ev171_2 (F : Nat) (s : ShVal sh171_2) (k kx : ShVal sh171_2 → Option R171) : evL TT (ct171 ) kp171 [] (loopOf Try.f171 2) (envOf sh171_2 s) (fitK sh171_2 k) (fun j e => bif Nat.beq j 0 then fitK sh171_2 kx e else none) kr171 = st171_2 F s k kx := by
  obtain ⟨⟨t2, _⟩, ⟨t3, _⟩, ⟨t5, _⟩, _⟩ := s
  kernel_rfl
theorem ok171_2 (F : Nat) (hK : KOK Try.prog (ct171 )) : LSOK Try.prog ⟨17, false, undef⟩ (ls171_2 F) (loopOf Try.f171 2) kr171 :=
  loop_ok (st171_2 F) mixed tt_ok hK (by kernel_rfl) (LTOK_by (l := []) (by kernel_rfl) trivial) (ev171_2 F)
theorem ev171 (F : Nat) (x : Args [.v ex, .v ex]) : fnK TT (ct171 ) kp171 [.bool] [(2, ls171_2 F)] (bodyOf Try.f171) [.tmp 4] [.v ex, .v ex] false false x = fn171 F x := by
  obtain ⟨x0, x1, _⟩ := x
  kernel_rfl
theorem ok171 (hK : KOK Try.prog (ct171 )) (cf : G171) (h : ∀ x y, cf x = some y → ∃ F, fn171 F x = some y) : KOne Try.prog 171 ⟨[.v ex, .v ex], [.bool], false, false, 0, cf⟩ :=
  fn_one rfl (c := bodyOf Try.f171) mixed tt_ok hK Try.func171 (by kernel_rfl) (by kernel_rfl) (Nat.le_of_ble_eq_true (by kernel_rfl)) (by decide) fun x y hxy => by
    obtain ⟨F, hF⟩ := h x y hxy
    exact ⟨[(2, ls171_2 F)], LTOK_by (l := [loopOf Try.f171 2]) (by kernel_rfl) ⟨ls_at (by kernel_rfl) (ok171_2 F hK), trivial⟩, (ev171 F x).trans hF⟩
/-! laws.eqTerm -/
abbrev R144 : Type := Ress [.bool]
abbrev G144 : Type := Args [.v term, .v term] → Option R144
abbrev kp144 : List (Nat × List Nat) := [(0, [3, 2]), (1, [10, 3, 2]), (2, [4]), (3, [15]), (4, [4]), (5, [4])]
abbrev ct144 (g171 : G171) : CTab := [(171, ⟨[.v ex, .v ex], [.bool], false, false, 0, g171⟩)]
abbrev kr144 : Env → Option R144 := endK TT [.tmp 4] [.bool] false false
def fn144 (g171 : G171) (F : Nat) (x : Args [.v term, .v term]) : Option R144 :=
  match x with
  | (x0, x1, _) => (match (g171 (x0.1, (x1.1, ()))) with | some r5 => (bif (!r5.1) then (some (false, ())) else (bif (!decide (x0.2.1 = x1.2.1)) then (some (false, ())) else (some (true, ())))) | none => none)
theorem ev144 (g171 : G171) (F : Nat) (x : Args [.v term, .v term]) : fnK TT (ct144 g171 ) kp144 [.bool] [] (bodyOf Try.f144) [.tmp 4] [.v term, .v term] false false x = fn144 g171 F x := by
  obtain ⟨x0, x1, _⟩ := x
  kernel_rfl
theorem ok144 (g171 : G171) (hK : KOK Try.prog (ct144 g171 )) (cf : G144) (h : ∀ x y, cf x = some y → ∃ F, fn144 g171 F x = some y) : KOne Try.prog 144 ⟨[.v term, .v term], [.bool], false, false, 0, cf⟩ :=
  fn_one rfl (c := bodyOf Try.f144) mixed tt_ok hK Try.func144 (by kernel_rfl) (by kernel_rfl) (Nat.le_of_ble_eq_true (by kernel_rfl)) (by decide) fun x y hxy => by
    obtain ⟨F, hF⟩ := h x y hxy
    exact ⟨[], LTOK_by (l := []) (by kernel_rfl) trivial, (ev144 g171 F x).trans hF⟩
/-! laws.eqTermS -/
abbrev R92 : Type := Ress [.bool]
abbrev G92 : Type := Args [.v (.slice 135 term), .v (.slice 135 term)] → Option R92
abbrev kp92 : List (Nat × List Nat) := [(0, [0, 1]), (1, [10, 0, 1]), (2, [4]), (3, [5, 1, 0]), (4, [14, 0, 1, 5]), (6, [26, 0, 1, 5]), (7, [4]), (5, [5, 1, 0]), (8, [4])]
abbrev ct92 (g144 : G144) : CTab := [(144, ⟨[.v term, .v term], [.bool], false, false, 0, g144⟩)]
abbrev kr92 : Env → Option R92 := endK TT [.tmp 4] [.bool] false false
abbrev sh92_4 : Shape := [(0, .val false [.fz (.slice 135 term) 0 true]), (1, .val false [.fz (.slice 135 term) 0 true]), (5, vv i64)]
def st92_4 (g144 : G144) (F : Nat) (s : ShVal sh92_4) (k kx : ShVal sh92_4 → Option R92) : Option R92 :=
  match s with
  | ((t0, _), (t1, _), (t5, _), _) => (bif decide ((List.length t0) ≤ 9223372036854775807) then (bif decide (t5 < (Int.ofNat (List.length t0))) then (bif ib t5 (Int.ofNat (List.length t0)) then (bif ib t5 (Int.ofNat (List.length t1)) then (match (g144 ((List.getD t0 (tn t5) (Ty.dflt (.pair (.arr 3 (.int .u8)) (.pair (.int .i64) .unit)))), ((List.getD t1 (tn t5) (Ty.dflt (.pair (.arr 3 (.int .u8)) (.pair (.int .i64) .unit)))), ()))) with | some r11 => (bif (!r11.1) then (some (false, ())) else k ((t0, ()), ((t1, ()), (((w6 (t5 + (1 : Int))), ()), ())))) | none => none) else none) else none) else kx ((t0, ()), ((t1, ()), ((t5, ()), ())))) else none)
def ru92_4 (g144 : G144) (F : Nat) (s : ShVal sh92_4) (kx : ShVal sh92_4 → Option R92) : Option R92 := iter (fun s k => st92_4 g144 F s k kx) F s
abbrev ls92_4 (g144 : G144) (F : Nat) : LS R92 := ⟨sh92_4, 0, ru92_4 g144 F⟩
def fn92 (g144 : G144) (F : Nat) (x : Args [.v (.slice 135 term), .v (.slice 135 term)]) : Option R92 :=
  match x with
  | (x0, x1, _) => (bif decide ((List.length x0) ≤ 9223372036854775807) then (bif decide ((List.length x1) ≤ 9223372036854775807) then (bif (!decide ((Int.ofNat (List.length x0)) = (Int.ofNat (List.length x1)))) then (some (false, ())) else (ru92_4 g144 F ((x0, ()), ((x1, ()), (((0 : Int), ()), ()))) (fun s' => match s' with | ((t0, _), (t1, _), (t5, _), _) => (some (true, ()))))) else none) else none)
theorem ev92_4 (g144 : G144) (F : Nat) (s : ShVal sh92_4) (k kx : ShVal sh92_4 → Option R92) : evL TT (ct92 g144 ) kp92 [] (loopOf Try.f92 4) (envOf sh92_4 s) (fitK sh92_4 k) (fun j e => bif Nat.beq j 0 then fitK sh92_4 kx e else none) kr92 = st92_4 g144 F s k kx := by
  obtain ⟨⟨t0, _⟩, ⟨t1, _⟩, ⟨t5, _⟩, _⟩ := s
  kernel_rfl
theorem ok92_4 (g144 : G144) (F : Nat) (hK : KOK Try.prog (ct92 g144 )) : LSOK Try.prog ⟨27, false, undef⟩ (ls92_4 g144 F) (loopOf Try.f92 4) kr92 :=
  loop_ok (st92_4 g144 F) mixed tt_ok hK (by kernel_rfl) (LTOK_by (l := []) (by kernel_rfl) trivial) (ev92_4 g144 F)
theorem ev92 (g144 : G144) (F : Nat) (x : Args [.v (.slice 135 term), .v (.slice 135 term)]) : fnK TT (ct92 g144 ) kp92 [.bool] [(4, ls92_4 g144 F)] (bodyOf Try.f92) [.tmp 4] [.v (.slice 135 term), .v (.slice 135 term)] false false x = fn92 g144 F x := by
  obtain ⟨x0, x1, _⟩ := x
  kernel_rfl
theorem ok92 (g144 : G144) (hK : KOK Try.prog (ct92 g144 )) (cf : G92) (h : ∀ x y, cf x = some y → ∃ F, fn92 g144 F x = some y) : KOne Try.prog 92 ⟨[.v (.slice 135 term), .v (.slice 135 term)], [.bool], false, false, 0, cf⟩ :=
  fn_one rfl (c := bodyOf Try.f92) mixed tt_ok hK Try.func92 (by kernel_rfl) (by kernel_rfl) (Nat.le_of_ble_eq_true (by kernel_rfl)) (by decide) fun x y hxy => by
    obtain ⟨F, hF⟩ := h x y hxy
    exact ⟨[(4, ls92_4 g144 F)], LTOK_by (l := [loopOf Try.f92 4]) (by kernel_rfl) ⟨ls_at (by kernel_rfl) (ok92_4 g144 F hK), trivial⟩, (ev92 g144 F x).trans hF⟩
/-! laws.eqPoly -/
abbrev R39 : Type := Ress [.bool]
abbrev G39 : Type := Args [.v poly, .v poly] → Option R39
abbrev kp39 : List (Nat × List Nat) := [(0, [2, 3]), (1, [9, 2, 3]), (2, [4]), (3, [14, 3, 2]), (4, [4]), (5, [20]), (6, [4]), (7, [4])]
abbrev ct39 (g92 : G92) : CTab := [(92, ⟨[.v (.slice 135 term), .v (.slice 135 term)], [.bool], false, false, 0, g92⟩)]
abbrev kr39 : Env → Option R39 := endK TT [.tmp 4] [.bool] false false
def fn39 (g92 : G92) (F : Nat) (x : Args [.v poly, .v poly]) : Option R39 :=
  match x with
  | (x0, x1, _) => (bif (!decide (x0.1 = x1.1)) then (some (false, ())) else (bif (!decide (x0.2.1 = x1.2.1)) then (some (false, ())) else (match (g92 (x0.2.2.1, (x1.2.2.1, ()))) with | some r7 => (bif (!r7.1) then (some (false, ())) else (some (true, ()))) | none => none)))
theorem ev39 (g92 : G92) (F : Nat) (x : Args [.v poly, .v poly]) : fnK TT (ct39 g92 ) kp39 [.bool] [] (bodyOf Try.f39) [.tmp 4] [.v poly, .v poly] false false x = fn39 g92 F x := by
  obtain ⟨x0, x1, _⟩ := x
  kernel_rfl
theorem ok39 (g92 : G92) (hK : KOK Try.prog (ct39 g92 )) (cf : G39) (h : ∀ x y, cf x = some y → ∃ F, fn39 g92 F x = some y) : KOne Try.prog 39 ⟨[.v poly, .v poly], [.bool], false, false, 0, cf⟩ :=
  fn_one rfl (c := bodyOf Try.f39) mixed tt_ok hK Try.func39 (by kernel_rfl) (by kernel_rfl) (Nat.le_of_ble_eq_true (by kernel_rfl)) (by decide) fun x y hxy => by
    obtain ⟨F, hF⟩ := h x y hxy
    exact ⟨[], LTOK_by (l := []) (by kernel_rfl) trivial, (ev39 g92 F x).trans hF⟩
/-! laws.heldTermS -/
abbrev R93 : Type := Ress [i64]
abbrev G93 : Type := Args [.v (.slice 135 term), .v i64] → Option R93
abbrev kp93 : List (Nat × List Nat) := [(0, [0, 1]), (1, [0, 5, 1]), (2, [10, 1, 5, 0]), (4, [1, 6, 5, 0]), (5, [14, 0, 5, 6, 1]), (7, [26, 0, 5, 6, 1]), (8, [4]), (9, [6, 1, 5, 0]), (6, [1, 6, 5, 0]), (10, [35, 0, 5, 1]), (11, [4]), (12, [5, 0, 1]), (3, [0, 5, 1]), (13, [4])]
abbrev ct93 : CTab := []
abbrev kr93 : Env → Option R93 := endK TT [.tmp 4] [i64] false false
abbrev sh93_5 : Shape := [(0, .val false [.fz (.slice 135 term) 0 true]), (1, vv i64), (5, vv i64), (6, vv i64)]
def st93_5 (F : Nat) (s : ShVal sh93_5) (k kx : ShVal sh93_5 → Option R93) : Option R93 :=
  match s with
  | ((t0, _), (t1, _), (t5, _), (t6, _), _) => (bif decide (t6 < (3 : Int)) then (bif ib t5 (Int.ofNat (List.length t0)) then (bif ib t6 (Int.ofNat 3) then (bif (!decide ((tget (0 : Int) 3 (List.getD t0 (tn t5) (Ty.dflt (.pair (.arr 3 (.int .u8)) (.pair (.int .i64) .unit)))).1 (tn t6)) = (w8 t1))) then (some ((-(1 : Int)), ())) else k ((t0, ()), (((w6 (t1 + (1 : Int))), ()), ((t5, ()), (((w6 (t6 + (1 : Int))), ()), ()))))) else none) else none) else kx ((t0, ()), ((t1, ()), ((t5, ()), ((t6, ()), ())))))
def ru93_5 (F : Nat) (s : ShVal sh93_5) (kx : ShVal sh93_5 → Option R93) : Option R93 := iter (fun s k => st93_5 F s k kx) F s
abbrev ls93_5 (F : Nat) : LS R93 := ⟨sh93_5, 2, ru93_5 F⟩
abbrev sh93_2 : Shape := [(0, .val false [.fz (.slice 135 term) 0 true]), (1, vv i64), (5, vv i64)]
def st93_2 (F : Nat) (s : ShVal sh93_2) (k kx : ShVal sh93_2 → Option R93) : Option R93 :=
  match s with
  | ((t0, _), (t1, _), (t5, _), _) => (bif decide ((List.length t0) ≤ 9223372036854775807) then (bif decide (t5 < (Int.ofNat (List.length t0))) then (ru93_5 F ((t0, ()), ((t1, ()), ((t5, ()), (((0 : Int), ()), ())))) (fun s' => match s' with | ((t0, _), (t1, _), (t5, _), (t6, _), _) => (bif ib t5 (Int.ofNat (List.length t0)) then (bif (!decide ((List.getD t0 (tn t5) (Ty.dflt (.pair (.arr 3 (.int .u8)) (.pair (.int .i64) .unit)))).2.1 = t1)) then (some ((-(1 : Int)), ())) else k ((t0, ()), (((w6 (t1 + (1 : Int))), ()), (((w6 (t5 + (1 : Int))), ()), ())))) else none))) else kx ((t0, ()), ((t1, ()), ((t5, ()), ())))) else none)
def ru93_2 (F : Nat) (s : ShVal sh93_2) (kx : ShVal sh93_2 → Option R93) : Option R93 := iter (fun s k => st93_2 F s k kx) F s
abbrev ls93_2 (F : Nat) : LS R93 := ⟨sh93_2, 0, ru93_2 F⟩
def fn93 (F : Nat) (x : Args [.v (.slice 135 term), .v i64]) : Option R93 :=
  match x with
  | (x0, x1, _) => (ru93_2 F ((x0, ()), ((x1, ()), (((0 : Int), ()), ()))) (fun s' => match s' with | ((t0, _), (t1, _), (t5, _), _) => (some (t1, ()))))
theorem ev93_5 (F : Nat) (s : ShVal sh93_5) (k kx : ShVal sh93_5 → Option R93) : evL TT (ct93 ) kp93 [] (loopOf Try.f93 5) (envOf sh93_5 s) (fitK sh93_5 k) (fun j e => bif Nat.beq j 2 then fitK sh93_5 kx e else none) kr93 = st93_5 F s k kx := by
  obtain ⟨⟨t0, _⟩, ⟨t1, _⟩, ⟨t5, _⟩, ⟨t6, _⟩, _⟩ := s
  kernel_rfl
theorem ok93_5 (F : Nat) (hK : KOK Try.prog (ct93 )) : LSOK Try.prog ⟨39, false, undef⟩ (ls93_5 F) (loopOf Try.f93 5) kr93 :=
  loop_ok (st93_5 F) mixed tt_ok hK (by kernel_rfl) (LTOK_by (l := []) (by kernel_rfl) trivial) (ev93_5 F)
theorem ev93_2 (F : Nat) (s : ShVal sh93_2) (k kx : ShVal sh93_2 → Option R93) : evL TT (ct93 ) kp93 [(5, ls93_5 F)] (loopOf Try.f93 2) (envOf sh93_2 s) (fitK sh93_2 k) (fun j e => bif Nat.beq j 0 then fitK sh93_2 kx e else none) kr93 = st93_2 F s k kx := by
  obtain ⟨⟨t0, _⟩, ⟨t1, _⟩, ⟨t5, _⟩, _⟩ := s
  kernel_rfl
theorem ok93_2 (F : Nat) (hK : KOK Try.prog (ct93 )) : LSOK Try.prog ⟨39, false, undef⟩ (ls93_2 F) (loopOf Try.f93 2) kr93 :=
  loop_ok (st93_2 F) mixed tt_ok hK (by kernel_rfl) (LTOK_by (l := [loopOf Try.f93 5]) (by kernel_rfl) ⟨ls_at (by kernel_rfl) (ok93_5 F hK), trivial⟩) (ev93_2 F)
theorem ev93 (F : Nat) (x : Args [.v (.slice 135 term), .v i64]) : fnK TT (ct93 ) kp93 [i64] [(2, ls93_2 F)] (bodyOf Try.f93) [.tmp 4] [.v (.slice 135 term), .v i64] false false x = fn93 F x := by
  obtain ⟨x0, x1, _⟩ := x
  kernel_rfl
theorem ok93 (hK : KOK Try.prog (ct93 )) (cf : G93) (h : ∀ x y, cf x = some y → ∃ F, fn93 F x = some y) : KOne Try.prog 93 ⟨[.v (.slice 135 term), .v i64], [i64], false, false, 0, cf⟩ :=
  fn_one rfl (c := bodyOf Try.f93) mixed tt_ok hK Try.func93 (by kernel_rfl) (by kernel_rfl) (Nat.le_of_ble_eq_true (by kernel_rfl)) (by decide) fun x y hxy => by
    obtain ⟨F, hF⟩ := h x y hxy
    exact ⟨[(2, ls93_2 F)], LTOK_by (l := [loopOf Try.f93 2]) (by kernel_rfl) ⟨ls_at (by kernel_rfl) (ok93_2 F hK), trivial⟩, (ev93 F x).trans hF⟩
/-! laws.heldPoly -/
abbrev R41 : Type := Ress [i64]
abbrev G41 : Type := Args [.v poly, .v i64] → Option R41
abbrev kp41 : List (Nat × List Nat) := [(0, [2, 1]), (1, [1]), (2, [10, 1]), (3, [4]), (4, [4])]
abbrev ct41 (g93 : G93) : CTab := [(93, ⟨[.v (.slice 135 term), .v i64], [i64], false, false, 0, g93⟩)]
abbrev kr41 : Env → Option R41 := endK TT [.tmp 4] [i64] false false
def fn41 (g93 : G93) (F : Nat) (x : Args [.v poly, .v i64]) : Option R41 :=
  match x with
  | (x0, x1, _) => (match (g93 (x0.2.2.1, (x1, ()))) with | some r5 => (bif decide (r5.1 < (0 : Int)) then (some ((-(1 : Int)), ())) else (some (r5.1, ()))) | none => none)
theorem ev41 (g93 : G93) (F : Nat) (x : Args [.v poly, .v i64]) : fnK TT (ct41 g93 ) kp41 [i64] [] (bodyOf Try.f41) [.tmp 4] [.v poly, .v i64] false false x = fn41 g93 F x := by
  obtain ⟨x0, x1, _⟩ := x
  kernel_rfl
theorem ok41 (g93 : G93) (hK : KOK Try.prog (ct41 g93 )) (cf : G41) (h : ∀ x y, cf x = some y → ∃ F, fn41 g93 F x = some y) : KOne Try.prog 41 ⟨[.v poly, .v i64], [i64], false, false, 0, cf⟩ :=
  fn_one rfl (c := bodyOf Try.f41) mixed tt_ok hK Try.func41 (by kernel_rfl) (by kernel_rfl) (Nat.le_of_ble_eq_true (by kernel_rfl)) (by decide) fun x y hxy => by
    obtain ⟨F, hF⟩ := h x y hxy
    exact ⟨[], LTOK_by (l := []) (by kernel_rfl) trivial, (ev41 g93 F x).trans hF⟩
/-! laws.markTermS -/
abbrev R70 : Type := Ress [(.slice 135 term), i64]
abbrev G70 : Type := Args [.v (.slice 135 term), .v i64] → Option R70
abbrev kp70 : List (Nat × List Nat) := [(0, [0, 1]), (1, [0, 5, 1]), (2, [10, 1, 5, 0]), (4, [6, 1, 5, 0]), (5, [14, 1, 6, 5, 0]), (7, [1, 6, 5, 0]), (8, [6, 1, 5, 0]), (6, [6, 1, 5, 0]), (9, [1, 5, 0]), (10, [5, 0, 1]), (3, [0, 5, 1]), (11, [4, 0])]
abbrev ct70 : CTab := []
abbrev kr70 : Env → Option R70 := endM 135 term [.tmp 4]
abbrev sh70_5 : Shape := [(0, vr 135 term 1 false), (1, vv i64), (5, vv i64), (6, vv i64)]
def st70_5 (F : Nat) (s : ShVal sh70_5) (k kx : ShVal sh70_5 → Option R70) : Option R70 :=
  match s with
  | ((t0, _), (t1, _), (t5, _), (t6, _), _) => (bif decide (t6 < (3 : Int)) then (bif ib t5 (Int.ofNat (List.length t0)) then (bif ib t6 (Int.ofNat 3) then k (((List.set t0 (tn t5) ((tset (w8 t1) 3 (List.getD t0 (tn t5) (Ty.dflt (.pair (.arr 3 (.int .u8)) (.pair (.int .i64) .unit)))).1 (tn t6)), (List.getD t0 (tn t5) (Ty.dflt (.pair (.arr 3 (.int .u8)) (.pair (.int .i64) .unit)))).2)), ()), (((w6 (t1 + (1 : Int))), ()), ((t5, ()), (((w6 (t6 + (1 : Int))), ()), ())))) else none) else none) else kx ((t0, ()), ((t1, ()), ((t5, ()), ((t6, ()), ())))))
def ru70_5 (F : Nat) (s : ShVal sh70_5) (kx : ShVal sh70_5 → Option R70) : Option R70 := iter (fun s k => st70_5 F s k kx) F s
abbrev ls70_5 (F : Nat) : LS R70 := ⟨sh70_5, 2, ru70_5 F⟩
abbrev sh70_2 : Shape := [(0, vr 135 term 1 false), (1, vv i64), (5, vv i64)]
def st70_2 (F : Nat) (s : ShVal sh70_2) (k kx : ShVal sh70_2 → Option R70) : Option R70 :=
  match s with
  | ((t0, _), (t1, _), (t5, _), _) => (bif decide ((List.length t0) ≤ 9223372036854775807) then (bif decide (t5 < (Int.ofNat (List.length t0))) then (ru70_5 F ((t0, ()), ((t1, ()), ((t5, ()), (((0 : Int), ()), ())))) (fun s' => match s' with | ((t0, _), (t1, _), (t5, _), (t6, _), _) => (bif ib t5 (Int.ofNat (List.length t0)) then k (((List.set t0 (tn t5) ((List.getD t0 (tn t5) (Ty.dflt (.pair (.arr 3 (.int .u8)) (.pair (.int .i64) .unit)))).1, (t1, (List.getD t0 (tn t5) (Ty.dflt (.pair (.arr 3 (.int .u8)) (.pair (.int .i64) .unit)))).2.2))), ()), (((w6 (t1 + (1 : Int))), ()), (((w6 (t5 + (1 : Int))), ()), ()))) else none))) else kx ((t0, ()), ((t1, ()), ((t5, ()), ())))) else none)
def ru70_2 (F : Nat) (s : ShVal sh70_2) (kx : ShVal sh70_2 → Option R70) : Option R70 := iter (fun s k => st70_2 F s k kx) F s
abbrev ls70_2 (F : Nat) : LS R70 := ⟨sh70_2, 0, ru70_2 F⟩
def fn70 (F : Nat) (x : Args [.v (.slice 135 term), .v i64]) : Option R70 :=
  match x with
  | (x0, x1, _) => (ru70_2 F ((x0, ()), ((x1, ()), (((0 : Int), ()), ()))) (fun s' => match s' with | ((t0, _), (t1, _), (t5, _), _) => (some (t0, (t1, ())))))
theorem ev70_5 (F : Nat) (s : ShVal sh70_5) (k kx : ShVal sh70_5 → Option R70) : evL TT (ct70 ) kp70 [] (loopOf Try.f70 5) (envOf sh70_5 s) (fitK sh70_5 k) (fun j e => bif Nat.beq j 2 then fitK sh70_5 kx e else none) kr70 = st70_5 F s k kx := by
  obtain ⟨⟨t0, _⟩, ⟨t1, _⟩, ⟨t5, _⟩, ⟨t6, _⟩, _⟩ := s
  kernel_rfl
theorem ok70_5 (F : Nat) (hK : KOK Try.prog (ct70 )) (v0 : Value) : LSOK Try.prog ⟨35, true, v0⟩ (ls70_5 F) (loopOf Try.f70 5) kr70 :=
  loop_ok (st70_5 F) mixed tt_ok hK (by kernel_rfl) (LTOK_by (l := []) (by kernel_rfl) trivial) (ev70_5 F)
theorem ev70_2 (F : Nat) (s : ShVal sh70_2) (k kx : ShVal sh70_2 → Option R70) : evL TT (ct70 ) kp70 [(5, ls70_5 F)] (loopOf Try.f70 2) (envOf sh70_2 s) (fitK sh70_2 k) (fun j e => bif Nat.beq j 0 then fitK sh70_2 kx e else none) kr70 = st70_2 F s k kx := by
  obtain ⟨⟨t0, _⟩, ⟨t1, _⟩, ⟨t5, _⟩, _⟩ := s
  kernel_rfl
theorem ok70_2 (F : Nat) (hK : KOK Try.prog (ct70 )) (v0 : Value) : LSOK Try.prog ⟨35, true, v0⟩ (ls70_2 F) (loopOf Try.f70 2) kr70 :=
  loop_ok (st70_2 F) mixed tt_ok hK (by kernel_rfl) (LTOK_by (l := [loopOf Try.f70 5]) (by kernel_rfl) ⟨ls_at (by kernel_rfl) (ok70_5 F hK v0), trivial⟩) (ev70_2 F)
theorem ev70 (F : Nat) (x : Args [.v (.slice 135 term), .v i64]) : fnM TT (ct70 ) kp70 135 term [(2, ls70_2 F)] (bodyOf Try.f70) [.tmp 4] x = fn70 F x := by
  obtain ⟨x0, x1, _⟩ := x
  kernel_rfl
theorem ok70 (hK : KOK Try.prog (ct70 )) (cf : G70) (h : ∀ x y, cf x = some y → ∃ F, fn70 F x = some y) : KOne Try.prog 70 ⟨[.v (.slice 135 term), .v i64], [(.slice 135 term), i64], false, false, 1, cf⟩ :=
  fnM_one rfl (c := bodyOf Try.f70) mixed tt_ok hK Try.func70 (by kernel_rfl) (by kernel_rfl) (Nat.le_of_ble_eq_true (by kernel_rfl)) (by decide) fun x y hxy => by
    obtain ⟨F, hF⟩ := h x y hxy
    exact ⟨[(2, ls70_2 F)], fun v0 => LTOK_by (l := [loopOf Try.f70 2]) (by kernel_rfl) ⟨ls_at (by kernel_rfl) (ok70_2 F hK v0), trivial⟩, (ev70 F x).trans hF⟩
/-! laws.markPoly -/
abbrev R40 : Type := Ress [poly, i64]
abbrev G40 : Type := Args [.v poly, .v i64] → Option R40
abbrev kp40 : List (Nat × List Nat) := [(0, [2, 1, 0]), (1, [1, 0]), (2, [4, 0])]
abbrev ct40 (g70 : G70) : CTab := [(70, ⟨[.v (.slice 135 term), .v i64], [(.slice 135 term), i64], false, false, 1, g70⟩)]
abbrev kr40 : Env → Option R40 := endS poly [.tmp 4]
def fn40 (g70 : G70) (F : Nat) (x : Args [.v poly, .v i64]) : Option R40 :=
  match x with
  | (x0, x1, _) => (match (g70 (x0.2.2.1, (x1, ()))) with | some r5 => (some ((x0.1, (x0.2.1, ((bif ((Nat.beq 135 135) && (((Nat.beq 3 3) && true) && (true && true))) then r5.1 else []), ()))), (r5.2.1, ()))) | none => none)
theorem ev40 (g70 : G70) (F : Nat) (x : Args [.v poly, .v i64]) : fnS TT (ct40 g70 ) kp40 poly [] (bodyOf Try.f40) [.tmp 4] x = fn40 g70 F x := by
  obtain ⟨x0, x1, _⟩ := x
  kernel_rfl
theorem ok40 (g70 : G70) (hK : KOK Try.prog (ct40 g70 )) (cf : G40) (h : ∀ x y, cf x = some y → ∃ F, fn40 g70 F x = some y) : KOne Try.prog 40 ⟨[.v poly, .v i64], [poly, i64], false, false, 1, cf⟩ :=
  fnS_one (c := bodyOf Try.f40) mixed tt_ok hK Try.func40 (by kernel_rfl) (by kernel_rfl) (Nat.le_of_ble_eq_true (by kernel_rfl)) (by decide) fun x y hxy => by
    obtain ⟨F, hF⟩ := h x y hxy
    exact ⟨[], fun v0 => LTOK_by (l := []) (by kernel_rfl) trivial, (ev40 g70 F x).trans hF⟩
end Go.Proofs.YtkoifikjfnbcpaaEv
