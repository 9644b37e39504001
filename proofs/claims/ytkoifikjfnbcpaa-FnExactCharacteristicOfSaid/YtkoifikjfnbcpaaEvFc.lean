/- What each function of the program comes to, printed by a program of this work: loops by their steps, calls by what is known of them; each text is checked by the kernel. No condition. -/
import Derived.Test.YtkoifikjfnbcpaaEvTst
set_option linter.unusedVariables false
namespace Go.Proofs.YtkoifikjfnbcpaaEv
open Go Go.RowKit
abbrev R18 : Type := Ress [.bool]
abbrev kp18 : List (Nat × List Nat) := [(0, [0, 1]), (1, [10, 0, 1]), (2, [4]), (3, [5, 1, 0]), (4, [14, 0, 1, 5]), (6, [25, 0, 1, 5]), (7, [4]), (5, [5, 1, 0]), (8, [4])]
abbrev ct18 : CTab := []
abbrev kr18 : Env → Option R18 := endK TT [.tmp 4] [.bool] false false
abbrev sh18_4 : Shape := [(0, vv (.slice 2 i64)), (1, vv (.slice 2 i64)), (5, vv i64)]
def st18_4 (F : Nat) (s : ShVal sh18_4) (k kx : ShVal sh18_4 → Option R18) : Option R18 :=
  match s with
  | ((t0, _), (t1, _), (t5, _), _) => (bif decide ((List.length t0) ≤ 9223372036854775807) then (bif decide (t5 < (Int.ofNat (List.length t0))) then (bif ib t5 (Int.ofNat (List.length t0)) then (bif ib t5 (Int.ofNat (List.length t1)) then (bif (!decide ((List.getD t0 (tn t5) (0 : Int)) = (List.getD t1 (tn t5) (0 : Int)))) then (some (false, ())) else k ((t0, ()), ((t1, ()), (((w6 (t5 + (1 : Int))), ()), ())))) else none) else none) else kx ((t0, ()), ((t1, ()), ((t5, ()), ())))) else none)
def ru18_4 (F : Nat) (s : ShVal sh18_4) (kx : ShVal sh18_4 → Option R18) : Option R18 := iter (fun s k => st18_4 F s k kx) F s
abbrev ls18_4 (F : Nat) : LS R18 := ⟨sh18_4, 0, ru18_4 F⟩
def fn18 (F : Nat) (x : Args [.v (.slice 2 i64), .v (.slice 2 i64)]) : Option R18 :=
  match x with
  | (x0, x1, _) => (bif decide ((List.length x0) ≤ 9223372036854775807) then (bif decide ((List.length x1) ≤ 9223372036854775807) then (bif (!decide ((Int.ofNat (List.length x0)) = (Int.ofNat (List.length x1)))) then (some (false, ())) else (ru18_4 F ((x0, ()), ((x1, ()), (((0 : Int), ()), ()))) (fun s' => match s' with | ((t0, _), (t1, _), (t5, _), _) => (some (true, ()))))) else none) else none)
theorem ev18_4 (F : Nat) (s : ShVal sh18_4) (k kx : ShVal sh18_4 → Option R18) : evL TT (ct18 ) kp18 [] (loopOf Try.f18 4) (envOf sh18_4 s) (fitK sh18_4 k) (fun j e => bif Nat.beq j 0 then fitK sh18_4 kx e else none) kr18 = st18_4 F s k kx := by
  obtain ⟨⟨t0, _⟩, ⟨t1, _⟩, ⟨t5, _⟩, _⟩ := s
  kernel_rfl
theorem ok18_4 (F : Nat) (hK : KOK Try.prog (ct18 )) : LSOK Try.prog ⟨26, false, undef⟩ (ls18_4 F) (loopOf Try.f18 4) kr18 :=
  loop_ok (st18_4 F) mixed tt_ok hK (by kernel_rfl) (LTOK_by (l := []) (by kernel_rfl) trivial) (ev18_4 F)
theorem ev18 (F : Nat) (x : Args [.v (.slice 2 i64), .v (.slice 2 i64)]) : fnK TT (ct18 ) kp18 [.bool] [(4, ls18_4 F)] (bodyOf Try.f18) [.tmp 4] [.v (.slice 2 i64), .v (.slice 2 i64)] false false x = fn18 F x := by
  obtain ⟨x0, x1, _⟩ := x
  kernel_rfl
theorem ok18 (hK : KOK Try.prog (ct18 )) (cf : Args [.v (.slice 2 i64), .v (.slice 2 i64)] → Option R18) (h : ∀ x y, cf x = some y → ∃ F, fn18 F x = some y) : KOne Try.prog 18 ⟨[.v (.slice 2 i64), .v (.slice 2 i64)], [.bool], false, false, false, cf⟩ :=
  fn_one rfl (c := bodyOf Try.f18) mixed tt_ok hK Try.func18 (by kernel_rfl) (by kernel_rfl) (Nat.le_of_ble_eq_true (by kernel_rfl)) (by decide) fun x y hxy => by
    obtain ⟨F, hF⟩ := h x y hxy
    exact ⟨[(4, ls18_4 F)], LTOK_by (l := [loopOf Try.f18 4]) (by kernel_rfl) ⟨ls_at (by kernel_rfl) (ok18_4 F hK), trivial⟩, (ev18 F x).trans hF⟩
abbrev R19 : Type := Ress [(.slice 2 i64), i64]
abbrev kp19 : List (Nat × List Nat) := [(0, [1, 0]), (1, [5, 1, 0]), (2, [9, 1, 5, 0]), (4, [1, 5, 0]), (5, [5, 1, 0]), (3, [5, 1, 0]), (6, [4, 0])]
abbrev ct19 : CTab := []
abbrev kr19 : Env → Option R19 := endM 2 i64 [.tmp 4]
abbrev sh19_2 : Shape := [(0, vr 2 i64 1 false), (1, vv i64), (5, vv i64)]
def st19_2 (F : Nat) (s : ShVal sh19_2) (k kx : ShVal sh19_2 → Option R19) : Option R19 :=
  match s with
  | ((t0, _), (t1, _), (t5, _), _) => (bif decide ((List.length t0) ≤ 9223372036854775807) then (bif decide (t5 < (Int.ofNat (List.length t0))) then (bif ib t5 (Int.ofNat (List.length t0)) then k (((List.set t0 (tn t5) t1), ()), (((w6 (t1 + (1 : Int))), ()), (((w6 (t5 + (1 : Int))), ()), ()))) else none) else kx ((t0, ()), ((t1, ()), ((t5, ()), ())))) else none)
def ru19_2 (F : Nat) (s : ShVal sh19_2) (kx : ShVal sh19_2 → Option R19) : Option R19 := iter (fun s k => st19_2 F s k kx) F s
abbrev ls19_2 (F : Nat) : LS R19 := ⟨sh19_2, 0, ru19_2 F⟩
def fn19 (F : Nat) (x : Args [.v (.slice 2 i64), .v i64]) : Option R19 :=
  match x with
  | (x0, x1, _) => (ru19_2 F ((x0, ()), ((x1, ()), (((0 : Int), ()), ()))) (fun s' => match s' with | ((t0, _), (t1, _), (t5, _), _) => (some (t0, (t1, ())))))
theorem ev19_2 (F : Nat) (s : ShVal sh19_2) (k kx : ShVal sh19_2 → Option R19) : evL TT (ct19 ) kp19 [] (loopOf Try.f19 2) (envOf sh19_2 s) (fitK sh19_2 k) (fun j e => bif Nat.beq j 0 then fitK sh19_2 kx e else none) kr19 = st19_2 F s k kx := by
  obtain ⟨⟨t0, _⟩, ⟨t1, _⟩, ⟨t5, _⟩, _⟩ := s
  kernel_rfl
theorem ok19_2 (F : Nat) (hK : KOK Try.prog (ct19 )) (v0 : Value) : LSOK Try.prog ⟨19, true, v0⟩ (ls19_2 F) (loopOf Try.f19 2) kr19 :=
  loop_ok (st19_2 F) mixed tt_ok hK (by kernel_rfl) (LTOK_by (l := []) (by kernel_rfl) trivial) (ev19_2 F)
theorem ev19 (F : Nat) (x : Args [.v (.slice 2 i64), .v i64]) : fnM TT (ct19 ) kp19 2 i64 [(2, ls19_2 F)] (bodyOf Try.f19) [.tmp 4] x = fn19 F x := by
  obtain ⟨x0, x1, _⟩ := x
  kernel_rfl
theorem ok19 (hK : KOK Try.prog (ct19 )) (cf : Args [.v (.slice 2 i64), .v i64] → Option R19) (h : ∀ x y, cf x = some y → ∃ F, fn19 F x = some y) : KOne Try.prog 19 ⟨[.v (.slice 2 i64), .v i64], [(.slice 2 i64), i64], false, false, true, cf⟩ :=
  fnM_one rfl (c := bodyOf Try.f19) mixed tt_ok hK Try.func19 (by kernel_rfl) (by kernel_rfl) (Nat.le_of_ble_eq_true (by kernel_rfl)) (by decide) fun x y hxy => by
    obtain ⟨F, hF⟩ := h x y hxy
    exact ⟨[(2, ls19_2 F)], fun v0 => LTOK_by (l := [loopOf Try.f19 2]) (by kernel_rfl) ⟨ls_at (by kernel_rfl) (ok19_2 F hK v0), trivial⟩, (ev19 F x).trans hF⟩
abbrev R20 : Type := Ress [i64]
abbrev kp20 : List (Nat × List Nat) := [(0, [1, 0]), (1, [1, 5, 0]), (2, [9, 0, 5, 1]), (4, [17, 0, 5, 1]), (5, [4]), (6, [5, 1, 0]), (3, [1, 5, 0]), (7, [4])]
abbrev ct20 : CTab := []
abbrev kr20 : Env → Option R20 := endK TT [.tmp 4] [i64] false false
abbrev sh20_2 : Shape := [(0, vv (.slice 2 i64)), (1, vv i64), (5, vv i64)]
def st20_2 (F : Nat) (s : ShVal sh20_2) (k kx : ShVal sh20_2 → Option R20) : Option R20 :=
  match s with
  | ((t0, _), (t1, _), (t5, _), _) => (bif decide ((List.length t0) ≤ 9223372036854775807) then (bif decide (t5 < (Int.ofNat (List.length t0))) then (bif ib t5 (Int.ofNat (List.length t0)) then (bif (!decide ((List.getD t0 (tn t5) (0 : Int)) = t1)) then (some ((-(1 : Int)), ())) else k ((t0, ()), (((w6 (t1 + (1 : Int))), ()), (((w6 (t5 + (1 : Int))), ()), ())))) else none) else kx ((t0, ()), ((t1, ()), ((t5, ()), ())))) else none)
def ru20_2 (F : Nat) (s : ShVal sh20_2) (kx : ShVal sh20_2 → Option R20) : Option R20 := iter (fun s k => st20_2 F s k kx) F s
abbrev ls20_2 (F : Nat) : LS R20 := ⟨sh20_2, 0, ru20_2 F⟩
def fn20 (F : Nat) (x : Args [.v (.slice 2 i64), .v i64]) : Option R20 :=
  match x with
  | (x0, x1, _) => (ru20_2 F ((x0, ()), ((x1, ()), (((0 : Int), ()), ()))) (fun s' => match s' with | ((t0, _), (t1, _), (t5, _), _) => (some (t1, ()))))
theorem ev20_2 (F : Nat) (s : ShVal sh20_2) (k kx : ShVal sh20_2 → Option R20) : evL TT (ct20 ) kp20 [] (loopOf Try.f20 2) (envOf sh20_2 s) (fitK sh20_2 k) (fun j e => bif Nat.beq j 0 then fitK sh20_2 kx e else none) kr20 = st20_2 F s k kx := by
  obtain ⟨⟨t0, _⟩, ⟨t1, _⟩, ⟨t5, _⟩, _⟩ := s
  kernel_rfl
theorem ok20_2 (F : Nat) (hK : KOK Try.prog (ct20 )) : LSOK Try.prog ⟨21, false, undef⟩ (ls20_2 F) (loopOf Try.f20 2) kr20 :=
  loop_ok (st20_2 F) mixed tt_ok hK (by kernel_rfl) (LTOK_by (l := []) (by kernel_rfl) trivial) (ev20_2 F)
theorem ev20 (F : Nat) (x : Args [.v (.slice 2 i64), .v i64]) : fnK TT (ct20 ) kp20 [i64] [(2, ls20_2 F)] (bodyOf Try.f20) [.tmp 4] [.v (.slice 2 i64), .v i64] false false x = fn20 F x := by
  obtain ⟨x0, x1, _⟩ := x
  kernel_rfl
theorem ok20 (hK : KOK Try.prog (ct20 )) (cf : Args [.v (.slice 2 i64), .v i64] → Option R20) (h : ∀ x y, cf x = some y → ∃ F, fn20 F x = some y) : KOne Try.prog 20 ⟨[.v (.slice 2 i64), .v i64], [i64], false, false, false, cf⟩ :=
  fn_one rfl (c := bodyOf Try.f20) mixed tt_ok hK Try.func20 (by kernel_rfl) (by kernel_rfl) (Nat.le_of_ble_eq_true (by kernel_rfl)) (by decide) fun x y hxy => by
    obtain ⟨F, hF⟩ := h x y hxy
    exact ⟨[(2, ls20_2 F)], LTOK_by (l := [loopOf Try.f20 2]) (by kernel_rfl) ⟨ls_at (by kernel_rfl) (ok20_2 F hK), trivial⟩, (ev20 F x).trans hF⟩
abbrev R60 : Type := Ress [ex]
abbrev kp60 : List (Nat × List Nat) := [(0, [1, 2]), (1, [3, 1, 2]), (2, [4, 3, 1, 2]), (3, [6, 4, 3, 1, 2]), (5, [4, 3, 1, 2]), (4, [4, 3, 1, 2]), (6, [2])]
abbrev ct60 : CTab := []
abbrev kr60 : Env → Option R60 := endK TT [.cell 2 22] [ex] false false
abbrev sh60_3 : Shape := [(1, bb ex), (2, bb ex), (3, bb ex), (4, vv i64)]
def st60_3 (F : Nat) (s : ShVal sh60_3) (k kx : ShVal sh60_3 → Option R60) : Option R60 :=
  match s with
  | ((t1, _), (t2, _), (t3, _), (t4, _), _) => (bif decide (t4 < (3 : Int)) then (bif ib t4 (Int.ofNat 3) then (bif ib t4 (Int.ofNat 3) then k ((t1, ()), ((t2, ()), (((tset (tget (0 : Int) 3 t1 (tn t4)) 3 t3 (tn t4)), ()), (((w6 (t4 + (1 : Int))), ()), ())))) else none) else none) else kx ((t1, ()), ((t2, ()), ((t3, ()), ((t4, ()), ())))))
def ru60_3 (F : Nat) (s : ShVal sh60_3) (kx : ShVal sh60_3 → Option R60) : Option R60 := iter (fun s k => st60_3 F s k kx) F s
abbrev ls60_3 (F : Nat) : LS R60 := ⟨sh60_3, 0, ru60_3 F⟩
def fn60 (F : Nat) (x : Args [.v ex]) : Option R60 :=
  match x with
  | (x0, _) => (ru60_3 F ((x0, ()), (((Ty.dflt (.arr 3 (.int .u8))), ()), (((Ty.dflt (.arr 3 (.int .u8))), ()), (((0 : Int), ()), ())))) (fun s' => match s' with | ((t1, _), (t2, _), (t3, _), (t4, _), _) => (some (t3, ()))))
theorem ev60_3 (F : Nat) (s : ShVal sh60_3) (k kx : ShVal sh60_3 → Option R60) : evL TT (ct60 ) kp60 [] (loopOf Try.f60 3) (envOf sh60_3 s) (fitK sh60_3 k) (fun j e => bif Nat.beq j 0 then fitK sh60_3 kx e else none) kr60 = st60_3 F s k kx := by
  obtain ⟨⟨t1, _⟩, ⟨t2, _⟩, ⟨t3, _⟩, ⟨t4, _⟩, _⟩ := s
  kernel_rfl
theorem ok60_3 (F : Nat) (hK : KOK Try.prog (ct60 )) : LSOK Try.prog ⟨15, false, undef⟩ (ls60_3 F) (loopOf Try.f60 3) kr60 :=
  loop_ok (st60_3 F) mixed tt_ok hK (by kernel_rfl) (LTOK_by (l := []) (by kernel_rfl) trivial) (ev60_3 F)
theorem ev60 (F : Nat) (x : Args [.v ex]) : fnK TT (ct60 ) kp60 [ex] [(3, ls60_3 F)] (bodyOf Try.f60) [.cell 2 22] [.v ex] false false x = fn60 F x := by
  obtain ⟨x0, _⟩ := x
  kernel_rfl
theorem ok60 (hK : KOK Try.prog (ct60 )) (cf : Args [.v ex] → Option R60) (h : ∀ x y, cf x = some y → ∃ F, fn60 F x = some y) : KOne Try.prog 60 ⟨[.v ex], [ex], false, false, false, cf⟩ :=
  fn_one rfl (c := bodyOf Try.f60) mixed tt_ok hK Try.func60 (by kernel_rfl) (by kernel_rfl) (Nat.le_of_ble_eq_true (by kernel_rfl)) (by decide) fun x y hxy => by
    obtain ⟨F, hF⟩ := h x y hxy
    exact ⟨[(3, ls60_3 F)], LTOK_by (l := [loopOf Try.f60 3]) (by kernel_rfl) ⟨ls_at (by kernel_rfl) (ok60_3 F hK), trivial⟩, (ev60 F x).trans hF⟩
abbrev R73 : Type := Ress [.bool]
abbrev kp73 : List (Nat × List Nat) := [(0, [1, 0, 2]), (1, [6])]
abbrev ct73 : CTab := []
abbrev kr73 : Env → Option R73 := endK TT [.tmp 6] [.bool] false false
def fn73 (F : Nat) (x : Args [.v i64, .v i64, .v i64]) : Option R73 :=
  match x with
  | (x0, x1, x2, _) => (bif decide (x1 ≤ x0) then (some ((bif true then decide (x0 ≤ x2) else false), ())) else (some (false, ())))
theorem ev73 (F : Nat) (x : Args [.v i64, .v i64, .v i64]) : fnK TT (ct73 ) kp73 [.bool] [] (bodyOf Try.f73) [.tmp 6] [.v i64, .v i64, .v i64] false false x = fn73 F x := by
  obtain ⟨x0, x1, x2, _⟩ := x
  kernel_rfl
theorem ok73 (hK : KOK Try.prog (ct73 )) (cf : Args [.v i64, .v i64, .v i64] → Option R73) (h : ∀ x y, cf x = some y → ∃ F, fn73 F x = some y) : KOne Try.prog 73 ⟨[.v i64, .v i64, .v i64], [.bool], false, false, false, cf⟩ :=
  fn_one rfl (c := bodyOf Try.f73) mixed tt_ok hK Try.func73 (by kernel_rfl) (by kernel_rfl) (Nat.le_of_ble_eq_true (by kernel_rfl)) (by decide) fun x y hxy => by
    obtain ⟨F, hF⟩ := h x y hxy
    exact ⟨[], LTOK_by (l := []) (by kernel_rfl) trivial, (ev73 F x).trans hF⟩
abbrev R74 : Type := Ress [i64]
abbrev kp74 : List (Nat × List Nat) := [(0, [1, 0]), (1, [4])]
abbrev ct74 : CTab := []
abbrev kr74 : Env → Option R74 := endK TT [.tmp 4] [i64] false false
def fn74 (F : Nat) (x : Args [.v i64, .v i64]) : Option R74 :=
  match x with
  | (x0, x1, _) => (bif (!decide (x0 = (0 : Int))) then (bif (!decide (x0 = (0 : Int))) then (some ((Int.tmod (w6 ((Int.tmod x1 x0) + x0)) x0), ())) else none) else none)
theorem ev74 (F : Nat) (x : Args [.v i64, .v i64]) : fnK TT (ct74 ) kp74 [i64] [] (bodyOf Try.f74) [.tmp 4] [.v i64, .v i64] false false x = fn74 F x := by
  obtain ⟨x0, x1, _⟩ := x
  kernel_rfl
theorem ok74 (hK : KOK Try.prog (ct74 )) (cf : Args [.v i64, .v i64] → Option R74) (h : ∀ x y, cf x = some y → ∃ F, fn74 F x = some y) : KOne Try.prog 74 ⟨[.v i64, .v i64], [i64], false, false, false, cf⟩ :=
  fn_one rfl (c := bodyOf Try.f74) mixed tt_ok hK Try.func74 (by kernel_rfl) (by kernel_rfl) (Nat.le_of_ble_eq_true (by kernel_rfl)) (by decide) fun x y hxy => by
    obtain ⟨F, hF⟩ := h x y hxy
    exact ⟨[], LTOK_by (l := []) (by kernel_rfl) trivial, (ev74 F x).trans hF⟩
abbrev R82 : Type := Ress [.bool]
abbrev kp82 : List (Nat × List Nat) := [(0, [0]), (1, [2])]
abbrev ct82 : CTab := []
abbrev kr82 : Env → Option R82 := endK TT [.tmp 2] [.bool] false false
def fn82 (F : Nat) (x : Args [.v i64]) : Option R82 :=
  match x with
  | (x0, _) => (bif decide (x0 = (2 : Int)) then (some (true, ())) else (bif (bif false then true else decide (x0 = (3 : Int))) then (some (true, ())) else (bif (bif false then true else decide (x0 = (5 : Int))) then (some (true, ())) else (bif (bif false then true else decide (x0 = (7 : Int))) then (some (true, ())) else (bif (bif false then true else decide (x0 = (11 : Int))) then (some (true, ())) else (some ((bif false then true else decide (x0 = (13 : Int))), ())))))))
theorem ev82 (F : Nat) (x : Args [.v i64]) : fnK TT (ct82 ) kp82 [.bool] [] (bodyOf Try.f82) [.tmp 2] [.v i64] false false x = fn82 F x := by
  obtain ⟨x0, _⟩ := x
  kernel_rfl
theorem ok82 (hK : KOK Try.prog (ct82 )) (cf : Args [.v i64] → Option R82) (h : ∀ x y, cf x = some y → ∃ F, fn82 F x = some y) : KOne Try.prog 82 ⟨[.v i64], [.bool], false, false, false, cf⟩ :=
  fn_one rfl (c := bodyOf Try.f82) mixed tt_ok hK Try.func82 (by kernel_rfl) (by kernel_rfl) (Nat.le_of_ble_eq_true (by kernel_rfl)) (by decide) fun x y hxy => by
    obtain ⟨F, hF⟩ := h x y hxy
    exact ⟨[], LTOK_by (l := []) (by kernel_rfl) trivial, (ev82 F x).trans hF⟩
abbrev R86 : Type := Ress [.bool]
abbrev kp86 : List (Nat × List Nat) := [(0, [0]), (1, [2])]
abbrev ct86 : CTab := []
abbrev kr86 : Env → Option R86 := endK TT [.tmp 2] [.bool] false false
def fn86 (F : Nat) (x : Args [.v i64]) : Option R86 :=
  match x with
  | (x0, _) => (bif decide (x0 = (2 : Int)) then (some (true, ())) else (bif (bif false then true else decide (x0 = (3 : Int))) then (some (true, ())) else (bif (bif false then true else decide (x0 = (5 : Int))) then (some (true, ())) else (bif (bif false then true else decide (x0 = (7 : Int))) then (some (true, ())) else (bif (bif false then true else decide (x0 = (11 : Int))) then (some (true, ())) else (some ((bif false then true else decide (x0 = (13 : Int))), ())))))))
theorem ev86 (F : Nat) (x : Args [.v i64]) : fnK TT (ct86 ) kp86 [.bool] [] (bodyOf Try.f86) [.tmp 2] [.v i64] false false x = fn86 F x := by
  obtain ⟨x0, _⟩ := x
  kernel_rfl
theorem ok86 (hK : KOK Try.prog (ct86 )) (cf : Args [.v i64] → Option R86) (h : ∀ x y, cf x = some y → ∃ F, fn86 F x = some y) : KOne Try.prog 86 ⟨[.v i64], [.bool], false, false, false, cf⟩ :=
  fn_one rfl (c := bodyOf Try.f86) mixed tt_ok hK Try.func86 (by kernel_rfl) (by kernel_rfl) (Nat.le_of_ble_eq_true (by kernel_rfl)) (by decide) fun x y hxy => by
    obtain ⟨F, hF⟩ := h x y hxy
    exact ⟨[], LTOK_by (l := []) (by kernel_rfl) trivial, (ev86 F x).trans hF⟩
abbrev R87 : Type := Ress [.bool]
abbrev kp87 : List (Nat × List Nat) := [(0, [0]), (1, [2])]
abbrev ct87 : CTab := []
abbrev kr87 : Env → Option R87 := endK TT [.tmp 2] [.bool] false false
def fn87 (F : Nat) (x : Args [.v i64]) : Option R87 :=
  match x with
  | (x0, _) => (bif decide ((1 : Int) ≤ x0) then (some ((bif true then decide (x0 ≤ (3 : Int)) else false), ())) else (some (false, ())))
theorem ev87 (F : Nat) (x : Args [.v i64]) : fnK TT (ct87 ) kp87 [.bool] [] (bodyOf Try.f87) [.tmp 2] [.v i64] false false x = fn87 F x := by
  obtain ⟨x0, _⟩ := x
  kernel_rfl
theorem ok87 (hK : KOK Try.prog (ct87 )) (cf : Args [.v i64] → Option R87) (h : ∀ x y, cf x = some y → ∃ F, fn87 F x = some y) : KOne Try.prog 87 ⟨[.v i64], [.bool], false, false, false, cf⟩ :=
  fn_one rfl (c := bodyOf Try.f87) mixed tt_ok hK Try.func87 (by kernel_rfl) (by kernel_rfl) (Nat.le_of_ble_eq_true (by kernel_rfl)) (by decide) fun x y hxy => by
    obtain ⟨F, hF⟩ := h x y hxy
    exact ⟨[], LTOK_by (l := []) (by kernel_rfl) trivial, (ev87 F x).trans hF⟩
abbrev R132 : Type := Ress [i64]
abbrev kp132 : List (Nat × List Nat) := [(0, [0, 1, 2]), (1, [5])]
abbrev ct132 : CTab := []
abbrev kr132 : Env → Option R132 := endK TT [.tmp 5] [i64] false false
def fn132 (F : Nat) (x : Args [.v i64, .v i64, .p mat]) : Option R132 :=
  match x with
  | (x0, x1, x2, _) => (bif ib x0 (Int.ofNat 3) then (bif ib x1 (Int.ofNat 3) then (some ((w6 (tget (0 : Int) 3 (tget (Ty.dflt (.arr 3 (.int .u8))) 3 x2 (tn x0)) (tn x1))), ())) else none) else none)
theorem ev132 (F : Nat) (x : Args [.v i64, .v i64, .p mat]) : fnK TT (ct132 ) kp132 [i64] [] (bodyOf Try.f132) [.tmp 5] [.v i64, .v i64, .p mat] false false x = fn132 F x := by
  obtain ⟨x0, x1, x2, _⟩ := x
  kernel_rfl
theorem ok132 (hK : KOK Try.prog (ct132 )) (cf : Args [.v i64, .v i64, .p mat] → Option R132) (h : ∀ x y, cf x = some y → ∃ F, fn132 F x = some y) : KOne Try.prog 132 ⟨[.v i64, .v i64, .p mat], [i64], false, false, false, cf⟩ :=
  fn_one rfl (c := bodyOf Try.f132) mixed tt_ok hK Try.func132 (by kernel_rfl) (by kernel_rfl) (Nat.le_of_ble_eq_true (by kernel_rfl)) (by decide) fun x y hxy => by
    obtain ⟨F, hF⟩ := h x y hxy
    exact ⟨[], LTOK_by (l := []) (by kernel_rfl) trivial, (ev132 F x).trans hF⟩
abbrev R153 : Type := Ress [i64]
abbrev kp153 : List (Nat × List Nat) := [(0, [0]), (1, [3, 0]), (2, [7, 0, 3]), (4, [14, 0, 3]), (5, [2]), (3, [3, 0]), (6, [2])]
abbrev ct153 : CTab := []
abbrev kr153 : Env → Option R153 := endK TT [.tmp 2] [i64] false false
abbrev sh153_2 : Shape := [(0, vv (.slice 2 i64)), (3, vv i64)]
def st153_2 (F : Nat) (s : ShVal sh153_2) (k kx : ShVal sh153_2 → Option R153) : Option R153 :=
  match s with
  | ((t0, _), (t3, _), _) => (bif decide ((List.length t0) ≤ 9223372036854775807) then (bif decide (t3 < (Int.ofNat (List.length t0))) then (bif ib t3 (Int.ofNat (List.length t0)) then (bif (!decide ((List.getD t0 (tn t3) (0 : Int)) = (0 : Int))) then (some (t3, ())) else k ((t0, ()), (((w6 (t3 + (1 : Int))), ()), ()))) else none) else kx ((t0, ()), ((t3, ()), ()))) else none)
def ru153_2 (F : Nat) (s : ShVal sh153_2) (kx : ShVal sh153_2 → Option R153) : Option R153 := iter (fun s k => st153_2 F s k kx) F s
abbrev ls153_2 (F : Nat) : LS R153 := ⟨sh153_2, 0, ru153_2 F⟩
def fn153 (F : Nat) (x : Args [.v (.slice 2 i64)]) : Option R153 :=
  match x with
  | (x0, _) => (ru153_2 F ((x0, ()), (((0 : Int), ()), ())) (fun s' => match s' with | ((t0, _), (t3, _), _) => (some ((-(1 : Int)), ()))))
theorem ev153_2 (F : Nat) (s : ShVal sh153_2) (k kx : ShVal sh153_2 → Option R153) : evL TT (ct153 ) kp153 [] (loopOf Try.f153 2) (envOf sh153_2 s) (fitK sh153_2 k) (fun j e => bif Nat.beq j 0 then fitK sh153_2 kx e else none) kr153 = st153_2 F s k kx := by
  obtain ⟨⟨t0, _⟩, ⟨t3, _⟩, _⟩ := s
  kernel_rfl
theorem ok153_2 (F : Nat) (hK : KOK Try.prog (ct153 )) : LSOK Try.prog ⟨16, false, undef⟩ (ls153_2 F) (loopOf Try.f153 2) kr153 :=
  loop_ok (st153_2 F) mixed tt_ok hK (by kernel_rfl) (LTOK_by (l := []) (by kernel_rfl) trivial) (ev153_2 F)
theorem ev153 (F : Nat) (x : Args [.v (.slice 2 i64)]) : fnK TT (ct153 ) kp153 [i64] [(2, ls153_2 F)] (bodyOf Try.f153) [.tmp 2] [.v (.slice 2 i64)] false false x = fn153 F x := by
  obtain ⟨x0, _⟩ := x
  kernel_rfl
theorem ok153 (hK : KOK Try.prog (ct153 )) (cf : Args [.v (.slice 2 i64)] → Option R153) (h : ∀ x y, cf x = some y → ∃ F, fn153 F x = some y) : KOne Try.prog 153 ⟨[.v (.slice 2 i64)], [i64], false, false, false, cf⟩ :=
  fn_one rfl (c := bodyOf Try.f153) mixed tt_ok hK Try.func153 (by kernel_rfl) (by kernel_rfl) (Nat.le_of_ble_eq_true (by kernel_rfl)) (by decide) fun x y hxy => by
    obtain ⟨F, hF⟩ := h x y hxy
    exact ⟨[(2, ls153_2 F)], LTOK_by (l := [loopOf Try.f153 2]) (by kernel_rfl) ⟨ls_at (by kernel_rfl) (ok153_2 F hK), trivial⟩, (ev153 F x).trans hF⟩
abbrev R155 : Type := Ress [(.slice 2 i64)]
abbrev kp155 : List (Nat × List Nat) := [(0, [0]), (1, [2])]
abbrev ct155 : CTab := []
abbrev kr155 : Env → Option R155 := endK TT [.tmp 2] [(.slice 2 i64)] true false
def fn155 (F : Nat) (x : Args [.v (.slice 2 i64)]) : Option R155 :=
  match x with
  | (x0, _) => (bif (growOk (0 : Nat) (List.length x0)) then (some (([] ++ x0), ())) else none)
theorem ev155 (F : Nat) (x : Args [.v (.slice 2 i64)]) : fnK TT (ct155 ) kp155 [(.slice 2 i64)] [] (bodyOf Try.f155) [.tmp 2] [.v (.slice 2 i64)] true false x = fn155 F x := by
  obtain ⟨x0, _⟩ := x
  kernel_rfl
theorem ok155 (hK : KOK Try.prog (ct155 )) (cf : Args [.v (.slice 2 i64)] → Option R155) (h : ∀ x y, cf x = some y → ∃ F, fn155 F x = some y) : KOne Try.prog 155 ⟨[.v (.slice 2 i64)], [(.slice 2 i64)], true, false, false, cf⟩ :=
  fn_one rfl (c := bodyOf Try.f155) mixed tt_ok hK Try.func155 (by kernel_rfl) (by kernel_rfl) (Nat.le_of_ble_eq_true (by kernel_rfl)) (by decide) fun x y hxy => by
    obtain ⟨F, hF⟩ := h x y hxy
    exact ⟨[], LTOK_by (l := []) (by kernel_rfl) trivial, (ev155 F x).trans hF⟩
abbrev R166 : Type := Ress [i64]
abbrev kp166 : List (Nat × List Nat) := [(0, [0, 1, 2]), (1, [5])]
abbrev ct166 : CTab := []
abbrev kr166 : Env → Option R166 := endK TT [.tmp 5] [i64] false false
def fn166 (F : Nat) (x : Args [.v i64, .v i64, .p mat]) : Option R166 :=
  match x with
  | (x0, x1, x2, _) => (bif ib x0 (Int.ofNat 3) then (bif ib x1 (Int.ofNat 3) then (some ((w6 (tget (0 : Int) 3 (tget (Ty.dflt (.arr 3 (.int .u8))) 3 x2 (tn x0)) (tn x1))), ())) else none) else none)
theorem ev166 (F : Nat) (x : Args [.v i64, .v i64, .p mat]) : fnK TT (ct166 ) kp166 [i64] [] (bodyOf Try.f166) [.tmp 5] [.v i64, .v i64, .p mat] false false x = fn166 F x := by
  obtain ⟨x0, x1, x2, _⟩ := x
  kernel_rfl
theorem ok166 (hK : KOK Try.prog (ct166 )) (cf : Args [.v i64, .v i64, .p mat] → Option R166) (h : ∀ x y, cf x = some y → ∃ F, fn166 F x = some y) : KOne Try.prog 166 ⟨[.v i64, .v i64, .p mat], [i64], false, false, false, cf⟩ :=
  fn_one rfl (c := bodyOf Try.f166) mixed tt_ok hK Try.func166 (by kernel_rfl) (by kernel_rfl) (Nat.le_of_ble_eq_true (by kernel_rfl)) (by decide) fun x y hxy => by
    obtain ⟨F, hF⟩ := h x y hxy
    exact ⟨[], LTOK_by (l := []) (by kernel_rfl) trivial, (ev166 F x).trans hF⟩
abbrev R16 : Type := Ress [mat]
abbrev kp16 : List (Nat × List Nat) := [(0, [1, 2]), (1, [3, 1, 2]), (2, [4, 3, 1, 2]), (3, [6, 4, 3, 1, 2]), (5, [4, 3, 1, 2]), (4, [4, 3, 1, 2]), (6, [2])]
abbrev ct16 (g60 : Args [.v ex] → Option (Ress [ex])) : CTab := [(60, ⟨[.v ex], [ex], false, false, false, g60⟩)]
abbrev kr16 : Env → Option R16 := endK TT [.cell 2 27] [mat] false false
abbrev sh16_3 : Shape := [(1, bb mat), (2, bb mat), (3, bb mat), (4, vv i64)]
def st16_3 (g60 : Args [.v ex] → Option (Ress [ex])) (F : Nat) (s : ShVal sh16_3) (k kx : ShVal sh16_3 → Option R16) : Option R16 :=
  match s with
  | ((t1, _), (t2, _), (t3, _), (t4, _), _) => (bif decide (t4 < (3 : Int)) then (bif ib t4 (Int.ofNat 3) then (match (g60 ((tget (Ty.dflt (.arr 3 (.int .u8))) 3 t1 (tn t4)), ())) with | some r11 => (bif ib t4 (Int.ofNat 3) then k ((t1, ()), ((t2, ()), (((tset r11.1 3 t3 (tn t4)), ()), (((w6 (t4 + (1 : Int))), ()), ())))) else none) | none => none) else none) else kx ((t1, ()), ((t2, ()), ((t3, ()), ((t4, ()), ())))))
def ru16_3 (g60 : Args [.v ex] → Option (Ress [ex])) (F : Nat) (s : ShVal sh16_3) (kx : ShVal sh16_3 → Option R16) : Option R16 := iter (fun s k => st16_3 g60 F s k kx) F s
abbrev ls16_3 (g60 : Args [.v ex] → Option (Ress [ex])) (F : Nat) : LS R16 := ⟨sh16_3, 0, ru16_3 g60 F⟩
def fn16 (g60 : Args [.v ex] → Option (Ress [ex])) (F : Nat) (x : Args [.v mat]) : Option R16 :=
  match x with
  | (x0, _) => (ru16_3 g60 F ((x0, ()), (((Ty.dflt (.arr 3 (.arr 3 (.int .u8)))), ()), (((Ty.dflt (.arr 3 (.arr 3 (.int .u8)))), ()), (((0 : Int), ()), ())))) (fun s' => match s' with | ((t1, _), (t2, _), (t3, _), (t4, _), _) => (some (t3, ()))))
theorem ev16_3 (g60 : Args [.v ex] → Option (Ress [ex])) (F : Nat) (s : ShVal sh16_3) (k kx : ShVal sh16_3 → Option R16) : evL TT (ct16 g60 ) kp16 [] (loopOf Try.f16 3) (envOf sh16_3 s) (fitK sh16_3 k) (fun j e => bif Nat.beq j 0 then fitK sh16_3 kx e else none) kr16 = st16_3 g60 F s k kx := by
  obtain ⟨⟨t1, _⟩, ⟨t2, _⟩, ⟨t3, _⟩, ⟨t4, _⟩, _⟩ := s
  kernel_rfl
theorem ok16_3 (g60 : Args [.v ex] → Option (Ress [ex])) (F : Nat) (hK : KOK Try.prog (ct16 g60 )) : LSOK Try.prog ⟨16, false, undef⟩ (ls16_3 g60 F) (loopOf Try.f16 3) kr16 :=
  loop_ok (st16_3 g60 F) mixed tt_ok hK (by kernel_rfl) (LTOK_by (l := []) (by kernel_rfl) trivial) (ev16_3 g60 F)
theorem ev16 (g60 : Args [.v ex] → Option (Ress [ex])) (F : Nat) (x : Args [.v mat]) : fnK TT (ct16 g60 ) kp16 [mat] [(3, ls16_3 g60 F)] (bodyOf Try.f16) [.cell 2 27] [.v mat] false false x = fn16 g60 F x := by
  obtain ⟨x0, _⟩ := x
  kernel_rfl
theorem ok16 (g60 : Args [.v ex] → Option (Ress [ex])) (hK : KOK Try.prog (ct16 g60 )) (cf : Args [.v mat] → Option R16) (h : ∀ x y, cf x = some y → ∃ F, fn16 g60 F x = some y) : KOne Try.prog 16 ⟨[.v mat], [mat], false, false, false, cf⟩ :=
  fn_one rfl (c := bodyOf Try.f16) mixed tt_ok hK Try.func16 (by kernel_rfl) (by kernel_rfl) (Nat.le_of_ble_eq_true (by kernel_rfl)) (by decide) fun x y hxy => by
    obtain ⟨F, hF⟩ := h x y hxy
    exact ⟨[(3, ls16_3 g60 F)], LTOK_by (l := [loopOf Try.f16 3]) (by kernel_rfl) ⟨ls_at (by kernel_rfl) (ok16_3 g60 F hK), trivial⟩, (ev16 g60 F x).trans hF⟩
abbrev R75 : Type := Ress [i64]
abbrev kp75 : List (Nat × List Nat) := [(0, [0, 1]), (1, [5, 0, 1]), (2, [8, 1, 0, 5]), (4, [18, 1, 0, 5]), (5, [4]), (3, [5, 0, 1]), (6, [4])]
abbrev ct75 (g74 : Args [.v i64, .v i64] → Option (Ress [i64])) : CTab := [(74, ⟨[.v i64, .v i64], [i64], false, false, false, g74⟩)]
abbrev kr75 : Env → Option R75 := endK TT [.tmp 4] [i64] false false
abbrev sh75_2 : Shape := [(0, vv i64), (1, vv i64), (5, vv i64)]
def st75_2 (g74 : Args [.v i64, .v i64] → Option (Ress [i64])) (F : Nat) (s : ShVal sh75_2) (k kx : ShVal sh75_2 → Option R75) : Option R75 :=
  match s with
  | ((t0, _), (t1, _), (t5, _), _) => (bif decide (t5 < t0) then (match (g74 (t0, (t1, ()))) with | some r10 => (bif (!decide (t0 = (0 : Int))) then (bif decide ((Int.tmod (w6 (t5 * r10.1)) t0) = (1 : Int)) then (some (t5, ())) else k ((t0, ()), ((t1, ()), (((w6 (t5 + (1 : Int))), ()), ())))) else none) | none => none) else kx ((t0, ()), ((t1, ()), ((t5, ()), ()))))
def ru75_2 (g74 : Args [.v i64, .v i64] → Option (Ress [i64])) (F : Nat) (s : ShVal sh75_2) (kx : ShVal sh75_2 → Option R75) : Option R75 := iter (fun s k => st75_2 g74 F s k kx) F s
abbrev ls75_2 (g74 : Args [.v i64, .v i64] → Option (Ress [i64])) (F : Nat) : LS R75 := ⟨sh75_2, 0, ru75_2 g74 F⟩
def fn75 (g74 : Args [.v i64, .v i64] → Option (Ress [i64])) (F : Nat) (x : Args [.v i64, .v i64]) : Option R75 :=
  match x with
  | (x0, x1, _) => (ru75_2 g74 F ((x0, ()), ((x1, ()), (((1 : Int), ()), ()))) (fun s' => match s' with | ((t0, _), (t1, _), (t5, _), _) => (some ((0 : Int), ()))))
theorem ev75_2 (g74 : Args [.v i64, .v i64] → Option (Ress [i64])) (F : Nat) (s : ShVal sh75_2) (k kx : ShVal sh75_2 → Option R75) : evL TT (ct75 g74 ) kp75 [] (loopOf Try.f75 2) (envOf sh75_2 s) (fitK sh75_2 k) (fun j e => bif Nat.beq j 0 then fitK sh75_2 kx e else none) kr75 = st75_2 g74 F s k kx := by
  obtain ⟨⟨t0, _⟩, ⟨t1, _⟩, ⟨t5, _⟩, _⟩ := s
  kernel_rfl
theorem ok75_2 (g74 : Args [.v i64, .v i64] → Option (Ress [i64])) (F : Nat) (hK : KOK Try.prog (ct75 g74 )) : LSOK Try.prog ⟨20, false, undef⟩ (ls75_2 g74 F) (loopOf Try.f75 2) kr75 :=
  loop_ok (st75_2 g74 F) mixed tt_ok hK (by kernel_rfl) (LTOK_by (l := []) (by kernel_rfl) trivial) (ev75_2 g74 F)
theorem ev75 (g74 : Args [.v i64, .v i64] → Option (Ress [i64])) (F : Nat) (x : Args [.v i64, .v i64]) : fnK TT (ct75 g74 ) kp75 [i64] [(2, ls75_2 g74 F)] (bodyOf Try.f75) [.tmp 4] [.v i64, .v i64] false false x = fn75 g74 F x := by
  obtain ⟨x0, x1, _⟩ := x
  kernel_rfl
theorem ok75 (g74 : Args [.v i64, .v i64] → Option (Ress [i64])) (hK : KOK Try.prog (ct75 g74 )) (cf : Args [.v i64, .v i64] → Option R75) (h : ∀ x y, cf x = some y → ∃ F, fn75 g74 F x = some y) : KOne Try.prog 75 ⟨[.v i64, .v i64], [i64], false, false, false, cf⟩ :=
  fn_one rfl (c := bodyOf Try.f75) mixed tt_ok hK Try.func75 (by kernel_rfl) (by kernel_rfl) (Nat.le_of_ble_eq_true (by kernel_rfl)) (by decide) fun x y hxy => by
    obtain ⟨F, hF⟩ := h x y hxy
    exact ⟨[(2, ls75_2 g74 F)], LTOK_by (l := [loopOf Try.f75 2]) (by kernel_rfl) ⟨ls_at (by kernel_rfl) (ok75_2 g74 F hK), trivial⟩, (ev75 g74 F x).trans hF⟩
abbrev R130 : Type := Ress [i64]
abbrev kp130 : List (Nat × List Nat) := [(0, [1, 5, 0]), (1, [7, 5, 0]), (2, [15, 7, 5, 0]), (4, [7, 5, 0]), (3, [7, 5, 0]), (5, [5, 8, 0]), (6, [9, 5, 8, 0]), (7, [23, 8, 9, 5, 0]), (9, [11, 10, 8, 9, 5, 0]), (10, [8, 12, 9, 5, 0]), (11, [9, 5, 8, 0]), (8, [9, 5, 8, 0]), (12, [6])]
abbrev ct130 (g74 : Args [.v i64, .v i64] → Option (Ress [i64])) : CTab := [(74, ⟨[.v i64, .v i64], [i64], false, false, false, g74⟩)]
abbrev kr130 : Env → Option R130 := endK TT [.tmp 6] [i64] false false
abbrev sh130_2 : Shape := [(0, vv i64), (5, bb mat), (7, vv i64)]
def st130_2 (g74 : Args [.v i64, .v i64] → Option (Ress [i64])) (F : Nat) (s : ShVal sh130_2) (k kx : ShVal sh130_2 → Option R130) : Option R130 :=
  match s with
  | ((t0, _), (t5, _), (t7, _), _) => (bif decide (t7 < (3 : Int)) then (bif ib t7 (Int.ofNat 3) then (bif ib t7 (Int.ofNat 3) then k ((t0, ()), (((tset (tset (1 : Int) 3 (tget (Ty.dflt (.arr 3 (.int .u8))) 3 t5 (tn t7)) (tn t7)) 3 t5 (tn t7)), ()), (((w6 (t7 + (1 : Int))), ()), ()))) else none) else none) else kx ((t0, ()), ((t5, ()), ((t7, ()), ()))))
def ru130_2 (g74 : Args [.v i64, .v i64] → Option (Ress [i64])) (F : Nat) (s : ShVal sh130_2) (kx : ShVal sh130_2 → Option R130) : Option R130 := iter (fun s k => st130_2 g74 F s k kx) F s
abbrev ls130_2 (g74 : Args [.v i64, .v i64] → Option (Ress [i64])) (F : Nat) : LS R130 := ⟨sh130_2, 0, ru130_2 g74 F⟩
abbrev sh130_7 : Shape := [(0, vv i64), (5, bb mat), (8, vv i64), (9, vv i64)]
def st130_7 (g74 : Args [.v i64, .v i64] → Option (Ress [i64])) (F : Nat) (s : ShVal sh130_7) (k kx : ShVal sh130_7 → Option R130) : Option R130 :=
  match s with
  | ((t0, _), (t5, _), (t8, _), (t9, _), _) => (bif decide (t9 < (3 : Int)) then (bif ib (Int.tmod (w6 (t9 + (1 : Int))) (3 : Int)) (Int.ofNat 3) then (bif ib (Int.tmod (w6 (t9 + (2 : Int))) (3 : Int)) (Int.ofNat 3) then (bif ib (Int.tmod (w6 (t9 + (2 : Int))) (3 : Int)) (Int.ofNat 3) then (bif ib (Int.tmod (w6 (t9 + (1 : Int))) (3 : Int)) (Int.ofNat 3) then (bif ib t9 (Int.ofNat 3) then k ((t0, ()), ((t5, ()), (((w6 (t8 + (w6 ((w6 (tget (0 : Int) 3 (tget (Ty.dflt (.arr 3 (.int .u8))) 3 t5 (tn (0 : Int))) (tn t9))) * (w6 ((w6 ((w6 (tget (0 : Int) 3 (tget (Ty.dflt (.arr 3 (.int .u8))) 3 t5 (tn (1 : Int))) (tn (Int.tmod (w6 (t9 + (1 : Int))) (3 : Int))))) * (w6 (tget (0 : Int) 3 (tget (Ty.dflt (.arr 3 (.int .u8))) 3 t5 (tn (2 : Int))) (tn (Int.tmod (w6 (t9 + (2 : Int))) (3 : Int))))))) - (w6 ((w6 (tget (0 : Int) 3 (tget (Ty.dflt (.arr 3 (.int .u8))) 3 t5 (tn (1 : Int))) (tn (Int.tmod (w6 (t9 + (2 : Int))) (3 : Int))))) * (w6 (tget (0 : Int) 3 (tget (Ty.dflt (.arr 3 (.int .u8))) 3 t5 (tn (2 : Int))) (tn (Int.tmod (w6 (t9 + (1 : Int))) (3 : Int))))))))))))), ()), (((w6 (t9 + (1 : Int))), ()), ())))) else none) else none) else none) else none) else none) else kx ((t0, ()), ((t5, ()), ((t8, ()), ((t9, ()), ())))))
def ru130_7 (g74 : Args [.v i64, .v i64] → Option (Ress [i64])) (F : Nat) (s : ShVal sh130_7) (kx : ShVal sh130_7 → Option R130) : Option R130 := iter (fun s k => st130_7 g74 F s k kx) F s
abbrev ls130_7 (g74 : Args [.v i64, .v i64] → Option (Ress [i64])) (F : Nat) : LS R130 := ⟨sh130_7, 2, ru130_7 g74 F⟩
def fn130 (g74 : Args [.v i64, .v i64] → Option (Ress [i64])) (F : Nat) (x : Args [.v i64, .v i64, .v mat]) : Option R130 :=
  match x with
  | (x0, x1, x2, _) => (ru130_2 g74 F ((x0, ()), ((x2, ()), ((x1, ()), ()))) (fun s' => match s' with | ((t0, _), (t5, _), (t7, _), _) => (ru130_7 g74 F ((t0, ()), ((t5, ()), (((0 : Int), ()), (((0 : Int), ()), ())))) (fun s' => match s' with | ((t0, _), (t5, _), (t8, _), (t9, _), _) => (match (g74 (t0, (t8, ()))) with | some r16 => (some (r16.1, ())) | none => none)))))
theorem ev130_2 (g74 : Args [.v i64, .v i64] → Option (Ress [i64])) (F : Nat) (s : ShVal sh130_2) (k kx : ShVal sh130_2 → Option R130) : evL TT (ct130 g74 ) kp130 [] (loopOf Try.f130 2) (envOf sh130_2 s) (fitK sh130_2 k) (fun j e => bif Nat.beq j 0 then fitK sh130_2 kx e else none) kr130 = st130_2 g74 F s k kx := by
  obtain ⟨⟨t0, _⟩, ⟨t5, _⟩, ⟨t7, _⟩, _⟩ := s
  kernel_rfl
theorem ok130_2 (g74 : Args [.v i64, .v i64] → Option (Ress [i64])) (F : Nat) (hK : KOK Try.prog (ct130 g74 )) : LSOK Try.prog ⟨67, false, undef⟩ (ls130_2 g74 F) (loopOf Try.f130 2) kr130 :=
  loop_ok (st130_2 g74 F) mixed tt_ok hK (by kernel_rfl) (LTOK_by (l := []) (by kernel_rfl) trivial) (ev130_2 g74 F)
theorem ev130_7 (g74 : Args [.v i64, .v i64] → Option (Ress [i64])) (F : Nat) (s : ShVal sh130_7) (k kx : ShVal sh130_7 → Option R130) : evL TT (ct130 g74 ) kp130 [] (loopOf Try.f130 7) (envOf sh130_7 s) (fitK sh130_7 k) (fun j e => bif Nat.beq j 2 then fitK sh130_7 kx e else none) kr130 = st130_7 g74 F s k kx := by
  obtain ⟨⟨t0, _⟩, ⟨t5, _⟩, ⟨t8, _⟩, ⟨t9, _⟩, _⟩ := s
  kernel_rfl
theorem ok130_7 (g74 : Args [.v i64, .v i64] → Option (Ress [i64])) (F : Nat) (hK : KOK Try.prog (ct130 g74 )) : LSOK Try.prog ⟨67, false, undef⟩ (ls130_7 g74 F) (loopOf Try.f130 7) kr130 :=
  loop_ok (st130_7 g74 F) mixed tt_ok hK (by kernel_rfl) (LTOK_by (l := []) (by kernel_rfl) trivial) (ev130_7 g74 F)
theorem ev130 (g74 : Args [.v i64, .v i64] → Option (Ress [i64])) (F : Nat) (x : Args [.v i64, .v i64, .v mat]) : fnK TT (ct130 g74 ) kp130 [i64] [(2, ls130_2 g74 F), (7, ls130_7 g74 F)] (bodyOf Try.f130) [.tmp 6] [.v i64, .v i64, .v mat] false false x = fn130 g74 F x := by
  obtain ⟨x0, x1, x2, _⟩ := x
  kernel_rfl
theorem ok130 (g74 : Args [.v i64, .v i64] → Option (Ress [i64])) (hK : KOK Try.prog (ct130 g74 )) (cf : Args [.v i64, .v i64, .v mat] → Option R130) (h : ∀ x y, cf x = some y → ∃ F, fn130 g74 F x = some y) : KOne Try.prog 130 ⟨[.v i64, .v i64, .v mat], [i64], false, false, false, cf⟩ :=
  fn_one rfl (c := bodyOf Try.f130) mixed tt_ok hK Try.func130 (by kernel_rfl) (by kernel_rfl) (Nat.le_of_ble_eq_true (by kernel_rfl)) (by decide) fun x y hxy => by
    obtain ⟨F, hF⟩ := h x y hxy
    exact ⟨[(2, ls130_2 g74 F), (7, ls130_7 g74 F)], LTOK_by (l := [loopOf Try.f130 2, loopOf Try.f130 7]) (by kernel_rfl) ⟨ls_at (by kernel_rfl) (ok130_2 g74 F hK), ⟨ls_at (by kernel_rfl) (ok130_7 g74 F hK), trivial⟩⟩, (ev130 g74 F x).trans hF⟩
abbrev R133 : Type := Ress [i64]
abbrev kp133 : List (Nat × List Nat) := [(0, [1, 5, 0]), (1, [1, 7, 5, 0]), (2, [1, 8, 7, 5, 0]), (3, [8, 12, 7, 5, 0]), (4, [13, 8, 12, 7, 5, 0]), (6, [26, 8, 7, 5, 0]), (7, [8, 0]), (5, [8, 0]), (8, [6])]
abbrev ct133 (g166 : Args [.v i64, .v i64, .p mat] → Option (Ress [i64])) : CTab := [(166, ⟨[.v i64, .v i64, .p mat], [i64], false, false, false, g166⟩)]
abbrev kr133 : Env → Option R133 := endK TT [.tmp 6] [i64] false false
def fn133 (g166 : Args [.v i64, .v i64, .p mat] → Option (Ress [i64])) (F : Nat) (x : Args [.v i64, .v i64, .v mat]) : Option R133 :=
  match x with
  | (x0, x1, x2, _) => (match (g166 ((0 : Int), ((0 : Int), (x2, ())))) with | some r7 => (bif decide (x1 = (2 : Int)) then (match (g166 ((0 : Int), ((0 : Int), (x2, ())))) with | some r11 => (match (g166 ((1 : Int), ((1 : Int), (x2, ())))) with | some r12 => (match (g166 ((0 : Int), ((1 : Int), (x2, ())))) with | some r13 => (match (g166 ((1 : Int), ((0 : Int), (x2, ())))) with | some r14 => (bif (!decide (x0 = (0 : Int))) then (bif (!decide (x0 = (0 : Int))) then (some ((Int.tmod (w6 ((Int.tmod (w6 ((w6 (r11.1 * r12.1)) - (w6 (r13.1 * r14.1)))) x0) + x0)) x0), ())) else none) else none) | none => none) | none => none) | none => none) | none => none) else (bif decide (x1 = (3 : Int)) then (match (g166 ((0 : Int), ((0 : Int), (x2, ())))) with | some r12 => (match (g166 ((1 : Int), ((1 : Int), (x2, ())))) with | some r13 => (match (g166 ((2 : Int), ((2 : Int), (x2, ())))) with | some r14 => (match (g166 ((1 : Int), ((2 : Int), (x2, ())))) with | some r15 => (match (g166 ((2 : Int), ((1 : Int), (x2, ())))) with | some r16 => (match (g166 ((0 : Int), ((1 : Int), (x2, ())))) with | some r17 => (match (g166 ((1 : Int), ((0 : Int), (x2, ())))) with | some r18 => (match (g166 ((2 : Int), ((2 : Int), (x2, ())))) with | some r19 => (match (g166 ((1 : Int), ((2 : Int), (x2, ())))) with | some r20 => (match (g166 ((2 : Int), ((0 : Int), (x2, ())))) with | some r21 => (match (g166 ((0 : Int), ((2 : Int), (x2, ())))) with | some r22 => (match (g166 ((1 : Int), ((0 : Int), (x2, ())))) with | some r23 => (match (g166 ((2 : Int), ((1 : Int), (x2, ())))) with | some r24 => (match (g166 ((1 : Int), ((1 : Int), (x2, ())))) with | some r25 => (match (g166 ((2 : Int), ((0 : Int), (x2, ())))) with | some r26 => (bif (!decide (x0 = (0 : Int))) then (bif (!decide (x0 = (0 : Int))) then (some ((Int.tmod (w6 ((Int.tmod (w6 ((w6 ((w6 (r12.1 * (w6 ((w6 (r13.1 * r14.1)) - (w6 (r15.1 * r16.1)))))) - (w6 (r17.1 * (w6 ((w6 (r18.1 * r19.1)) - (w6 (r20.1 * r21.1)))))))) + (w6 (r22.1 * (w6 ((w6 (r23.1 * r24.1)) - (w6 (r25.1 * r26.1)))))))) x0) + x0)) x0), ())) else none) else none) | none => none) | none => none) | none => none) | none => none) | none => none) | none => none) | none => none) | none => none) | none => none) | none => none) | none => none) | none => none) | none => none) | none => none) | none => none) else (bif (!decide (x0 = (0 : Int))) then (bif (!decide (x0 = (0 : Int))) then (some ((Int.tmod (w6 ((Int.tmod r7.1 x0) + x0)) x0), ())) else none) else none))) | none => none)
theorem ev133 (g166 : Args [.v i64, .v i64, .p mat] → Option (Ress [i64])) (F : Nat) (x : Args [.v i64, .v i64, .v mat]) : fnK TT (ct133 g166 ) kp133 [i64] [] (bodyOf Try.f133) [.tmp 6] [.v i64, .v i64, .v mat] false false x = fn133 g166 F x := by
  obtain ⟨x0, x1, x2, _⟩ := x
  kernel_rfl
theorem ok133 (g166 : Args [.v i64, .v i64, .p mat] → Option (Ress [i64])) (hK : KOK Try.prog (ct133 g166 )) (cf : Args [.v i64, .v i64, .v mat] → Option R133) (h : ∀ x y, cf x = some y → ∃ F, fn133 g166 F x = some y) : KOne Try.prog 133 ⟨[.v i64, .v i64, .v mat], [i64], false, false, false, cf⟩ :=
  fn_one rfl (c := bodyOf Try.f133) mixed tt_ok hK Try.func133 (by kernel_rfl) (by kernel_rfl) (Nat.le_of_ble_eq_true (by kernel_rfl)) (by decide) fun x y hxy => by
    obtain ⟨F, hF⟩ := h x y hxy
    exact ⟨[], LTOK_by (l := []) (by kernel_rfl) trivial, (ev133 g166 F x).trans hF⟩
abbrev R154 : Type := Ress [(.slice 2 i64)]
abbrev kp154 : List (Nat × List Nat) := [(0, [2, 3, 1, 0]), (1, [2, 3, 1, 0, 9]), (2, [10, 2, 3, 1, 0, 9]), (3, [15, 9, 10, 2, 3, 1, 0]), (5, [10, 2, 3, 1, 0, 9]), (4, [10, 2, 3, 1, 0, 9]), (6, [8])]
abbrev ct154 (g74 : Args [.v i64, .v i64] → Option (Ress [i64])) : CTab := [(74, ⟨[.v i64, .v i64], [i64], false, false, false, g74⟩)]
abbrev kr154 : Env → Option R154 := endK TT [.tmp 8] [(.slice 2 i64)] true false
abbrev sh154_3 : Shape := [(0, vv i64), (1, vv (.slice 2 i64)), (2, vv (.slice 2 i64)), (3, vv i64), (9, vr 2 i64 145 false), (10, vv i64)]
def st154_3 (g74 : Args [.v i64, .v i64] → Option (Ress [i64])) (F : Nat) (s : ShVal sh154_3) (k kx : ShVal sh154_3 → Option R154) : Option R154 :=
  match s with
  | ((t0, _), (t1, _), (t2, _), (t3, _), (t9, _), (t10, _), _) => (bif decide ((List.length t1) ≤ 9223372036854775807) then (bif decide (t10 < (Int.ofNat (List.length t1))) then (bif ib t10 (Int.ofNat (List.length t1)) then (bif ib t10 (Int.ofNat (List.length t2)) then (match (g74 (t0, ((w6 ((List.getD t1 (tn t10) (0 : Int)) - (w6 (t3 * (List.getD t2 (tn t10) (0 : Int)))))), ()))) with | some r16 => (bif (growOk (List.length t9) (List.length (r16.1 :: []))) then k ((t0, ()), ((t1, ()), ((t2, ()), ((t3, ()), (((t9 ++ (r16.1 :: [])), ()), (((w6 (t10 + (1 : Int))), ()), ())))))) else none) | none => none) else none) else none) else kx ((t0, ()), ((t1, ()), ((t2, ()), ((t3, ()), ((t9, ()), ((t10, ()), ()))))))) else none)
def ru154_3 (g74 : Args [.v i64, .v i64] → Option (Ress [i64])) (F : Nat) (s : ShVal sh154_3) (kx : ShVal sh154_3 → Option R154) : Option R154 := iter (fun s k => st154_3 g74 F s k kx) F s
abbrev ls154_3 (g74 : Args [.v i64, .v i64] → Option (Ress [i64])) (F : Nat) : LS R154 := ⟨sh154_3, 0, ru154_3 g74 F⟩
def fn154 (g74 : Args [.v i64, .v i64] → Option (Ress [i64])) (F : Nat) (x : Args [.v i64, .v (.slice 2 i64), .v (.slice 2 i64), .v i64]) : Option R154 :=
  match x with
  | (x0, x1, x2, x3, _) => (ru154_3 g74 F ((x0, ()), ((x1, ()), ((x2, ()), ((x3, ()), (([], ()), (((0 : Int), ()), ())))))) (fun s' => match s' with | ((t0, _), (t1, _), (t2, _), (t3, _), (t9, _), (t10, _), _) => (some (t9, ()))))
theorem ev154_3 (g74 : Args [.v i64, .v i64] → Option (Ress [i64])) (F : Nat) (s : ShVal sh154_3) (k kx : ShVal sh154_3 → Option R154) : evL TT (ct154 g74 ) kp154 [] (loopOf Try.f154 3) (envOf sh154_3 s) (fitK sh154_3 k) (fun j e => bif Nat.beq j 0 then fitK sh154_3 kx e else none) kr154 = st154_3 g74 F s k kx := by
  obtain ⟨⟨t0, _⟩, ⟨t1, _⟩, ⟨t2, _⟩, ⟨t3, _⟩, ⟨t9, _⟩, ⟨t10, _⟩, _⟩ := s
  kernel_rfl
theorem ok154_3 (g74 : Args [.v i64, .v i64] → Option (Ress [i64])) (F : Nat) (hK : KOK Try.prog (ct154 g74 )) : LSOK Try.prog ⟨35, false, undef⟩ (ls154_3 g74 F) (loopOf Try.f154 3) kr154 :=
  loop_ok (st154_3 g74 F) mixed tt_ok hK (by kernel_rfl) (LTOK_by (l := []) (by kernel_rfl) trivial) (ev154_3 g74 F)
theorem ev154 (g74 : Args [.v i64, .v i64] → Option (Ress [i64])) (F : Nat) (x : Args [.v i64, .v (.slice 2 i64), .v (.slice 2 i64), .v i64]) : fnK TT (ct154 g74 ) kp154 [(.slice 2 i64)] [(3, ls154_3 g74 F)] (bodyOf Try.f154) [.tmp 8] [.v i64, .v (.slice 2 i64), .v (.slice 2 i64), .v i64] true false x = fn154 g74 F x := by
  obtain ⟨x0, x1, x2, x3, _⟩ := x
  kernel_rfl
theorem ok154 (g74 : Args [.v i64, .v i64] → Option (Ress [i64])) (hK : KOK Try.prog (ct154 g74 )) (cf : Args [.v i64, .v (.slice 2 i64), .v (.slice 2 i64), .v i64] → Option R154) (h : ∀ x y, cf x = some y → ∃ F, fn154 g74 F x = some y) : KOne Try.prog 154 ⟨[.v i64, .v (.slice 2 i64), .v (.slice 2 i64), .v i64], [(.slice 2 i64)], true, false, false, cf⟩ :=
  fn_one rfl (c := bodyOf Try.f154) mixed tt_ok hK Try.func154 (by kernel_rfl) (by kernel_rfl) (Nat.le_of_ble_eq_true (by kernel_rfl)) (by decide) fun x y hxy => by
    obtain ⟨F, hF⟩ := h x y hxy
    exact ⟨[(3, ls154_3 g74 F)], LTOK_by (l := [loopOf Try.f154 3]) (by kernel_rfl) ⟨ls_at (by kernel_rfl) (ok154_3 g74 F hK), trivial⟩, (ev154 g74 F x).trans hF⟩
abbrev R59 : Type := Ress [(.slice 2 i64)]
abbrev kp59 : List (Nat × List Nat) := [(0, [1, 5, 0]), (1, [1, 8, 5, 7, 0]), (2, [1, 8, 9, 5, 7, 0]), (3, [14, 7, 5, 9, 8, 1, 0]), (5, [5, 9, 8, 1, 7, 0]), (6, [10, 5, 9, 8, 1, 7, 0]), (7, [29, 8, 10, 5, 9, 1, 7, 0]), (9, [10, 5, 9, 8, 1, 7, 0]), (8, [10, 5, 9, 8, 1, 7, 0]), (4, [1, 8, 9, 5, 7, 0]), (10, [5, 1, 11, 0, 8]), (11, [67, 5, 1, 11, 0, 8]), (12, [6]), (13, [75, 11, 8, 0, 1, 5]), (14, [6]), (15, [6])]
abbrev ct59 (g74 : Args [.v i64, .v i64] → Option (Ress [i64])) (g130 : Args [.v i64, .v i64, .v mat] → Option (Ress [i64])) : CTab := [(74, ⟨[.v i64, .v i64], [i64], false, false, false, g74⟩), (130, ⟨[.v i64, .v i64, .v mat], [i64], false, false, false, g130⟩)]
abbrev kr59 : Env → Option R59 := endK TT [.tmp 6] [(.slice 2 i64)] true true
abbrev sh59_7 : Shape := [(0, vv i64), (1, vv i64), (5, bb mat), (7, vv i64), (8, vv i64), (9, vv i64), (10, vv i64)]
def st59_7 (g74 : Args [.v i64, .v i64] → Option (Ress [i64])) (g130 : Args [.v i64, .v i64, .v mat] → Option (Ress [i64])) (F : Nat) (s : ShVal sh59_7) (k kx : ShVal sh59_7 → Option R59) : Option R59 :=
  match s with
  | ((t0, _), (t1, _), (t5, _), (t7, _), (t8, _), (t9, _), (t10, _), _) => (bif decide (t10 < t1) then (bif ib t9 (Int.ofNat 3) then (bif ib t9 (Int.ofNat 3) then (bif ib t10 (Int.ofNat 3) then (bif ib t10 (Int.ofNat 3) then (bif ib t9 (Int.ofNat 3) then (bif ib t10 (Int.ofNat 3) then (bif ib t10 (Int.ofNat 3) then (bif ib t9 (Int.ofNat 3) then k ((t0, ()), ((t1, ()), ((t5, ()), ((t7, ()), (((w6 ((w6 (t8 + (w6 ((w6 (tget (0 : Int) 3 (tget (Ty.dflt (.arr 3 (.int .u8))) 3 t5 (tn t9)) (tn t9))) * (w6 (tget (0 : Int) 3 (tget (Ty.dflt (.arr 3 (.int .u8))) 3 t5 (tn t10)) (tn t10))))))) - (w6 ((w6 (tget (0 : Int) 3 (tget (Ty.dflt (.arr 3 (.int .u8))) 3 t5 (tn t9)) (tn t10))) * (w6 (tget (0 : Int) 3 (tget (Ty.dflt (.arr 3 (.int .u8))) 3 t5 (tn t10)) (tn t9))))))), ()), ((t9, ()), (((w6 (t10 + (1 : Int))), ()), ()))))))) else none) else none) else none) else none) else none) else none) else none) else none) else kx ((t0, ()), ((t1, ()), ((t5, ()), ((t7, ()), ((t8, ()), ((t9, ()), ((t10, ()), ()))))))))
def ru59_7 (g74 : Args [.v i64, .v i64] → Option (Ress [i64])) (g130 : Args [.v i64, .v i64, .v mat] → Option (Ress [i64])) (F : Nat) (s : ShVal sh59_7) (kx : ShVal sh59_7 → Option R59) : Option R59 := iter (fun s k => st59_7 g74 g130 F s k kx) F s
abbrev ls59_7 (g74 : Args [.v i64, .v i64] → Option (Ress [i64])) (g130 : Args [.v i64, .v i64, .v mat] → Option (Ress [i64])) (F : Nat) : LS R59 := ⟨sh59_7, 2, ru59_7 g74 g130 F⟩
abbrev sh59_3 : Shape := [(0, vv i64), (1, vv i64), (5, bb mat), (7, vv i64), (8, vv i64), (9, vv i64)]
def st59_3 (g74 : Args [.v i64, .v i64] → Option (Ress [i64])) (g130 : Args [.v i64, .v i64, .v mat] → Option (Ress [i64])) (F : Nat) (s : ShVal sh59_3) (k kx : ShVal sh59_3 → Option R59) : Option R59 :=
  match s with
  | ((t0, _), (t1, _), (t5, _), (t7, _), (t8, _), (t9, _), _) => (bif decide (t9 < t1) then (bif ib t9 (Int.ofNat 3) then (bif ib t9 (Int.ofNat 3) then (ru59_7 g74 g130 F ((t0, ()), ((t1, ()), ((t5, ()), (((w6 (t7 + (w6 (tget (0 : Int) 3 (tget (Ty.dflt (.arr 3 (.int .u8))) 3 t5 (tn t9)) (tn t9))))), ()), ((t8, ()), ((t9, ()), (((w6 (t9 + (1 : Int))), ()), ()))))))) (fun s' => match s' with | ((t0, _), (t1, _), (t5, _), (t7, _), (t8, _), (t9, _), (t10, _), _) => k ((t0, ()), ((t1, ()), ((t5, ()), ((t7, ()), ((t8, ()), (((w6 (t9 + (1 : Int))), ()), ())))))))) else none) else none) else kx ((t0, ()), ((t1, ()), ((t5, ()), ((t7, ()), ((t8, ()), ((t9, ()), ())))))))
def ru59_3 (g74 : Args [.v i64, .v i64] → Option (Ress [i64])) (g130 : Args [.v i64, .v i64, .v mat] → Option (Ress [i64])) (F : Nat) (s : ShVal sh59_3) (kx : ShVal sh59_3 → Option R59) : Option R59 := iter (fun s k => st59_3 g74 g130 F s k kx) F s
abbrev ls59_3 (g74 : Args [.v i64, .v i64] → Option (Ress [i64])) (g130 : Args [.v i64, .v i64, .v mat] → Option (Ress [i64])) (F : Nat) : LS R59 := ⟨sh59_3, 0, ru59_3 g74 g130 F⟩
def fn59 (g74 : Args [.v i64, .v i64] → Option (Ress [i64])) (g130 : Args [.v i64, .v i64, .v mat] → Option (Ress [i64])) (F : Nat) (x : Args [.v i64, .v i64, .v mat]) : Option R59 :=
  match x with
  | (x0, x1, x2, _) => (ru59_3 g74 g130 F ((x0, ()), ((x1, ()), ((x2, ()), (((0 : Int), ()), (((0 : Int), ()), (((0 : Int), ()), ())))))) (fun s' => match s' with | ((t0, _), (t1, _), (t5, _), (t7, _), (t8, _), (t9, _), _) => (match (g74 (t0, ((w6 (-t7)), ()))) with | some r15 => (bif decide (t1 = (2 : Int)) then (match (g74 (t0, (t8, ()))) with | some r18 => (some ((((1 : Int) :: (r15.1 :: [])) ++ (r18.1 :: [])), ())) | none => none) else (bif decide (t1 = (3 : Int)) then (match (g74 (t0, (t8, ()))) with | some r19 => (match (g130 (t0, (t1, (t5, ())))) with | some r20 => (match (g74 (t0, ((w6 (-r20.1)), ()))) with | some r21 => (some ((((1 : Int) :: (r15.1 :: [])) ++ (r19.1 :: (r21.1 :: []))), ())) | none => none) | none => none) | none => none) else (some (((1 : Int) :: (r15.1 :: [])), ())))) | none => none)))
theorem ev59_7 (g74 : Args [.v i64, .v i64] → Option (Ress [i64])) (g130 : Args [.v i64, .v i64, .v mat] → Option (Ress [i64])) (F : Nat) (s : ShVal sh59_7) (k kx : ShVal sh59_7 → Option R59) : evL TT (ct59 g74 g130 ) kp59 [] (loopOf Try.f59 7) (envOf sh59_7 s) (fitK sh59_7 k) (fun j e => bif Nat.beq j 2 then fitK sh59_7 kx e else none) kr59 = st59_7 g74 g130 F s k kx := by
  obtain ⟨⟨t0, _⟩, ⟨t1, _⟩, ⟨t5, _⟩, ⟨t7, _⟩, ⟨t8, _⟩, ⟨t9, _⟩, ⟨t10, _⟩, _⟩ := s
  kernel_rfl
theorem ok59_7 (g74 : Args [.v i64, .v i64] → Option (Ress [i64])) (g130 : Args [.v i64, .v i64, .v mat] → Option (Ress [i64])) (F : Nat) (hK : KOK Try.prog (ct59 g74 g130 )) : LSOK Try.prog ⟨90, false, undef⟩ (ls59_7 g74 g130 F) (loopOf Try.f59 7) kr59 :=
  loop_ok (st59_7 g74 g130 F) mixed tt_ok hK (by kernel_rfl) (LTOK_by (l := []) (by kernel_rfl) trivial) (ev59_7 g74 g130 F)
theorem ev59_3 (g74 : Args [.v i64, .v i64] → Option (Ress [i64])) (g130 : Args [.v i64, .v i64, .v mat] → Option (Ress [i64])) (F : Nat) (s : ShVal sh59_3) (k kx : ShVal sh59_3 → Option R59) : evL TT (ct59 g74 g130 ) kp59 [(7, ls59_7 g74 g130 F)] (loopOf Try.f59 3) (envOf sh59_3 s) (fitK sh59_3 k) (fun j e => bif Nat.beq j 0 then fitK sh59_3 kx e else none) kr59 = st59_3 g74 g130 F s k kx := by
  obtain ⟨⟨t0, _⟩, ⟨t1, _⟩, ⟨t5, _⟩, ⟨t7, _⟩, ⟨t8, _⟩, ⟨t9, _⟩, _⟩ := s
  kernel_rfl
theorem ok59_3 (g74 : Args [.v i64, .v i64] → Option (Ress [i64])) (g130 : Args [.v i64, .v i64, .v mat] → Option (Ress [i64])) (F : Nat) (hK : KOK Try.prog (ct59 g74 g130 )) : LSOK Try.prog ⟨90, false, undef⟩ (ls59_3 g74 g130 F) (loopOf Try.f59 3) kr59 :=
  loop_ok (st59_3 g74 g130 F) mixed tt_ok hK (by kernel_rfl) (LTOK_by (l := [loopOf Try.f59 7]) (by kernel_rfl) ⟨ls_at (by kernel_rfl) (ok59_7 g74 g130 F hK), trivial⟩) (ev59_3 g74 g130 F)
theorem ev59 (g74 : Args [.v i64, .v i64] → Option (Ress [i64])) (g130 : Args [.v i64, .v i64, .v mat] → Option (Ress [i64])) (F : Nat) (x : Args [.v i64, .v i64, .v mat]) : fnK TT (ct59 g74 g130 ) kp59 [(.slice 2 i64)] [(3, ls59_3 g74 g130 F)] (bodyOf Try.f59) [.tmp 6] [.v i64, .v i64, .v mat] true true x = fn59 g74 g130 F x := by
  obtain ⟨x0, x1, x2, _⟩ := x
  kernel_rfl
theorem ok59 (g74 : Args [.v i64, .v i64] → Option (Ress [i64])) (g130 : Args [.v i64, .v i64, .v mat] → Option (Ress [i64])) (hK : KOK Try.prog (ct59 g74 g130 )) (cf : Args [.v i64, .v i64, .v mat] → Option R59) (h : ∀ x y, cf x = some y → ∃ F, fn59 g74 g130 F x = some y) : KOne Try.prog 59 ⟨[.v i64, .v i64, .v mat], [(.slice 2 i64)], true, true, false, cf⟩ :=
  fn_one rfl (c := bodyOf Try.f59) mixed tt_ok hK Try.func59 (by kernel_rfl) (by kernel_rfl) (Nat.le_of_ble_eq_true (by kernel_rfl)) (by decide) fun x y hxy => by
    obtain ⟨F, hF⟩ := h x y hxy
    exact ⟨[(3, ls59_3 g74 g130 F)], LTOK_by (l := [loopOf Try.f59 3]) (by kernel_rfl) ⟨ls_at (by kernel_rfl) (ok59_3 g74 g130 F hK), trivial⟩, (ev59 g74 g130 F x).trans hF⟩
abbrev R62 : Type := Ress [(.slice 2 i64)]
abbrev kp62 : List (Nat × List Nat) := [(0, [1, 5, 0]), (1, [1, 7, 5, 0]), (2, [1, 9, 7, 5, 8, 0]), (3, [1, 16, 9, 7, 5, 8, 0, 15]), (4, [17, 8, 5, 7, 9, 16, 1, 0, 15]), (5, [8, 5, 10, 7, 9, 16, 1, 0, 15]), (6, [5, 10, 7, 9, 16, 1, 8, 0, 15]), (7, [11, 5, 10, 7, 9, 16, 1, 8, 0, 15]), (8, [29, 9, 11, 5, 10, 7, 16, 1, 8, 0, 15]), (10, [11, 5, 10, 7, 9, 16, 1, 8, 0, 15]), (9, [11, 5, 10, 7, 9, 16, 1, 8, 0, 15]), (11, [1, 16, 9, 7, 5, 8, 0, 15]), (12, [12, 9, 1, 5, 0]), (13, [58, 12, 9, 1, 5, 0]), (14, [12, 1, 5, 0]), (15, [64, 12, 1, 5, 0]), (16, [0, 12]), (17, [75, 0, 12, 74]), (18, [76, 75, 0, 12, 74]), (19, [13, 75, 0, 12, 74]), (20, [75, 0, 12, 74]), (21, [75, 0, 12, 74]), (22, [6])]
abbrev ct62 (g132 : Args [.v i64, .v i64, .p mat] → Option (Ress [i64])) (g133 : Args [.v i64, .v i64, .v mat] → Option (Ress [i64])) : CTab := [(132, ⟨[.v i64, .v i64, .p mat], [i64], false, false, false, g132⟩), (133, ⟨[.v i64, .v i64, .v mat], [i64], false, false, false, g133⟩)]
abbrev kr62 : Env → Option R62 := endK TT [.tmp 6] [(.slice 2 i64)] true true
abbrev sh62_8 : Shape := [(0, vv i64), (1, vv i64), (5, bb mat), (7, .fn 132 [5]), (8, vv i64), (9, vv i64), (10, vv i64), (11, vv i64), (15, vv i64), (16, vv i64)]
def st62_8 (g132 : Args [.v i64, .v i64, .p mat] → Option (Ress [i64])) (g133 : Args [.v i64, .v i64, .v mat] → Option (Ress [i64])) (F : Nat) (s : ShVal sh62_8) (k kx : ShVal sh62_8 → Option R62) : Option R62 :=
  match s with
  | ((t0, _), (t1, _), (t5, _), _, (t8, _), (t9, _), (t10, _), (t11, _), (t15, _), (t16, _), _) => (bif decide (t11 < t1) then (match (g132 (t10, (t10, (t5, ())))) with | some r32 => (match (g132 (t11, (t11, (t5, ())))) with | some r33 => (match (g132 (t10, (t11, (t5, ())))) with | some r34 => (match (g132 (t11, (t10, (t5, ())))) with | some r35 => k ((t0, ()), ((t1, ()), ((t5, ()), ((), ((t8, ()), (((w6 (t9 + (w6 ((w6 (r32.1 * r33.1)) - (w6 (r34.1 * r35.1)))))), ()), ((t10, ()), (((w6 (t11 + (1 : Int))), ()), ((t15, ()), ((t16, ()), ())))))))))) | none => none) | none => none) | none => none) | none => none) else kx ((t0, ()), ((t1, ()), ((t5, ()), ((), ((t8, ()), ((t9, ()), ((t10, ()), ((t11, ()), ((t15, ()), ((t16, ()), ())))))))))))
def ru62_8 (g132 : Args [.v i64, .v i64, .p mat] → Option (Ress [i64])) (g133 : Args [.v i64, .v i64, .v mat] → Option (Ress [i64])) (F : Nat) (s : ShVal sh62_8) (kx : ShVal sh62_8 → Option R62) : Option R62 := iter (fun s k => st62_8 g132 g133 F s k kx) F s
abbrev ls62_8 (g132 : Args [.v i64, .v i64, .p mat] → Option (Ress [i64])) (g133 : Args [.v i64, .v i64, .v mat] → Option (Ress [i64])) (F : Nat) : LS R62 := ⟨sh62_8, 2, ru62_8 g132 g133 F⟩
abbrev sh62_4 : Shape := [(0, vv i64), (1, vv i64), (5, bb mat), (7, .fn 132 [5]), (8, vv i64), (9, vv i64), (15, vv i64), (16, vv i64)]
def st62_4 (g132 : Args [.v i64, .v i64, .p mat] → Option (Ress [i64])) (g133 : Args [.v i64, .v i64, .v mat] → Option (Ress [i64])) (F : Nat) (s : ShVal sh62_4) (k kx : ShVal sh62_4 → Option R62) : Option R62 :=
  match s with
  | ((t0, _), (t1, _), (t5, _), _, (t8, _), (t9, _), (t15, _), (t16, _), _) => (bif decide (t16 < t15) then (match (g132 (t16, (t16, (t5, ())))) with | some r19 => (ru62_8 g132 g133 F ((t0, ()), ((t1, ()), ((t5, ()), ((), (((w6 (t8 + r19.1)), ()), ((t9, ()), ((t16, ()), (((w6 (t16 + (1 : Int))), ()), ((t15, ()), ((t16, ()), ())))))))))) (fun s' => match s' with | ((t0, _), (t1, _), (t5, _), _, (t8, _), (t9, _), (t10, _), (t11, _), (t15, _), (t16, _), _) => k ((t0, ()), ((t1, ()), ((t5, ()), ((), ((t8, ()), ((t9, ()), ((t15, ()), (((w6 (t16 + (1 : Int))), ()), ())))))))))) | none => none) else kx ((t0, ()), ((t1, ()), ((t5, ()), ((), ((t8, ()), ((t9, ()), ((t15, ()), ((t16, ()), ())))))))))
def ru62_4 (g132 : Args [.v i64, .v i64, .p mat] → Option (Ress [i64])) (g133 : Args [.v i64, .v i64, .v mat] → Option (Ress [i64])) (F : Nat) (s : ShVal sh62_4) (kx : ShVal sh62_4 → Option R62) : Option R62 := iter (fun s k => st62_4 g132 g133 F s k kx) F s
abbrev ls62_4 (g132 : Args [.v i64, .v i64, .p mat] → Option (Ress [i64])) (g133 : Args [.v i64, .v i64, .v mat] → Option (Ress [i64])) (F : Nat) : LS R62 := ⟨sh62_4, 0, ru62_4 g132 g133 F⟩
abbrev sh62_18 : Shape := [(0, vv i64), (12, vr 2 i64 193 true), (74, vv i64), (75, vv i64)]
def st62_18 (g132 : Args [.v i64, .v i64, .p mat] → Option (Ress [i64])) (g133 : Args [.v i64, .v i64, .v mat] → Option (Ress [i64])) (F : Nat) (s : ShVal sh62_18) (k kx : ShVal sh62_18 → Option R62) : Option R62 :=
  match s with
  | ((t0, _), (t12, _), (t74, _), (t75, _), _) => (bif decide (t75 < t74) then (bif ib t75 (Int.ofNat (List.length t12)) then (bif (!decide (t0 = (0 : Int))) then (bif (!decide (t0 = (0 : Int))) then (bif ib t75 (Int.ofNat (List.length t12)) then k ((t0, ()), (((List.set t12 (tn t75) (Int.tmod (w6 ((Int.tmod (List.getD t12 (tn t75) (0 : Int)) t0) + t0)) t0)), ()), ((t74, ()), (((w6 (t75 + (1 : Int))), ()), ())))) else none) else none) else none) else none) else kx ((t0, ()), ((t12, ()), ((t74, ()), ((t75, ()), ())))))
def ru62_18 (g132 : Args [.v i64, .v i64, .p mat] → Option (Ress [i64])) (g133 : Args [.v i64, .v i64, .v mat] → Option (Ress [i64])) (F : Nat) (s : ShVal sh62_18) (kx : ShVal sh62_18 → Option R62) : Option R62 := iter (fun s k => st62_18 g132 g133 F s k kx) F s
abbrev ls62_18 (g132 : Args [.v i64, .v i64, .p mat] → Option (Ress [i64])) (g133 : Args [.v i64, .v i64, .v mat] → Option (Ress [i64])) (F : Nat) : LS R62 := ⟨sh62_18, 4, ru62_18 g132 g133 F⟩
def fn62 (g132 : Args [.v i64, .v i64, .p mat] → Option (Ress [i64])) (g133 : Args [.v i64, .v i64, .v mat] → Option (Ress [i64])) (F : Nat) (x : Args [.v i64, .v i64, .v mat]) : Option R62 :=
  match x with
  | (x0, x1, x2, _) => (ru62_4 g132 g133 F ((x0, ()), ((x1, ()), ((x2, ()), ((), (((0 : Int), ()), (((0 : Int), ()), ((x1, ()), (((0 : Int), ()), ())))))))) (fun s' => match s' with | ((t0, _), (t1, _), (t5, _), _, (t8, _), (t9, _), (t15, _), (t16, _), _) => (bif decide ((1 : Int) < t1) then (bif decide ((2 : Int) < t1) then (match (g133 (t0, (t1, (t5, ())))) with | some r21 => (ru62_18 g132 g133 F ((t0, ()), ((((((1 : Int) :: ((w6 (-t8)) :: [])) ++ (t9 :: [])) ++ ((w6 (-r21.1)) :: [])), ()), (((Int.ofNat (List.length ((((1 : Int) :: ((w6 (-t8)) :: [])) ++ (t9 :: [])) ++ ((w6 (-r21.1)) :: [])))), ()), (((0 : Int), ()), ())))) (fun s' => match s' with | ((t0, _), (t12, _), (t74, _), (t75, _), _) => (some (t12, ())))) | none => none) else (ru62_18 g132 g133 F ((t0, ()), (((((1 : Int) :: ((w6 (-t8)) :: [])) ++ (t9 :: [])), ()), (((Int.ofNat (List.length (((1 : Int) :: ((w6 (-t8)) :: [])) ++ (t9 :: [])))), ()), (((0 : Int), ()), ())))) (fun s' => match s' with | ((t0, _), (t12, _), (t74, _), (t75, _), _) => (some (t12, ()))))) else (bif decide ((2 : Int) < t1) then (match (g133 (t0, (t1, (t5, ())))) with | some r20 => (ru62_18 g132 g133 F ((t0, ()), (((((1 : Int) :: ((w6 (-t8)) :: [])) ++ ((w6 (-r20.1)) :: [])), ()), (((Int.ofNat (List.length (((1 : Int) :: ((w6 (-t8)) :: [])) ++ ((w6 (-r20.1)) :: [])))), ()), (((0 : Int), ()), ())))) (fun s' => match s' with | ((t0, _), (t12, _), (t74, _), (t75, _), _) => (some (t12, ())))) | none => none) else (ru62_18 g132 g133 F ((t0, ()), ((((1 : Int) :: ((w6 (-t8)) :: [])), ()), (((Int.ofNat (List.length ((1 : Int) :: ((w6 (-t8)) :: [])))), ()), (((0 : Int), ()), ())))) (fun s' => match s' with | ((t0, _), (t12, _), (t74, _), (t75, _), _) => (some (t12, ()))))))))
theorem ev62_8 (g132 : Args [.v i64, .v i64, .p mat] → Option (Ress [i64])) (g133 : Args [.v i64, .v i64, .v mat] → Option (Ress [i64])) (F : Nat) (s : ShVal sh62_8) (k kx : ShVal sh62_8 → Option R62) : evL TT (ct62 g132 g133 ) kp62 [] (loopOf Try.f62 8) (envOf sh62_8 s) (fitK sh62_8 k) (fun j e => bif Nat.beq j 2 then fitK sh62_8 kx e else none) kr62 = st62_8 g132 g133 F s k kx := by
  obtain ⟨⟨t0, _⟩, ⟨t1, _⟩, ⟨t5, _⟩, _, ⟨t8, _⟩, ⟨t9, _⟩, ⟨t10, _⟩, ⟨t11, _⟩, ⟨t15, _⟩, ⟨t16, _⟩, _⟩ := s
  kernel_rfl
theorem ok62_8 (g132 : Args [.v i64, .v i64, .p mat] → Option (Ress [i64])) (g133 : Args [.v i64, .v i64, .v mat] → Option (Ress [i64])) (F : Nat) (hK : KOK Try.prog (ct62 g132 g133 )) : LSOK Try.prog ⟨93, false, undef⟩ (ls62_8 g132 g133 F) (loopOf Try.f62 8) kr62 :=
  loop_ok (st62_8 g132 g133 F) mixed tt_ok hK (by kernel_rfl) (LTOK_by (l := []) (by kernel_rfl) trivial) (ev62_8 g132 g133 F)
theorem ev62_4 (g132 : Args [.v i64, .v i64, .p mat] → Option (Ress [i64])) (g133 : Args [.v i64, .v i64, .v mat] → Option (Ress [i64])) (F : Nat) (s : ShVal sh62_4) (k kx : ShVal sh62_4 → Option R62) : evL TT (ct62 g132 g133 ) kp62 [(8, ls62_8 g132 g133 F)] (loopOf Try.f62 4) (envOf sh62_4 s) (fitK sh62_4 k) (fun j e => bif Nat.beq j 0 then fitK sh62_4 kx e else none) kr62 = st62_4 g132 g133 F s k kx := by
  obtain ⟨⟨t0, _⟩, ⟨t1, _⟩, ⟨t5, _⟩, _, ⟨t8, _⟩, ⟨t9, _⟩, ⟨t15, _⟩, ⟨t16, _⟩, _⟩ := s
  kernel_rfl
theorem ok62_4 (g132 : Args [.v i64, .v i64, .p mat] → Option (Ress [i64])) (g133 : Args [.v i64, .v i64, .v mat] → Option (Ress [i64])) (F : Nat) (hK : KOK Try.prog (ct62 g132 g133 )) : LSOK Try.prog ⟨93, false, undef⟩ (ls62_4 g132 g133 F) (loopOf Try.f62 4) kr62 :=
  loop_ok (st62_4 g132 g133 F) mixed tt_ok hK (by kernel_rfl) (LTOK_by (l := [loopOf Try.f62 8]) (by kernel_rfl) ⟨ls_at (by kernel_rfl) (ok62_8 g132 g133 F hK), trivial⟩) (ev62_4 g132 g133 F)
theorem ev62_18 (g132 : Args [.v i64, .v i64, .p mat] → Option (Ress [i64])) (g133 : Args [.v i64, .v i64, .v mat] → Option (Ress [i64])) (F : Nat) (s : ShVal sh62_18) (k kx : ShVal sh62_18 → Option R62) : evL TT (ct62 g132 g133 ) kp62 [] (loopOf Try.f62 18) (envOf sh62_18 s) (fitK sh62_18 k) (fun j e => bif Nat.beq j 4 then fitK sh62_18 kx e else none) kr62 = st62_18 g132 g133 F s k kx := by
  obtain ⟨⟨t0, _⟩, ⟨t12, _⟩, ⟨t74, _⟩, ⟨t75, _⟩, _⟩ := s
  kernel_rfl
theorem ok62_18 (g132 : Args [.v i64, .v i64, .p mat] → Option (Ress [i64])) (g133 : Args [.v i64, .v i64, .v mat] → Option (Ress [i64])) (F : Nat) (hK : KOK Try.prog (ct62 g132 g133 )) : LSOK Try.prog ⟨93, false, undef⟩ (ls62_18 g132 g133 F) (loopOf Try.f62 18) kr62 :=
  loop_ok (st62_18 g132 g133 F) mixed tt_ok hK (by kernel_rfl) (LTOK_by (l := []) (by kernel_rfl) trivial) (ev62_18 g132 g133 F)
theorem ev62 (g132 : Args [.v i64, .v i64, .p mat] → Option (Ress [i64])) (g133 : Args [.v i64, .v i64, .v mat] → Option (Ress [i64])) (F : Nat) (x : Args [.v i64, .v i64, .v mat]) : fnK TT (ct62 g132 g133 ) kp62 [(.slice 2 i64)] [(4, ls62_4 g132 g133 F), (18, ls62_18 g132 g133 F)] (bodyOf Try.f62) [.tmp 6] [.v i64, .v i64, .v mat] true true x = fn62 g132 g133 F x := by
  obtain ⟨x0, x1, x2, _⟩ := x
  kernel_rfl
theorem ok62 (g132 : Args [.v i64, .v i64, .p mat] → Option (Ress [i64])) (g133 : Args [.v i64, .v i64, .v mat] → Option (Ress [i64])) (hK : KOK Try.prog (ct62 g132 g133 )) (cf : Args [.v i64, .v i64, .v mat] → Option R62) (h : ∀ x y, cf x = some y → ∃ F, fn62 g132 g133 F x = some y) : KOne Try.prog 62 ⟨[.v i64, .v i64, .v mat], [(.slice 2 i64)], true, true, false, cf⟩ :=
  fn_one rfl (c := bodyOf Try.f62) mixed tt_ok hK Try.func62 (by kernel_rfl) (by kernel_rfl) (Nat.le_of_ble_eq_true (by kernel_rfl)) (by decide) fun x y hxy => by
    obtain ⟨F, hF⟩ := h x y hxy
    exact ⟨[(4, ls62_4 g132 g133 F), (18, ls62_18 g132 g133 F)], LTOK_by (l := [loopOf Try.f62 4, loopOf Try.f62 18]) (by kernel_rfl) ⟨ls_at (by kernel_rfl) (ok62_4 g132 g133 F hK), ⟨ls_at (by kernel_rfl) (ok62_18 g132 g133 F hK), trivial⟩⟩, (ev62 g132 g133 F x).trans hF⟩
abbrev R131 : Type := Ress [.bool]
abbrev kp131 : List (Nat × List Nat) := [(0, [5, 1, 0]), (1, [16, 5, 1, 0]), (2, [6]), (3, [17, 0, 1, 5]), (4, [18, 5, 1, 0, 17]), (5, [5, 7, 1, 0, 17]), (6, [20, 5, 7, 1, 0, 17]), (7, [21, 17, 0, 1, 7, 5, 20]), (8, [8, 17, 0, 1, 7, 5, 20]), (9, [48, 17, 0, 1, 7, 5, 20]), (10, [6]), (11, [20, 5, 7, 1, 0, 17]), (12, [17, 0, 1, 5]), (13, [6])]
abbrev ct131 (g86 : Args [.v i64] → Option (Ress [.bool])) (g87 : Args [.v i64] → Option (Ress [.bool])) (g133 : Args [.v i64, .v i64, .v mat] → Option (Ress [i64])) : CTab := [(86, ⟨[.v i64], [.bool], false, false, false, g86⟩), (87, ⟨[.v i64], [.bool], false, false, false, g87⟩), (133, ⟨[.v i64, .v i64, .v mat], [i64], false, false, false, g133⟩)]
abbrev kr131 : Env → Option R131 := endK TT [.tmp 6] [.bool] false false
abbrev sh131_7 : Shape := [(0, vv i64), (1, vv i64), (5, bb mat), (7, vv i64), (17, vv i64), (20, vv i64)]
def st131_7 (g86 : Args [.v i64] → Option (Ress [.bool])) (g87 : Args [.v i64] → Option (Ress [.bool])) (g133 : Args [.v i64, .v i64, .v mat] → Option (Ress [i64])) (F : Nat) (s : ShVal sh131_7) (k kx : ShVal sh131_7 → Option R131) : Option R131 :=
  match s with
  | ((t0, _), (t1, _), (t5, _), (t7, _), (t17, _), (t20, _), _) => (bif decide (t20 < (3 : Int)) then (bif ib t7 (Int.ofNat 3) then (bif ib t20 (Int.ofNat 3) then (bif decide (t0 ≤ (w6 (tget (0 : Int) 3 (tget (Ty.dflt (.arr 3 (.int .u8))) 3 t5 (tn t7)) (tn t20)))) then (some (false, ())) else (bif decide (t1 ≤ t7) then (bif ib t7 (Int.ofNat 3) then (bif ib t20 (Int.ofNat 3) then (bif (bif false then true else (bif true then (!decide ((tget (0 : Int) 3 (tget (Ty.dflt (.arr 3 (.int .u8))) 3 t5 (tn t7)) (tn t20)) = (0 : Int))) else false)) then (some (false, ())) else k ((t0, ()), ((t1, ()), ((t5, ()), ((t7, ()), ((t17, ()), (((w6 (t20 + (1 : Int))), ()), ()))))))) else none) else none) else (bif (bif false then true else decide (t1 ≤ t20)) then (bif ib t7 (Int.ofNat 3) then (bif ib t20 (Int.ofNat 3) then (bif (bif false then true else (bif true then (!decide ((tget (0 : Int) 3 (tget (Ty.dflt (.arr 3 (.int .u8))) 3 t5 (tn t7)) (tn t20)) = (0 : Int))) else false)) then (some (false, ())) else k ((t0, ()), ((t1, ()), ((t5, ()), ((t7, ()), ((t17, ()), (((w6 (t20 + (1 : Int))), ()), ()))))))) else none) else none) else (bif (bif false then true else false) then (some (false, ())) else k ((t0, ()), ((t1, ()), ((t5, ()), ((t7, ()), ((t17, ()), (((w6 (t20 + (1 : Int))), ()), ())))))))))) else none) else none) else kx ((t0, ()), ((t1, ()), ((t5, ()), ((t7, ()), ((t17, ()), ((t20, ()), ())))))))
def ru131_7 (g86 : Args [.v i64] → Option (Ress [.bool])) (g87 : Args [.v i64] → Option (Ress [.bool])) (g133 : Args [.v i64, .v i64, .v mat] → Option (Ress [i64])) (F : Nat) (s : ShVal sh131_7) (kx : ShVal sh131_7 → Option R131) : Option R131 := iter (fun s k => st131_7 g86 g87 g133 F s k kx) F s
abbrev ls131_7 (g86 : Args [.v i64] → Option (Ress [.bool])) (g87 : Args [.v i64] → Option (Ress [.bool])) (g133 : Args [.v i64, .v i64, .v mat] → Option (Ress [i64])) (F : Nat) : LS R131 := ⟨sh131_7, 2, ru131_7 g86 g87 g133 F⟩
abbrev sh131_4 : Shape := [(0, vv i64), (1, vv i64), (5, bb mat), (17, vv i64)]
def st131_4 (g86 : Args [.v i64] → Option (Ress [.bool])) (g87 : Args [.v i64] → Option (Ress [.bool])) (g133 : Args [.v i64, .v i64, .v mat] → Option (Ress [i64])) (F : Nat) (s : ShVal sh131_4) (k kx : ShVal sh131_4 → Option R131) : Option R131 :=
  match s with
  | ((t0, _), (t1, _), (t5, _), (t17, _), _) => (bif decide (t17 < (3 : Int)) then (ru131_7 g86 g87 g133 F ((t0, ()), ((t1, ()), ((t5, ()), ((t17, ()), ((t17, ()), (((0 : Int), ()), ())))))) (fun s' => match s' with | ((t0, _), (t1, _), (t5, _), (t7, _), (t17, _), (t20, _), _) => k ((t0, ()), ((t1, ()), ((t5, ()), (((w6 (t17 + (1 : Int))), ()), ())))))) else kx ((t0, ()), ((t1, ()), ((t5, ()), ((t17, ()), ())))))
def ru131_4 (g86 : Args [.v i64] → Option (Ress [.bool])) (g87 : Args [.v i64] → Option (Ress [.bool])) (g133 : Args [.v i64, .v i64, .v mat] → Option (Ress [i64])) (F : Nat) (s : ShVal sh131_4) (kx : ShVal sh131_4 → Option R131) : Option R131 := iter (fun s k => st131_4 g86 g87 g133 F s k kx) F s
abbrev ls131_4 (g86 : Args [.v i64] → Option (Ress [.bool])) (g87 : Args [.v i64] → Option (Ress [.bool])) (g133 : Args [.v i64, .v i64, .v mat] → Option (Ress [i64])) (F : Nat) : LS R131 := ⟨sh131_4, 0, ru131_4 g86 g87 g133 F⟩
def fn131 (g86 : Args [.v i64] → Option (Ress [.bool])) (g87 : Args [.v i64] → Option (Ress [.bool])) (g133 : Args [.v i64, .v i64, .v mat] → Option (Ress [i64])) (F : Nat) (x : Args [.v i64, .v i64, .v mat]) : Option R131 :=
  match x with
  | (x0, x1, x2, _) => (match (g86 (x0, ())) with | some r8 => (bif (!r8.1) then (some (false, ())) else (match (g87 (x1, ())) with | some r9 => (bif (bif false then true else (!r9.1)) then (some (false, ())) else (ru131_4 g86 g87 g133 F ((x0, ()), ((x1, ()), ((x2, ()), (((0 : Int), ()), ())))) (fun s' => match s' with | ((t0, _), (t1, _), (t5, _), (t17, _), _) => (match (g133 (t0, (t1, (t5, ())))) with | some r16 => (some ((!decide (r16.1 = (0 : Int))), ())) | none => none)))) | none => none)) | none => none)
theorem ev131_7 (g86 : Args [.v i64] → Option (Ress [.bool])) (g87 : Args [.v i64] → Option (Ress [.bool])) (g133 : Args [.v i64, .v i64, .v mat] → Option (Ress [i64])) (F : Nat) (s : ShVal sh131_7) (k kx : ShVal sh131_7 → Option R131) : evL TT (ct131 g86 g87 g133 ) kp131 [] (loopOf Try.f131 7) (envOf sh131_7 s) (fitK sh131_7 k) (fun j e => bif Nat.beq j 2 then fitK sh131_7 kx e else none) kr131 = st131_7 g86 g87 g133 F s k kx := by
  obtain ⟨⟨t0, _⟩, ⟨t1, _⟩, ⟨t5, _⟩, ⟨t7, _⟩, ⟨t17, _⟩, ⟨t20, _⟩, _⟩ := s
  kernel_rfl
theorem ok131_7 (g86 : Args [.v i64] → Option (Ress [.bool])) (g87 : Args [.v i64] → Option (Ress [.bool])) (g133 : Args [.v i64, .v i64, .v mat] → Option (Ress [i64])) (F : Nat) (hK : KOK Try.prog (ct131 g86 g87 g133 )) : LSOK Try.prog ⟨56, false, undef⟩ (ls131_7 g86 g87 g133 F) (loopOf Try.f131 7) kr131 :=
  loop_ok (st131_7 g86 g87 g133 F) mixed tt_ok hK (by kernel_rfl) (LTOK_by (l := []) (by kernel_rfl) trivial) (ev131_7 g86 g87 g133 F)
theorem ev131_4 (g86 : Args [.v i64] → Option (Ress [.bool])) (g87 : Args [.v i64] → Option (Ress [.bool])) (g133 : Args [.v i64, .v i64, .v mat] → Option (Ress [i64])) (F : Nat) (s : ShVal sh131_4) (k kx : ShVal sh131_4 → Option R131) : evL TT (ct131 g86 g87 g133 ) kp131 [(7, ls131_7 g86 g87 g133 F)] (loopOf Try.f131 4) (envOf sh131_4 s) (fitK sh131_4 k) (fun j e => bif Nat.beq j 0 then fitK sh131_4 kx e else none) kr131 = st131_4 g86 g87 g133 F s k kx := by
  obtain ⟨⟨t0, _⟩, ⟨t1, _⟩, ⟨t5, _⟩, ⟨t17, _⟩, _⟩ := s
  kernel_rfl
theorem ok131_4 (g86 : Args [.v i64] → Option (Ress [.bool])) (g87 : Args [.v i64] → Option (Ress [.bool])) (g133 : Args [.v i64, .v i64, .v mat] → Option (Ress [i64])) (F : Nat) (hK : KOK Try.prog (ct131 g86 g87 g133 )) : LSOK Try.prog ⟨56, false, undef⟩ (ls131_4 g86 g87 g133 F) (loopOf Try.f131 4) kr131 :=
  loop_ok (st131_4 g86 g87 g133 F) mixed tt_ok hK (by kernel_rfl) (LTOK_by (l := [loopOf Try.f131 7]) (by kernel_rfl) ⟨ls_at (by kernel_rfl) (ok131_7 g86 g87 g133 F hK), trivial⟩) (ev131_4 g86 g87 g133 F)
theorem ev131 (g86 : Args [.v i64] → Option (Ress [.bool])) (g87 : Args [.v i64] → Option (Ress [.bool])) (g133 : Args [.v i64, .v i64, .v mat] → Option (Ress [i64])) (F : Nat) (x : Args [.v i64, .v i64, .v mat]) : fnK TT (ct131 g86 g87 g133 ) kp131 [.bool] [(4, ls131_4 g86 g87 g133 F)] (bodyOf Try.f131) [.tmp 6] [.v i64, .v i64, .v mat] false false x = fn131 g86 g87 g133 F x := by
  obtain ⟨x0, x1, x2, _⟩ := x
  kernel_rfl
theorem ok131 (g86 : Args [.v i64] → Option (Ress [.bool])) (g87 : Args [.v i64] → Option (Ress [.bool])) (g133 : Args [.v i64, .v i64, .v mat] → Option (Ress [i64])) (hK : KOK Try.prog (ct131 g86 g87 g133 )) (cf : Args [.v i64, .v i64, .v mat] → Option R131) (h : ∀ x y, cf x = some y → ∃ F, fn131 g86 g87 g133 F x = some y) : KOne Try.prog 131 ⟨[.v i64, .v i64, .v mat], [.bool], false, false, false, cf⟩ :=
  fn_one rfl (c := bodyOf Try.f131) mixed tt_ok hK Try.func131 (by kernel_rfl) (by kernel_rfl) (Nat.le_of_ble_eq_true (by kernel_rfl)) (by decide) fun x y hxy => by
    obtain ⟨F, hF⟩ := h x y hxy
    exact ⟨[(4, ls131_4 g86 g87 g133 F)], LTOK_by (l := [loopOf Try.f131 4]) (by kernel_rfl) ⟨ls_at (by kernel_rfl) (ok131_4 g86 g87 g133 F hK), trivial⟩, (ev131 g86 g87 g133 F x).trans hF⟩
abbrev R152 : Type := Ress [(.slice 2 i64)]
abbrev kp152 : List (Nat × List Nat) := [(0, [2, 1, 0]), (1, [1, 7, 0]), (2, [8, 1, 7, 0]), (3, [15, 7, 8, 1, 0]), (5, [7, 9, 8, 1, 0]), (6, [27, 7, 9, 8, 1, 0]), (7, [8, 1, 7, 0]), (4, [8, 1, 7, 0]), (8, [6])]
abbrev ct152 (g155 : Args [.v (.slice 2 i64)] → Option (Ress [(.slice 2 i64)])) (g154 : Args [.v i64, .v (.slice 2 i64), .v (.slice 2 i64), .v i64] → Option (Ress [(.slice 2 i64)])) (g153 : Args [.v (.slice 2 i64)] → Option (Ress [i64])) : CTab := [(155, ⟨[.v (.slice 2 i64)], [(.slice 2 i64)], true, false, false, g155⟩), (154, ⟨[.v i64, .v (.slice 2 i64), .v (.slice 2 i64), .v i64], [(.slice 2 i64)], true, false, false, g154⟩), (153, ⟨[.v (.slice 2 i64)], [i64], false, false, false, g153⟩)]
abbrev kr152 : Env → Option R152 := endK TT [.tmp 6] [(.slice 2 i64)] true false
abbrev sh152_3 : Shape := [(0, vv i64), (1, vv (.slice 24 (.slice 2 i64))), (7, vr 2 i64 113 false), (8, vv i64)]
def st152_3 (g155 : Args [.v (.slice 2 i64)] → Option (Ress [(.slice 2 i64)])) (g154 : Args [.v i64, .v (.slice 2 i64), .v (.slice 2 i64), .v i64] → Option (Ress [(.slice 2 i64)])) (g153 : Args [.v (.slice 2 i64)] → Option (Ress [i64])) (F : Nat) (s : ShVal sh152_3) (k kx : ShVal sh152_3 → Option R152) : Option R152 :=
  match s with
  | ((t0, _), (t1, _), (t7, _), (t8, _), _) => (bif decide ((List.length t1) ≤ 9223372036854775807) then (bif decide (t8 < (Int.ofNat (List.length t1))) then (bif ib t8 (Int.ofNat (List.length t1)) then (match (g153 ((List.getD t1 (tn t8) []), ())) with | some r16 => (bif ib r16.1 (Int.ofNat (List.length t7)) then (bif (!decide ((List.getD t7 (tn r16.1) (0 : Int)) = (0 : Int))) then (bif ib t8 (Int.ofNat (List.length t1)) then (match (g154 (t0, (t7, ((List.getD t1 (tn t8) []), ((List.getD t7 (tn r16.1) (0 : Int)), ()))))) with | some r19 => k ((t0, ()), ((t1, ()), ((r19.1, ()), (((w6 (t8 + (1 : Int))), ()), ())))) | none => none) else none) else k ((t0, ()), ((t1, ()), ((t7, ()), (((w6 (t8 + (1 : Int))), ()), ()))))) else none) | none => none) else none) else kx ((t0, ()), ((t1, ()), ((t7, ()), ((t8, ()), ()))))) else none)
def ru152_3 (g155 : Args [.v (.slice 2 i64)] → Option (Ress [(.slice 2 i64)])) (g154 : Args [.v i64, .v (.slice 2 i64), .v (.slice 2 i64), .v i64] → Option (Ress [(.slice 2 i64)])) (g153 : Args [.v (.slice 2 i64)] → Option (Ress [i64])) (F : Nat) (s : ShVal sh152_3) (kx : ShVal sh152_3 → Option R152) : Option R152 := iter (fun s k => st152_3 g155 g154 g153 F s k kx) F s
abbrev ls152_3 (g155 : Args [.v (.slice 2 i64)] → Option (Ress [(.slice 2 i64)])) (g154 : Args [.v i64, .v (.slice 2 i64), .v (.slice 2 i64), .v i64] → Option (Ress [(.slice 2 i64)])) (g153 : Args [.v (.slice 2 i64)] → Option (Ress [i64])) (F : Nat) : LS R152 := ⟨sh152_3, 0, ru152_3 g155 g154 g153 F⟩
def fn152 (g155 : Args [.v (.slice 2 i64)] → Option (Ress [(.slice 2 i64)])) (g154 : Args [.v i64, .v (.slice 2 i64), .v (.slice 2 i64), .v i64] → Option (Ress [(.slice 2 i64)])) (g153 : Args [.v (.slice 2 i64)] → Option (Ress [i64])) (F : Nat) (x : Args [.v i64, .v (.slice 24 (.slice 2 i64)), .v (.slice 2 i64)]) : Option R152 :=
  match x with
  | (x0, x1, x2, _) => (match (g155 (x2, ())) with | some r8 => (ru152_3 g155 g154 g153 F ((x0, ()), ((x1, ()), ((r8.1, ()), (((0 : Int), ()), ())))) (fun s' => match s' with | ((t0, _), (t1, _), (t7, _), (t8, _), _) => (some (t7, ())))) | none => none)
theorem ev152_3 (g155 : Args [.v (.slice 2 i64)] → Option (Ress [(.slice 2 i64)])) (g154 : Args [.v i64, .v (.slice 2 i64), .v (.slice 2 i64), .v i64] → Option (Ress [(.slice 2 i64)])) (g153 : Args [.v (.slice 2 i64)] → Option (Ress [i64])) (F : Nat) (s : ShVal sh152_3) (k kx : ShVal sh152_3 → Option R152) : evL TT (ct152 g155 g154 g153 ) kp152 [] (loopOf Try.f152 3) (envOf sh152_3 s) (fitK sh152_3 k) (fun j e => bif Nat.beq j 0 then fitK sh152_3 kx e else none) kr152 = st152_3 g155 g154 g153 F s k kx := by
  obtain ⟨⟨t0, _⟩, ⟨t1, _⟩, ⟨t7, _⟩, ⟨t8, _⟩, _⟩ := s
  kernel_rfl
theorem ok152_3 (g155 : Args [.v (.slice 2 i64)] → Option (Ress [(.slice 2 i64)])) (g154 : Args [.v i64, .v (.slice 2 i64), .v (.slice 2 i64), .v i64] → Option (Ress [(.slice 2 i64)])) (g153 : Args [.v (.slice 2 i64)] → Option (Ress [i64])) (F : Nat) (hK : KOK Try.prog (ct152 g155 g154 g153 )) : LSOK Try.prog ⟨37, false, undef⟩ (ls152_3 g155 g154 g153 F) (loopOf Try.f152 3) kr152 :=
  loop_ok (st152_3 g155 g154 g153 F) mixed tt_ok hK (by kernel_rfl) (LTOK_by (l := []) (by kernel_rfl) trivial) (ev152_3 g155 g154 g153 F)
theorem ev152 (g155 : Args [.v (.slice 2 i64)] → Option (Ress [(.slice 2 i64)])) (g154 : Args [.v i64, .v (.slice 2 i64), .v (.slice 2 i64), .v i64] → Option (Ress [(.slice 2 i64)])) (g153 : Args [.v (.slice 2 i64)] → Option (Ress [i64])) (F : Nat) (x : Args [.v i64, .v (.slice 24 (.slice 2 i64)), .v (.slice 2 i64)]) : fnK TT (ct152 g155 g154 g153 ) kp152 [(.slice 2 i64)] [(3, ls152_3 g155 g154 g153 F)] (bodyOf Try.f152) [.tmp 6] [.v i64, .v (.slice 24 (.slice 2 i64)), .v (.slice 2 i64)] true false x = fn152 g155 g154 g153 F x := by
  obtain ⟨x0, x1, x2, _⟩ := x
  kernel_rfl
theorem ok152 (g155 : Args [.v (.slice 2 i64)] → Option (Ress [(.slice 2 i64)])) (g154 : Args [.v i64, .v (.slice 2 i64), .v (.slice 2 i64), .v i64] → Option (Ress [(.slice 2 i64)])) (g153 : Args [.v (.slice 2 i64)] → Option (Ress [i64])) (hK : KOK Try.prog (ct152 g155 g154 g153 )) (cf : Args [.v i64, .v (.slice 24 (.slice 2 i64)), .v (.slice 2 i64)] → Option R152) (h : ∀ x y, cf x = some y → ∃ F, fn152 g155 g154 g153 F x = some y) : KOne Try.prog 152 ⟨[.v i64, .v (.slice 24 (.slice 2 i64)), .v (.slice 2 i64)], [(.slice 2 i64)], true, false, false, cf⟩ :=
  fn_one rfl (c := bodyOf Try.f152) mixed tt_ok hK Try.func152 (by kernel_rfl) (by kernel_rfl) (Nat.le_of_ble_eq_true (by kernel_rfl)) (by decide) fun x y hxy => by
    obtain ⟨F, hF⟩ := h x y hxy
    exact ⟨[(3, ls152_3 g155 g154 g153 F)], LTOK_by (l := [loopOf Try.f152 3]) (by kernel_rfl) ⟨ls_at (by kernel_rfl) (ok152_3 g155 g154 g153 F hK), trivial⟩, (ev152 g155 g154 g153 F x).trans hF⟩
abbrev R61 : Type := Ress [.bool]
abbrev kp61 : List (Nat × List Nat) := [(0, [2, 1, 0]), (1, [11, 1, 0, 9, 10]), (2, [12, 10, 9, 0, 1, 11]), (3, [8, 10, 9, 0, 1, 11]), (4, [19, 10, 9, 0, 1, 11]), (5, [6]), (6, [11, 1, 0, 9, 10]), (7, [6])]
abbrev ct61 (g131 : Args [.v i64, .v i64, .v mat] → Option (Ress [.bool])) (g87 : Args [.v i64] → Option (Ress [.bool])) (g86 : Args [.v i64] → Option (Ress [.bool])) : CTab := [(131, ⟨[.v i64, .v i64, .v mat], [.bool], false, false, false, g131⟩), (87, ⟨[.v i64], [.bool], false, false, false, g87⟩), (86, ⟨[.v i64], [.bool], false, false, false, g86⟩)]
abbrev kr61 : Env → Option R61 := endK TT [.tmp 6] [.bool] false false
abbrev sh61_2 : Shape := [(0, vv i64), (1, vv i64), (9, vv (.slice 27 mat)), (10, vv i64), (11, vv i64)]
def st61_2 (g131 : Args [.v i64, .v i64, .v mat] → Option (Ress [.bool])) (g87 : Args [.v i64] → Option (Ress [.bool])) (g86 : Args [.v i64] → Option (Ress [.bool])) (F : Nat) (s : ShVal sh61_2) (k kx : ShVal sh61_2 → Option R61) : Option R61 :=
  match s with
  | ((t0, _), (t1, _), (t9, _), (t10, _), (t11, _), _) => (bif decide (t11 < t10) then (bif ib t11 (Int.ofNat (List.length t9)) then (match (g131 (t0, (t1, ((List.getD t9 (tn t11) (Ty.dflt (.arr 3 (.arr 3 (.int .u8))))), ())))) with | some r16 => (bif (!r16.1) then (some (false, ())) else k ((t0, ()), ((t1, ()), ((t9, ()), ((t10, ()), (((w6 (t11 + (1 : Int))), ()), ())))))) | none => none) else none) else kx ((t0, ()), ((t1, ()), ((t9, ()), ((t10, ()), ((t11, ()), ()))))))
def ru61_2 (g131 : Args [.v i64, .v i64, .v mat] → Option (Ress [.bool])) (g87 : Args [.v i64] → Option (Ress [.bool])) (g86 : Args [.v i64] → Option (Ress [.bool])) (F : Nat) (s : ShVal sh61_2) (kx : ShVal sh61_2 → Option R61) : Option R61 := iter (fun s k => st61_2 g131 g87 g86 F s k kx) F s
abbrev ls61_2 (g131 : Args [.v i64, .v i64, .v mat] → Option (Ress [.bool])) (g87 : Args [.v i64] → Option (Ress [.bool])) (g86 : Args [.v i64] → Option (Ress [.bool])) (F : Nat) : LS R61 := ⟨sh61_2, 0, ru61_2 g131 g87 g86 F⟩
def fn61 (g131 : Args [.v i64, .v i64, .v mat] → Option (Ress [.bool])) (g87 : Args [.v i64] → Option (Ress [.bool])) (g86 : Args [.v i64] → Option (Ress [.bool])) (F : Nat) (x : Args [.v i64, .v i64, .v (.slice 27 mat)]) : Option R61 :=
  match x with
  | (x0, x1, x2, _) => (bif decide ((List.length x2) ≤ 9223372036854775807) then (ru61_2 g131 g87 g86 F ((x0, ()), ((x1, ()), ((x2, ()), (((Int.ofNat (List.length x2)), ()), (((0 : Int), ()), ()))))) (fun s' => match s' with | ((t0, _), (t1, _), (t9, _), (t10, _), (t11, _), _) => (match (g86 (t0, ())) with | some r14 => (bif r14.1 then (match (g87 (t1, ())) with | some r15 => (some ((bif true then r15.1 else false), ())) | none => none) else (some (false, ()))) | none => none))) else none)
theorem ev61_2 (g131 : Args [.v i64, .v i64, .v mat] → Option (Ress [.bool])) (g87 : Args [.v i64] → Option (Ress [.bool])) (g86 : Args [.v i64] → Option (Ress [.bool])) (F : Nat) (s : ShVal sh61_2) (k kx : ShVal sh61_2 → Option R61) : evL TT (ct61 g131 g87 g86 ) kp61 [] (loopOf Try.f61 2) (envOf sh61_2 s) (fitK sh61_2 k) (fun j e => bif Nat.beq j 0 then fitK sh61_2 kx e else none) kr61 = st61_2 g131 g87 g86 F s k kx := by
  obtain ⟨⟨t0, _⟩, ⟨t1, _⟩, ⟨t9, _⟩, ⟨t10, _⟩, ⟨t11, _⟩, _⟩ := s
  kernel_rfl
theorem ok61_2 (g131 : Args [.v i64, .v i64, .v mat] → Option (Ress [.bool])) (g87 : Args [.v i64] → Option (Ress [.bool])) (g86 : Args [.v i64] → Option (Ress [.bool])) (F : Nat) (hK : KOK Try.prog (ct61 g131 g87 g86 )) : LSOK Try.prog ⟨27, false, undef⟩ (ls61_2 g131 g87 g86 F) (loopOf Try.f61 2) kr61 :=
  loop_ok (st61_2 g131 g87 g86 F) mixed tt_ok hK (by kernel_rfl) (LTOK_by (l := []) (by kernel_rfl) trivial) (ev61_2 g131 g87 g86 F)
theorem ev61 (g131 : Args [.v i64, .v i64, .v mat] → Option (Ress [.bool])) (g87 : Args [.v i64] → Option (Ress [.bool])) (g86 : Args [.v i64] → Option (Ress [.bool])) (F : Nat) (x : Args [.v i64, .v i64, .v (.slice 27 mat)]) : fnK TT (ct61 g131 g87 g86 ) kp61 [.bool] [(2, ls61_2 g131 g87 g86 F)] (bodyOf Try.f61) [.tmp 6] [.v i64, .v i64, .v (.slice 27 mat)] false false x = fn61 g131 g87 g86 F x := by
  obtain ⟨x0, x1, x2, _⟩ := x
  kernel_rfl
theorem ok61 (g131 : Args [.v i64, .v i64, .v mat] → Option (Ress [.bool])) (g87 : Args [.v i64] → Option (Ress [.bool])) (g86 : Args [.v i64] → Option (Ress [.bool])) (hK : KOK Try.prog (ct61 g131 g87 g86 )) (cf : Args [.v i64, .v i64, .v (.slice 27 mat)] → Option R61) (h : ∀ x y, cf x = some y → ∃ F, fn61 g131 g87 g86 F x = some y) : KOne Try.prog 61 ⟨[.v i64, .v i64, .v (.slice 27 mat)], [.bool], false, false, false, cf⟩ :=
  fn_one rfl (c := bodyOf Try.f61) mixed tt_ok hK Try.func61 (by kernel_rfl) (by kernel_rfl) (Nat.le_of_ble_eq_true (by kernel_rfl)) (by decide) fun x y hxy => by
    obtain ⟨F, hF⟩ := h x y hxy
    exact ⟨[(2, ls61_2 g131 g87 g86 F)], LTOK_by (l := [loopOf Try.f61 2]) (by kernel_rfl) ⟨ls_at (by kernel_rfl) (ok61_2 g131 g87 g86 F hK), trivial⟩, (ev61 g131 g87 g86 F x).trans hF⟩
abbrev R108 : Type := Ress [(.slice 24 (.slice 2 i64))]
abbrev kp108 : List (Nat × List Nat) := [(0, [0, 1]), (1, [0, 5, 1]), (2, [6, 0, 5, 1]), (3, [18, 6, 0, 5, 1]), (5, [7, 6, 0, 5, 1]), (6, [8, 7, 6, 0, 5, 1]), (7, [31, 8, 7, 6, 0, 5, 1]), (8, [0, 9, 7, 8, 5, 6, 1]), (9, [10, 0, 9, 7, 8, 5, 6, 1]), (10, [41, 10, 0, 9, 7, 8, 5, 6, 1]), (12, [10, 0, 9, 7, 8, 5, 6, 1]), (11, [10, 0, 9, 7, 8, 5, 6, 1]), (13, [8, 5, 7, 0, 11, 12, 6, 1]), (14, [13, 8, 5, 7, 0, 11, 12, 6, 1]), (15, [59, 12, 11, 13, 8, 5, 7, 0, 6, 1]), (17, [72, 12, 11, 13, 8, 5, 7, 0, 6, 1]), (18, [11, 13, 8, 5, 7, 0, 6, 1]), (19, [11, 13, 8, 5, 7, 0, 12, 6, 1]), (20, [13, 8, 5, 7, 0, 11, 12, 6, 1]), (16, [13, 8, 5, 7, 0, 11, 12, 6, 1]), (21, [95, 11, 7, 6, 0, 1]), (22, [11, 6, 0, 1]), (23, [6, 0, 5, 1]), (4, [6, 0, 5, 1]), (24, [4])]
abbrev ct108 (g153 : Args [.v (.slice 2 i64)] → Option (Ress [i64])) (g75 : Args [.v i64, .v i64] → Option (Ress [i64])) (g154 : Args [.v i64, .v (.slice 2 i64), .v (.slice 2 i64), .v i64] → Option (Ress [(.slice 2 i64)])) (g152 : Args [.v i64, .v (.slice 24 (.slice 2 i64)), .v (.slice 2 i64)] → Option (Ress [(.slice 2 i64)])) : CTab := [(153, ⟨[.v (.slice 2 i64)], [i64], false, false, false, g153⟩), (75, ⟨[.v i64, .v i64], [i64], false, false, false, g75⟩), (154, ⟨[.v i64, .v (.slice 2 i64), .v (.slice 2 i64), .v i64], [(.slice 2 i64)], true, false, false, g154⟩), (152, ⟨[.v i64, .v (.slice 24 (.slice 2 i64)), .v (.slice 2 i64)], [(.slice 2 i64)], true, false, false, g152⟩)]
abbrev kr108 : Env → Option R108 := endK TT [.tmp 4] [(.slice 24 (.slice 2 i64))] false false
abbrev sh108_10 : Shape := [(0, vv i64), (1, vv (.slice 24 (.slice 2 i64))), (5, .val false [.rt 24 (.slice 2 i64) 81 false false false]), (6, vv i64), (7, vr 2 i64 113 false), (8, vv i64), (9, vv i64), (10, vv i64)]
def st108_10 (g153 : Args [.v (.slice 2 i64)] → Option (Ress [i64])) (g75 : Args [.v i64, .v i64] → Option (Ress [i64])) (g154 : Args [.v i64, .v (.slice 2 i64), .v (.slice 2 i64), .v i64] → Option (Ress [(.slice 2 i64)])) (g152 : Args [.v i64, .v (.slice 24 (.slice 2 i64)), .v (.slice 2 i64)] → Option (Ress [(.slice 2 i64)])) (F : Nat) (s : ShVal sh108_10) (k kx : ShVal sh108_10 → Option R108) : Option R108 :=
  match s with
  | ((t0, _), (t1, _), (t5, _), (t6, _), (t7, _), (t8, _), (t9, _), (t10, _), _) => (bif decide ((List.length t7) ≤ 9223372036854775807) then (bif decide (t10 < (Int.ofNat (List.length t7))) then (bif ib t10 (Int.ofNat (List.length t7)) then (bif (!decide (t0 = (0 : Int))) then (bif ib t10 (Int.ofNat (List.length t7)) then k ((t0, ()), ((t1, ()), ((t5, ()), ((t6, ()), (((List.set t7 (tn t10) (Int.tmod (w6 ((List.getD t7 (tn t10) (0 : Int)) * t9)) t0)), ()), ((t8, ()), ((t9, ()), (((w6 (t10 + (1 : Int))), ()), ())))))))) else none) else none) else none) else kx ((t0, ()), ((t1, ()), ((t5, ()), ((t6, ()), ((t7, ()), ((t8, ()), ((t9, ()), ((t10, ()), ()))))))))) else none)
def ru108_10 (g153 : Args [.v (.slice 2 i64)] → Option (Ress [i64])) (g75 : Args [.v i64, .v i64] → Option (Ress [i64])) (g154 : Args [.v i64, .v (.slice 2 i64), .v (.slice 2 i64), .v i64] → Option (Ress [(.slice 2 i64)])) (g152 : Args [.v i64, .v (.slice 24 (.slice 2 i64)), .v (.slice 2 i64)] → Option (Ress [(.slice 2 i64)])) (F : Nat) (s : ShVal sh108_10) (kx : ShVal sh108_10 → Option R108) : Option R108 := iter (fun s k => st108_10 g153 g75 g154 g152 F s k kx) F s
abbrev ls108_10 (g153 : Args [.v (.slice 2 i64)] → Option (Ress [i64])) (g75 : Args [.v i64, .v i64] → Option (Ress [i64])) (g154 : Args [.v i64, .v (.slice 2 i64), .v (.slice 2 i64), .v i64] → Option (Ress [(.slice 2 i64)])) (g152 : Args [.v i64, .v (.slice 24 (.slice 2 i64)), .v (.slice 2 i64)] → Option (Ress [(.slice 2 i64)])) (F : Nat) : LS R108 := ⟨sh108_10, 2, ru108_10 g153 g75 g154 g152 F⟩
abbrev sh108_15 : Shape := [(0, vv i64), (1, vv (.slice 24 (.slice 2 i64))), (5, .val false [.rt 24 (.slice 2 i64) 81 false false false]), (6, vv i64), (7, vv (.slice 2 i64)), (8, vv i64), (11, .val false [.rt 24 (.slice 2 i64) 177 false false false]), (12, vv .bool), (13, vv i64)]
def st108_15 (g153 : Args [.v (.slice 2 i64)] → Option (Ress [i64])) (g75 : Args [.v i64, .v i64] → Option (Ress [i64])) (g154 : Args [.v i64, .v (.slice 2 i64), .v (.slice 2 i64), .v i64] → Option (Ress [(.slice 2 i64)])) (g152 : Args [.v i64, .v (.slice 24 (.slice 2 i64)), .v (.slice 2 i64)] → Option (Ress [(.slice 2 i64)])) (F : Nat) (s : ShVal sh108_15) (k kx : ShVal sh108_15 → Option R108) : Option R108 :=
  match s with
  | ((t0, _), (t1, _), (t5, _), (t6, _), (t7, _), (t8, _), (t11, _), (t12, _), (t13, _), _) => (bif decide ((List.length t5) ≤ 9223372036854775807) then (bif decide (t13 < (Int.ofNat (List.length t5))) then (bif (!t12) then (bif ib t13 (Int.ofNat (List.length t5)) then (match (g153 ((List.getD t5 (tn t13) []), ())) with | some r43 => (bif (bif true then decide (t8 < r43.1) else false) then (bif (growOk (List.length t11) (List.length (t7 :: []))) then (bif ib t13 (Int.ofNat (List.length t5)) then (bif ib t13 (Int.ofNat (List.length t5)) then (bif ib t8 (Int.ofNat (List.length (List.getD t5 (tn t13) []))) then (match (g154 (t0, ((List.getD t5 (tn t13) []), (t7, ((List.getD (List.getD t5 (tn t13) []) (tn t8) (0 : Int)), ()))))) with | some r47 => (bif (growOk (List.length (t11 ++ (t7 :: []))) (List.length (r47.1 :: []))) then k ((t0, ()), ((t1, ()), ((t5, ()), ((t6, ()), ((t7, ()), ((t8, ()), ((((t11 ++ (t7 :: [])) ++ (r47.1 :: [])), ()), ((true, ()), (((w6 (t13 + (1 : Int))), ()), ()))))))))) else none) | none => none) else none) else none) else none) else none) else (bif ib t13 (Int.ofNat (List.length t5)) then (bif ib t13 (Int.ofNat (List.length t5)) then (bif ib t8 (Int.ofNat (List.length (List.getD t5 (tn t13) []))) then (match (g154 (t0, ((List.getD t5 (tn t13) []), (t7, ((List.getD (List.getD t5 (tn t13) []) (tn t8) (0 : Int)), ()))))) with | some r45 => (bif (growOk (List.length t11) (List.length (r45.1 :: []))) then k ((t0, ()), ((t1, ()), ((t5, ()), ((t6, ()), ((t7, ()), ((t8, ()), (((t11 ++ (r45.1 :: [])), ()), ((t12, ()), (((w6 (t13 + (1 : Int))), ()), ()))))))))) else none) | none => none) else none) else none) else none)) | none => none) else none) else (bif ib t13 (Int.ofNat (List.length t5)) then (bif ib t13 (Int.ofNat (List.length t5)) then (bif ib t8 (Int.ofNat (List.length (List.getD t5 (tn t13) []))) then (match (g154 (t0, ((List.getD t5 (tn t13) []), (t7, ((List.getD (List.getD t5 (tn t13) []) (tn t8) (0 : Int)), ()))))) with | some r44 => (bif (growOk (List.length t11) (List.length (r44.1 :: []))) then k ((t0, ()), ((t1, ()), ((t5, ()), ((t6, ()), ((t7, ()), ((t8, ()), (((t11 ++ (r44.1 :: [])), ()), ((t12, ()), (((w6 (t13 + (1 : Int))), ()), ()))))))))) else none) | none => none) else none) else none) else none)) else kx ((t0, ()), ((t1, ()), ((t5, ()), ((t6, ()), ((t7, ()), ((t8, ()), ((t11, ()), ((t12, ()), ((t13, ()), ())))))))))) else none)
def ru108_15 (g153 : Args [.v (.slice 2 i64)] → Option (Ress [i64])) (g75 : Args [.v i64, .v i64] → Option (Ress [i64])) (g154 : Args [.v i64, .v (.slice 2 i64), .v (.slice 2 i64), .v i64] → Option (Ress [(.slice 2 i64)])) (g152 : Args [.v i64, .v (.slice 24 (.slice 2 i64)), .v (.slice 2 i64)] → Option (Ress [(.slice 2 i64)])) (F : Nat) (s : ShVal sh108_15) (kx : ShVal sh108_15 → Option R108) : Option R108 := iter (fun s k => st108_15 g153 g75 g154 g152 F s k kx) F s
abbrev ls108_15 (g153 : Args [.v (.slice 2 i64)] → Option (Ress [i64])) (g75 : Args [.v i64, .v i64] → Option (Ress [i64])) (g154 : Args [.v i64, .v (.slice 2 i64), .v (.slice 2 i64), .v i64] → Option (Ress [(.slice 2 i64)])) (g152 : Args [.v i64, .v (.slice 24 (.slice 2 i64)), .v (.slice 2 i64)] → Option (Ress [(.slice 2 i64)])) (F : Nat) : LS R108 := ⟨sh108_15, 4, ru108_15 g153 g75 g154 g152 F⟩
abbrev sh108_3 : Shape := [(0, vv i64), (1, vv (.slice 24 (.slice 2 i64))), (5, .val false [.rt 24 (.slice 2 i64) 81 false false false]), (6, vv i64)]
def st108_3 (g153 : Args [.v (.slice 2 i64)] → Option (Ress [i64])) (g75 : Args [.v i64, .v i64] → Option (Ress [i64])) (g154 : Args [.v i64, .v (.slice 2 i64), .v (.slice 2 i64), .v i64] → Option (Ress [(.slice 2 i64)])) (g152 : Args [.v i64, .v (.slice 24 (.slice 2 i64)), .v (.slice 2 i64)] → Option (Ress [(.slice 2 i64)])) (F : Nat) (s : ShVal sh108_3) (k kx : ShVal sh108_3 → Option R108) : Option R108 :=
  match s with
  | ((t0, _), (t1, _), (t5, _), (t6, _), _) => (bif decide ((List.length t1) ≤ 9223372036854775807) then (bif decide (t6 < (Int.ofNat (List.length t1))) then (bif ib t6 (Int.ofNat (List.length t1)) then (match (g152 (t0, (t5, ((List.getD t1 (tn t6) []), ())))) with | some r15 => (match (g153 (r15.1, ())) with | some r17 => (bif decide (r17.1 < (0 : Int)) then k ((t0, ()), ((t1, ()), ((t5, ()), (((w6 (t6 + (1 : Int))), ()), ())))) else (bif ib r17.1 (Int.ofNat (List.length r15.1)) then (match (g75 (t0, ((List.getD r15.1 (tn r17.1) (0 : Int)), ()))) with | some r20 => (ru108_10 g153 g75 g154 g152 F ((t0, ()), ((t1, ()), ((t5, ()), ((t6, ()), ((r15.1, ()), ((r17.1, ()), ((r20.1, ()), (((0 : Int), ()), ())))))))) (fun s' => match s' with | ((t0, _), (t1, _), (t5, _), (t6, _), (t7, _), (t8, _), (t9, _), (t10, _), _) => (ru108_15 g153 g75 g154 g152 F ((t0, ()), ((t1, ()), ((t5, ()), ((t6, ()), ((t7, ()), ((t8, ()), (([], ()), ((false, ()), (((0 : Int), ()), ()))))))))) (fun s' => match s' with | ((t0, _), (t1, _), (t5, _), (t6, _), (t7, _), (t8, _), (t11, _), (t12, _), (t13, _), _) => (bif (!t12) then (bif (growOk (List.length t11) (List.length (t7 :: []))) then k ((t0, ()), ((t1, ()), (((t11 ++ (t7 :: [])), ()), (((w6 (t6 + (1 : Int))), ()), ())))) else none) else k ((t0, ()), ((t1, ()), ((t11, ()), (((w6 (t6 + (1 : Int))), ()), ()))))))))) | none => none) else none)) | none => none) | none => none) else none) else kx ((t0, ()), ((t1, ()), ((t5, ()), ((t6, ()), ()))))) else none)
def ru108_3 (g153 : Args [.v (.slice 2 i64)] → Option (Ress [i64])) (g75 : Args [.v i64, .v i64] → Option (Ress [i64])) (g154 : Args [.v i64, .v (.slice 2 i64), .v (.slice 2 i64), .v i64] → Option (Ress [(.slice 2 i64)])) (g152 : Args [.v i64, .v (.slice 24 (.slice 2 i64)), .v (.slice 2 i64)] → Option (Ress [(.slice 2 i64)])) (F : Nat) (s : ShVal sh108_3) (kx : ShVal sh108_3 → Option R108) : Option R108 := iter (fun s k => st108_3 g153 g75 g154 g152 F s k kx) F s
abbrev ls108_3 (g153 : Args [.v (.slice 2 i64)] → Option (Ress [i64])) (g75 : Args [.v i64, .v i64] → Option (Ress [i64])) (g154 : Args [.v i64, .v (.slice 2 i64), .v (.slice 2 i64), .v i64] → Option (Ress [(.slice 2 i64)])) (g152 : Args [.v i64, .v (.slice 24 (.slice 2 i64)), .v (.slice 2 i64)] → Option (Ress [(.slice 2 i64)])) (F : Nat) : LS R108 := ⟨sh108_3, 0, ru108_3 g153 g75 g154 g152 F⟩
def fn108 (g153 : Args [.v (.slice 2 i64)] → Option (Ress [i64])) (g75 : Args [.v i64, .v i64] → Option (Ress [i64])) (g154 : Args [.v i64, .v (.slice 2 i64), .v (.slice 2 i64), .v i64] → Option (Ress [(.slice 2 i64)])) (g152 : Args [.v i64, .v (.slice 24 (.slice 2 i64)), .v (.slice 2 i64)] → Option (Ress [(.slice 2 i64)])) (F : Nat) (x : Args [.v i64, .v (.slice 24 (.slice 2 i64))]) : Option R108 :=
  match x with
  | (x0, x1, _) => (ru108_3 g153 g75 g154 g152 F ((x0, ()), ((x1, ()), (([], ()), (((0 : Int), ()), ())))) (fun s' => match s' with | ((t0, _), (t1, _), (t5, _), (t6, _), _) => (some (t5, ()))))
theorem ev108_10 (g153 : Args [.v (.slice 2 i64)] → Option (Ress [i64])) (g75 : Args [.v i64, .v i64] → Option (Ress [i64])) (g154 : Args [.v i64, .v (.slice 2 i64), .v (.slice 2 i64), .v i64] → Option (Ress [(.slice 2 i64)])) (g152 : Args [.v i64, .v (.slice 24 (.slice 2 i64)), .v (.slice 2 i64)] → Option (Ress [(.slice 2 i64)])) (F : Nat) (s : ShVal sh108_10) (k kx : ShVal sh108_10 → Option R108) : evL TT (ct108 g153 g75 g154 g152 ) kp108 [] (loopOf Try.f108 10) (envOf sh108_10 s) (fitK sh108_10 k) (fun j e => bif Nat.beq j 2 then fitK sh108_10 kx e else none) kr108 = st108_10 g153 g75 g154 g152 F s k kx := by
  obtain ⟨⟨t0, _⟩, ⟨t1, _⟩, ⟨t5, _⟩, ⟨t6, _⟩, ⟨t7, _⟩, ⟨t8, _⟩, ⟨t9, _⟩, ⟨t10, _⟩, _⟩ := s
  kernel_rfl
theorem ok108_10 (g153 : Args [.v (.slice 2 i64)] → Option (Ress [i64])) (g75 : Args [.v i64, .v i64] → Option (Ress [i64])) (g154 : Args [.v i64, .v (.slice 2 i64), .v (.slice 2 i64), .v i64] → Option (Ress [(.slice 2 i64)])) (g152 : Args [.v i64, .v (.slice 24 (.slice 2 i64)), .v (.slice 2 i64)] → Option (Ress [(.slice 2 i64)])) (F : Nat) (hK : KOK Try.prog (ct108 g153 g75 g154 g152 )) : LSOK Try.prog ⟨102, false, undef⟩ (ls108_10 g153 g75 g154 g152 F) (loopOf Try.f108 10) kr108 :=
  loop_ok (st108_10 g153 g75 g154 g152 F) mixed tt_ok hK (by kernel_rfl) (LTOK_by (l := []) (by kernel_rfl) trivial) (ev108_10 g153 g75 g154 g152 F)
theorem ev108_15 (g153 : Args [.v (.slice 2 i64)] → Option (Ress [i64])) (g75 : Args [.v i64, .v i64] → Option (Ress [i64])) (g154 : Args [.v i64, .v (.slice 2 i64), .v (.slice 2 i64), .v i64] → Option (Ress [(.slice 2 i64)])) (g152 : Args [.v i64, .v (.slice 24 (.slice 2 i64)), .v (.slice 2 i64)] → Option (Ress [(.slice 2 i64)])) (F : Nat) (s : ShVal sh108_15) (k kx : ShVal sh108_15 → Option R108) : evL TT (ct108 g153 g75 g154 g152 ) kp108 [] (loopOf Try.f108 15) (envOf sh108_15 s) (fitK sh108_15 k) (fun j e => bif Nat.beq j 4 then fitK sh108_15 kx e else none) kr108 = st108_15 g153 g75 g154 g152 F s k kx := by
  obtain ⟨⟨t0, _⟩, ⟨t1, _⟩, ⟨t5, _⟩, ⟨t6, _⟩, ⟨t7, _⟩, ⟨t8, _⟩, ⟨t11, _⟩, ⟨t12, _⟩, ⟨t13, _⟩, _⟩ := s
  kernel_rfl
theorem ok108_15 (g153 : Args [.v (.slice 2 i64)] → Option (Ress [i64])) (g75 : Args [.v i64, .v i64] → Option (Ress [i64])) (g154 : Args [.v i64, .v (.slice 2 i64), .v (.slice 2 i64), .v i64] → Option (Ress [(.slice 2 i64)])) (g152 : Args [.v i64, .v (.slice 24 (.slice 2 i64)), .v (.slice 2 i64)] → Option (Ress [(.slice 2 i64)])) (F : Nat) (hK : KOK Try.prog (ct108 g153 g75 g154 g152 )) : LSOK Try.prog ⟨102, false, undef⟩ (ls108_15 g153 g75 g154 g152 F) (loopOf Try.f108 15) kr108 :=
  loop_ok (st108_15 g153 g75 g154 g152 F) mixed tt_ok hK (by kernel_rfl) (LTOK_by (l := []) (by kernel_rfl) trivial) (ev108_15 g153 g75 g154 g152 F)
theorem ev108_3 (g153 : Args [.v (.slice 2 i64)] → Option (Ress [i64])) (g75 : Args [.v i64, .v i64] → Option (Ress [i64])) (g154 : Args [.v i64, .v (.slice 2 i64), .v (.slice 2 i64), .v i64] → Option (Ress [(.slice 2 i64)])) (g152 : Args [.v i64, .v (.slice 24 (.slice 2 i64)), .v (.slice 2 i64)] → Option (Ress [(.slice 2 i64)])) (F : Nat) (s : ShVal sh108_3) (k kx : ShVal sh108_3 → Option R108) : evL TT (ct108 g153 g75 g154 g152 ) kp108 [(10, ls108_10 g153 g75 g154 g152 F), (15, ls108_15 g153 g75 g154 g152 F)] (loopOf Try.f108 3) (envOf sh108_3 s) (fitK sh108_3 k) (fun j e => bif Nat.beq j 0 then fitK sh108_3 kx e else none) kr108 = st108_3 g153 g75 g154 g152 F s k kx := by
  obtain ⟨⟨t0, _⟩, ⟨t1, _⟩, ⟨t5, _⟩, ⟨t6, _⟩, _⟩ := s
  kernel_rfl
theorem ok108_3 (g153 : Args [.v (.slice 2 i64)] → Option (Ress [i64])) (g75 : Args [.v i64, .v i64] → Option (Ress [i64])) (g154 : Args [.v i64, .v (.slice 2 i64), .v (.slice 2 i64), .v i64] → Option (Ress [(.slice 2 i64)])) (g152 : Args [.v i64, .v (.slice 24 (.slice 2 i64)), .v (.slice 2 i64)] → Option (Ress [(.slice 2 i64)])) (F : Nat) (hK : KOK Try.prog (ct108 g153 g75 g154 g152 )) : LSOK Try.prog ⟨102, false, undef⟩ (ls108_3 g153 g75 g154 g152 F) (loopOf Try.f108 3) kr108 :=
  loop_ok (st108_3 g153 g75 g154 g152 F) mixed tt_ok hK (by kernel_rfl) (LTOK_by (l := [loopOf Try.f108 10, loopOf Try.f108 15]) (by kernel_rfl) ⟨ls_at (by kernel_rfl) (ok108_10 g153 g75 g154 g152 F hK), ⟨ls_at (by kernel_rfl) (ok108_15 g153 g75 g154 g152 F hK), trivial⟩⟩) (ev108_3 g153 g75 g154 g152 F)
theorem ev108 (g153 : Args [.v (.slice 2 i64)] → Option (Ress [i64])) (g75 : Args [.v i64, .v i64] → Option (Ress [i64])) (g154 : Args [.v i64, .v (.slice 2 i64), .v (.slice 2 i64), .v i64] → Option (Ress [(.slice 2 i64)])) (g152 : Args [.v i64, .v (.slice 24 (.slice 2 i64)), .v (.slice 2 i64)] → Option (Ress [(.slice 2 i64)])) (F : Nat) (x : Args [.v i64, .v (.slice 24 (.slice 2 i64))]) : fnK TT (ct108 g153 g75 g154 g152 ) kp108 [(.slice 24 (.slice 2 i64))] [(3, ls108_3 g153 g75 g154 g152 F)] (bodyOf Try.f108) [.tmp 4] [.v i64, .v (.slice 24 (.slice 2 i64))] false false x = fn108 g153 g75 g154 g152 F x := by
  obtain ⟨x0, x1, _⟩ := x
  kernel_rfl
theorem ok108 (g153 : Args [.v (.slice 2 i64)] → Option (Ress [i64])) (g75 : Args [.v i64, .v i64] → Option (Ress [i64])) (g154 : Args [.v i64, .v (.slice 2 i64), .v (.slice 2 i64), .v i64] → Option (Ress [(.slice 2 i64)])) (g152 : Args [.v i64, .v (.slice 24 (.slice 2 i64)), .v (.slice 2 i64)] → Option (Ress [(.slice 2 i64)])) (hK : KOK Try.prog (ct108 g153 g75 g154 g152 )) (cf : Args [.v i64, .v (.slice 24 (.slice 2 i64))] → Option R108) (h : ∀ x y, cf x = some y → ∃ F, fn108 g153 g75 g154 g152 F x = some y) : KOne Try.prog 108 ⟨[.v i64, .v (.slice 24 (.slice 2 i64))], [(.slice 24 (.slice 2 i64))], false, false, false, cf⟩ :=
  fn_one rfl (c := bodyOf Try.f108) mixed tt_ok hK Try.func108 (by kernel_rfl) (by kernel_rfl) (Nat.le_of_ble_eq_true (by kernel_rfl)) (by decide) fun x y hxy => by
    obtain ⟨F, hF⟩ := h x y hxy
    exact ⟨[(3, ls108_3 g153 g75 g154 g152 F)], LTOK_by (l := [loopOf Try.f108 3]) (by kernel_rfl) ⟨ls_at (by kernel_rfl) (ok108_3 g153 g75 g154 g152 F hK), trivial⟩, (ev108 g153 g75 g154 g152 F x).trans hF⟩
abbrev R17 : Type := Ress [(.slice 2 i64), i64]
abbrev kp17 : List (Nat × List Nat) := [(0, [5, 1, 0]), (1, [13, 5, 1, 0]), (2, [7, 6]), (3, [7, 6])]
abbrev ct17 (g61 : Args [.v i64, .v i64, .v (.slice 27 mat)] → Option (Ress [.bool])) (g62 : Args [.v i64, .v i64, .v mat] → Option (Ress [(.slice 2 i64)])) : CTab := [(61, ⟨[.v i64, .v i64, .v (.slice 27 mat)], [.bool], false, false, false, g61⟩), (62, ⟨[.v i64, .v i64, .v mat], [(.slice 2 i64)], true, true, false, g62⟩)]
abbrev kr17 : Env → Option R17 := endK TT [.tmp 6, .tmp 7] [(.slice 2 i64), i64] true true
def fn17 (g61 : Args [.v i64, .v i64, .v (.slice 27 mat)] → Option (Ress [.bool])) (g62 : Args [.v i64, .v i64, .v mat] → Option (Ress [(.slice 2 i64)])) (F : Nat) (x : Args [.v i64, .v i64, .v mat]) : Option R17 :=
  match x with
  | (x0, x1, x2, _) => (match (g61 (x0, (x1, ((x2 :: []), ())))) with | some r7 => (bif (!r7.1) then (some ([], ((2 : Int), ()))) else (match (g62 (x0, (x1, (x2, ())))) with | some r9 => (some (r9.1, ((0 : Int), ()))) | none => none)) | none => none)
theorem ev17 (g61 : Args [.v i64, .v i64, .v (.slice 27 mat)] → Option (Ress [.bool])) (g62 : Args [.v i64, .v i64, .v mat] → Option (Ress [(.slice 2 i64)])) (F : Nat) (x : Args [.v i64, .v i64, .v mat]) : fnK TT (ct17 g61 g62 ) kp17 [(.slice 2 i64), i64] [] (bodyOf Try.f17) [.tmp 6, .tmp 7] [.v i64, .v i64, .v mat] true true x = fn17 g61 g62 F x := by
  obtain ⟨x0, x1, x2, _⟩ := x
  kernel_rfl
theorem ok17 (g61 : Args [.v i64, .v i64, .v (.slice 27 mat)] → Option (Ress [.bool])) (g62 : Args [.v i64, .v i64, .v mat] → Option (Ress [(.slice 2 i64)])) (hK : KOK Try.prog (ct17 g61 g62 )) (cf : Args [.v i64, .v i64, .v mat] → Option R17) (h : ∀ x y, cf x = some y → ∃ F, fn17 g61 g62 F x = some y) : KOne Try.prog 17 ⟨[.v i64, .v i64, .v mat], [(.slice 2 i64), i64], true, true, false, cf⟩ :=
  fn_one rfl (c := bodyOf Try.f17) mixed tt_ok hK Try.func17 (by kernel_rfl) (by kernel_rfl) (Nat.le_of_ble_eq_true (by kernel_rfl)) (by decide) fun x y hxy => by
    obtain ⟨F, hF⟩ := h x y hxy
    exact ⟨[], LTOK_by (l := []) (by kernel_rfl) trivial, (ev17 g61 g62 F x).trans hF⟩
abbrev R129 : Type := Ress [mat, .bool]
abbrev kp129 : List (Nat × List Nat) := [(0, [1, 5, 0, 6]), (1, [8, 1, 5, 0, 6]), (2, [8, 1, 9, 5, 0, 6]), (3, [19, 5, 9, 8, 1, 0, 6]), (5, [5, 9, 10, 8, 1, 0, 6]), (6, [11, 5, 9, 10, 8, 1, 0, 6]), (7, [27, 11, 5, 9, 10, 8, 1, 0, 6]), (9, [11, 5, 9, 10, 8, 1, 0, 6]), (8, [11, 5, 9, 10, 8, 1, 0, 6]), (10, [8, 10, 9, 1, 5, 0, 6]), (11, [9, 8, 1, 5, 0, 6]), (4, [8, 1, 9, 5, 0, 6]), (12, [12, 1, 13, 6]), (13, [55, 12, 1, 13, 6]), (14, [7, 6]), (15, [6, 13, 1, 14, 12]), (16, [59, 12, 14, 1, 13, 6]), (18, [68, 12, 14, 1, 13, 6]), (19, [7, 6]), (20, [15, 13, 1, 14, 12, 6]), (21, [72, 15, 13, 1, 14, 12, 6]), (23, [15, 13, 1, 14, 12, 6]), (22, [15, 13, 1, 14, 12, 6]), (17, [6, 13, 1, 14, 12]), (24, [7, 6])]
abbrev ct129 (g108 : Args [.v i64, .v (.slice 24 (.slice 2 i64))] → Option (Ress [(.slice 24 (.slice 2 i64))])) (g153 : Args [.v (.slice 2 i64)] → Option (Ress [i64])) : CTab := [(108, ⟨[.v i64, .v (.slice 24 (.slice 2 i64))], [(.slice 24 (.slice 2 i64))], false, false, false, g108⟩), (153, ⟨[.v (.slice 2 i64)], [i64], false, false, false, g153⟩)]
abbrev kr129 : Env → Option R129 := endK TT [.cell 6 27, .tmp 7] [mat, .bool] false false
abbrev sh129_7 : Shape := [(0, vv i64), (1, vv i64), (5, bb mat), (6, bb mat), (8, vr 24 (.slice 2 i64) 129 false), (9, vv i64), (10, vr 2 i64 161 false), (11, vv i64)]
def st129_7 (g108 : Args [.v i64, .v (.slice 24 (.slice 2 i64))] → Option (Ress [(.slice 24 (.slice 2 i64))])) (g153 : Args [.v (.slice 2 i64)] → Option (Ress [i64])) (F : Nat) (s : ShVal sh129_7) (k kx : ShVal sh129_7 → Option R129) : Option R129 :=
  match s with
  | ((t0, _), (t1, _), (t5, _), (t6, _), (t8, _), (t9, _), (t10, _), (t11, _), _) => (bif decide (t11 < t1) then (bif ib t9 (Int.ofNat 3) then (bif ib t11 (Int.ofNat 3) then (bif ib t11 (Int.ofNat (List.length t10)) then k ((t0, ()), ((t1, ()), ((t5, ()), ((t6, ()), ((t8, ()), ((t9, ()), (((List.set t10 (tn t11) (w6 (tget (0 : Int) 3 (tget (Ty.dflt (.arr 3 (.int .u8))) 3 t5 (tn t9)) (tn t11)))), ()), (((w6 (t11 + (1 : Int))), ()), ())))))))) else none) else none) else none) else kx ((t0, ()), ((t1, ()), ((t5, ()), ((t6, ()), ((t8, ()), ((t9, ()), ((t10, ()), ((t11, ()), ())))))))))
def ru129_7 (g108 : Args [.v i64, .v (.slice 24 (.slice 2 i64))] → Option (Ress [(.slice 24 (.slice 2 i64))])) (g153 : Args [.v (.slice 2 i64)] → Option (Ress [i64])) (F : Nat) (s : ShVal sh129_7) (kx : ShVal sh129_7 → Option R129) : Option R129 := iter (fun s k => st129_7 g108 g153 F s k kx) F s
abbrev ls129_7 (g108 : Args [.v i64, .v (.slice 24 (.slice 2 i64))] → Option (Ress [(.slice 24 (.slice 2 i64))])) (g153 : Args [.v (.slice 2 i64)] → Option (Ress [i64])) (F : Nat) : LS R129 := ⟨sh129_7, 2, ru129_7 g108 g153 F⟩
abbrev sh129_3 : Shape := [(0, vv i64), (1, vv i64), (5, bb mat), (6, bb mat), (8, vr 24 (.slice 2 i64) 129 false), (9, vv i64)]
def st129_3 (g108 : Args [.v i64, .v (.slice 24 (.slice 2 i64))] → Option (Ress [(.slice 24 (.slice 2 i64))])) (g153 : Args [.v (.slice 2 i64)] → Option (Ress [i64])) (F : Nat) (s : ShVal sh129_3) (k kx : ShVal sh129_3 → Option R129) : Option R129 :=
  match s with
  | ((t0, _), (t1, _), (t5, _), (t6, _), (t8, _), (t9, _), _) => (bif decide (t9 < t1) then (bif ((decide ((0 : Int) ≤ (w6 ((2 : Int) * t1))) && decide ((w6 ((2 : Int) * t1)) ≤ (1099511627776 : Int))) && decide ((w6 ((2 : Int) * t1)) = (w6 ((2 : Int) * t1)))) then (ru129_7 g108 g153 F ((t0, ()), ((t1, ()), ((t5, ()), ((t6, ()), ((t8, ()), ((t9, ()), (((List.replicate (tn (w6 ((2 : Int) * t1))) (0 : Int)), ()), (((0 : Int), ()), ())))))))) (fun s' => match s' with | ((t0, _), (t1, _), (t5, _), (t6, _), (t8, _), (t9, _), (t10, _), (t11, _), _) => (bif ib (w6 (t1 + t9)) (Int.ofNat (List.length t10)) then (bif (growOk (List.length t8) (List.length ((List.set t10 (tn (w6 (t1 + t9))) (1 : Int)) :: []))) then k ((t0, ()), ((t1, ()), ((t5, ()), ((t6, ()), (((t8 ++ ((List.set t10 (tn (w6 (t1 + t9))) (1 : Int)) :: [])), ()), (((w6 (t9 + (1 : Int))), ()), ())))))) else none) else none))) else none) else kx ((t0, ()), ((t1, ()), ((t5, ()), ((t6, ()), ((t8, ()), ((t9, ()), ())))))))
def ru129_3 (g108 : Args [.v i64, .v (.slice 24 (.slice 2 i64))] → Option (Ress [(.slice 24 (.slice 2 i64))])) (g153 : Args [.v (.slice 2 i64)] → Option (Ress [i64])) (F : Nat) (s : ShVal sh129_3) (kx : ShVal sh129_3 → Option R129) : Option R129 := iter (fun s k => st129_3 g108 g153 F s k kx) F s
abbrev ls129_3 (g108 : Args [.v i64, .v (.slice 24 (.slice 2 i64))] → Option (Ress [(.slice 24 (.slice 2 i64))])) (g153 : Args [.v (.slice 2 i64)] → Option (Ress [i64])) (F : Nat) : LS R129 := ⟨sh129_3, 0, ru129_3 g108 g153 F⟩
abbrev sh129_21 : Shape := [(1, vv i64), (6, bb mat), (12, vv (.slice 24 (.slice 2 i64))), (13, bb mat), (14, vv i64), (15, vv i64)]
def st129_21 (g108 : Args [.v i64, .v (.slice 24 (.slice 2 i64))] → Option (Ress [(.slice 24 (.slice 2 i64))])) (g153 : Args [.v (.slice 2 i64)] → Option (Ress [i64])) (F : Nat) (s : ShVal sh129_21) (k kx : ShVal sh129_21 → Option R129) : Option R129 :=
  match s with
  | ((t1, _), (t6, _), (t12, _), (t13, _), (t14, _), (t15, _), _) => (bif decide (t15 < t1) then (bif ib t14 (Int.ofNat (List.length t12)) then (bif ib (w6 (t1 + t15)) (Int.ofNat (List.length (List.getD t12 (tn t14) []))) then (bif ib t14 (Int.ofNat 3) then (bif ib t15 (Int.ofNat 3) then k ((t1, ()), ((t6, ()), ((t12, ()), (((tset (tset (w8 (List.getD (List.getD t12 (tn t14) []) (tn (w6 (t1 + t15))) (0 : Int))) 3 (tget (Ty.dflt (.arr 3 (.int .u8))) 3 t13 (tn t14)) (tn t15)) 3 t13 (tn t14)), ()), ((t14, ()), (((w6 (t15 + (1 : Int))), ()), ())))))) else none) else none) else none) else none) else kx ((t1, ()), ((t6, ()), ((t12, ()), ((t13, ()), ((t14, ()), ((t15, ()), ())))))))
def ru129_21 (g108 : Args [.v i64, .v (.slice 24 (.slice 2 i64))] → Option (Ress [(.slice 24 (.slice 2 i64))])) (g153 : Args [.v (.slice 2 i64)] → Option (Ress [i64])) (F : Nat) (s : ShVal sh129_21) (kx : ShVal sh129_21 → Option R129) : Option R129 := iter (fun s k => st129_21 g108 g153 F s k kx) F s
abbrev ls129_21 (g108 : Args [.v i64, .v (.slice 24 (.slice 2 i64))] → Option (Ress [(.slice 24 (.slice 2 i64))])) (g153 : Args [.v (.slice 2 i64)] → Option (Ress [i64])) (F : Nat) : LS R129 := ⟨sh129_21, 6, ru129_21 g108 g153 F⟩
abbrev sh129_16 : Shape := [(1, vv i64), (6, bb mat), (12, vv (.slice 24 (.slice 2 i64))), (13, bb mat), (14, vv i64)]
def st129_16 (g108 : Args [.v i64, .v (.slice 24 (.slice 2 i64))] → Option (Ress [(.slice 24 (.slice 2 i64))])) (g153 : Args [.v (.slice 2 i64)] → Option (Ress [i64])) (F : Nat) (s : ShVal sh129_16) (k kx : ShVal sh129_16 → Option R129) : Option R129 :=
  match s with
  | ((t1, _), (t6, _), (t12, _), (t13, _), (t14, _), _) => (bif decide (t14 < t1) then (bif ib t14 (Int.ofNat (List.length t12)) then (match (g153 ((List.getD t12 (tn t14) []), ())) with | some r25 => (bif (!decide (r25.1 = t14)) then (some (t13, (false, ()))) else (ru129_21 g108 g153 F ((t1, ()), ((t6, ()), ((t12, ()), ((t13, ()), ((t14, ()), (((0 : Int), ()), ())))))) (fun s' => match s' with | ((t1, _), (t6, _), (t12, _), (t13, _), (t14, _), (t15, _), _) => k ((t1, ()), ((t6, ()), ((t12, ()), ((t13, ()), (((w6 (t14 + (1 : Int))), ()), ())))))))) | none => none) else none) else kx ((t1, ()), ((t6, ()), ((t12, ()), ((t13, ()), ((t14, ()), ()))))))
def ru129_16 (g108 : Args [.v i64, .v (.slice 24 (.slice 2 i64))] → Option (Ress [(.slice 24 (.slice 2 i64))])) (g153 : Args [.v (.slice 2 i64)] → Option (Ress [i64])) (F : Nat) (s : ShVal sh129_16) (kx : ShVal sh129_16 → Option R129) : Option R129 := iter (fun s k => st129_16 g108 g153 F s k kx) F s
abbrev ls129_16 (g108 : Args [.v i64, .v (.slice 24 (.slice 2 i64))] → Option (Ress [(.slice 24 (.slice 2 i64))])) (g153 : Args [.v (.slice 2 i64)] → Option (Ress [i64])) (F : Nat) : LS R129 := ⟨sh129_16, 4, ru129_16 g108 g153 F⟩
def fn129 (g108 : Args [.v i64, .v (.slice 24 (.slice 2 i64))] → Option (Ress [(.slice 24 (.slice 2 i64))])) (g153 : Args [.v (.slice 2 i64)] → Option (Ress [i64])) (F : Nat) (x : Args [.v i64, .v i64, .v mat]) : Option R129 :=
  match x with
  | (x0, x1, x2, _) => (ru129_3 g108 g153 F ((x0, ()), ((x1, ()), ((x2, ()), (((Ty.dflt (.arr 3 (.arr 3 (.int .u8)))), ()), (([], ()), (((0 : Int), ()), ())))))) (fun s' => match s' with | ((t0, _), (t1, _), (t5, _), (t6, _), (t8, _), (t9, _), _) => (match (g108 (t0, (t8, ()))) with | some r15 => (bif decide ((List.length r15.1) ≤ 9223372036854775807) then (bif (!decide ((Int.ofNat (List.length r15.1)) = t1)) then (some ((tup (Prod Int (Prod Int (Prod Int Unit))) (Ty.dflt (.arr 3 (.int .u8))) 3), (false, ()))) else (ru129_16 g108 g153 F ((t1, ()), ((t6, ()), ((r15.1, ()), (((tup (Prod Int (Prod Int (Prod Int Unit))) (Ty.dflt (.arr 3 (.int .u8))) 3), ()), (((0 : Int), ()), ()))))) (fun s' => match s' with | ((t1, _), (t6, _), (t12, _), (t13, _), (t14, _), _) => (some (t13, (true, ())))))) else none) | none => none)))
theorem ev129_7 (g108 : Args [.v i64, .v (.slice 24 (.slice 2 i64))] → Option (Ress [(.slice 24 (.slice 2 i64))])) (g153 : Args [.v (.slice 2 i64)] → Option (Ress [i64])) (F : Nat) (s : ShVal sh129_7) (k kx : ShVal sh129_7 → Option R129) : evL TT (ct129 g108 g153 ) kp129 [] (loopOf Try.f129 7) (envOf sh129_7 s) (fitK sh129_7 k) (fun j e => bif Nat.beq j 2 then fitK sh129_7 kx e else none) kr129 = st129_7 g108 g153 F s k kx := by
  obtain ⟨⟨t0, _⟩, ⟨t1, _⟩, ⟨t5, _⟩, ⟨t6, _⟩, ⟨t8, _⟩, ⟨t9, _⟩, ⟨t10, _⟩, ⟨t11, _⟩, _⟩ := s
  kernel_rfl
theorem ok129_7 (g108 : Args [.v i64, .v (.slice 24 (.slice 2 i64))] → Option (Ress [(.slice 24 (.slice 2 i64))])) (g153 : Args [.v (.slice 2 i64)] → Option (Ress [i64])) (F : Nat) (hK : KOK Try.prog (ct129 g108 g153 )) : LSOK Try.prog ⟨90, false, undef⟩ (ls129_7 g108 g153 F) (loopOf Try.f129 7) kr129 :=
  loop_ok (st129_7 g108 g153 F) mixed tt_ok hK (by kernel_rfl) (LTOK_by (l := []) (by kernel_rfl) trivial) (ev129_7 g108 g153 F)
theorem ev129_3 (g108 : Args [.v i64, .v (.slice 24 (.slice 2 i64))] → Option (Ress [(.slice 24 (.slice 2 i64))])) (g153 : Args [.v (.slice 2 i64)] → Option (Ress [i64])) (F : Nat) (s : ShVal sh129_3) (k kx : ShVal sh129_3 → Option R129) : evL TT (ct129 g108 g153 ) kp129 [(7, ls129_7 g108 g153 F)] (loopOf Try.f129 3) (envOf sh129_3 s) (fitK sh129_3 k) (fun j e => bif Nat.beq j 0 then fitK sh129_3 kx e else none) kr129 = st129_3 g108 g153 F s k kx := by
  obtain ⟨⟨t0, _⟩, ⟨t1, _⟩, ⟨t5, _⟩, ⟨t6, _⟩, ⟨t8, _⟩, ⟨t9, _⟩, _⟩ := s
  kernel_rfl
theorem ok129_3 (g108 : Args [.v i64, .v (.slice 24 (.slice 2 i64))] → Option (Ress [(.slice 24 (.slice 2 i64))])) (g153 : Args [.v (.slice 2 i64)] → Option (Ress [i64])) (F : Nat) (hK : KOK Try.prog (ct129 g108 g153 )) : LSOK Try.prog ⟨90, false, undef⟩ (ls129_3 g108 g153 F) (loopOf Try.f129 3) kr129 :=
  loop_ok (st129_3 g108 g153 F) mixed tt_ok hK (by kernel_rfl) (LTOK_by (l := [loopOf Try.f129 7]) (by kernel_rfl) ⟨ls_at (by kernel_rfl) (ok129_7 g108 g153 F hK), trivial⟩) (ev129_3 g108 g153 F)
theorem ev129_21 (g108 : Args [.v i64, .v (.slice 24 (.slice 2 i64))] → Option (Ress [(.slice 24 (.slice 2 i64))])) (g153 : Args [.v (.slice 2 i64)] → Option (Ress [i64])) (F : Nat) (s : ShVal sh129_21) (k kx : ShVal sh129_21 → Option R129) : evL TT (ct129 g108 g153 ) kp129 [] (loopOf Try.f129 21) (envOf sh129_21 s) (fitK sh129_21 k) (fun j e => bif Nat.beq j 6 then fitK sh129_21 kx e else none) kr129 = st129_21 g108 g153 F s k kx := by
  obtain ⟨⟨t1, _⟩, ⟨t6, _⟩, ⟨t12, _⟩, ⟨t13, _⟩, ⟨t14, _⟩, ⟨t15, _⟩, _⟩ := s
  kernel_rfl
theorem ok129_21 (g108 : Args [.v i64, .v (.slice 24 (.slice 2 i64))] → Option (Ress [(.slice 24 (.slice 2 i64))])) (g153 : Args [.v (.slice 2 i64)] → Option (Ress [i64])) (F : Nat) (hK : KOK Try.prog (ct129 g108 g153 )) : LSOK Try.prog ⟨90, false, undef⟩ (ls129_21 g108 g153 F) (loopOf Try.f129 21) kr129 :=
  loop_ok (st129_21 g108 g153 F) mixed tt_ok hK (by kernel_rfl) (LTOK_by (l := []) (by kernel_rfl) trivial) (ev129_21 g108 g153 F)
theorem ev129_16 (g108 : Args [.v i64, .v (.slice 24 (.slice 2 i64))] → Option (Ress [(.slice 24 (.slice 2 i64))])) (g153 : Args [.v (.slice 2 i64)] → Option (Ress [i64])) (F : Nat) (s : ShVal sh129_16) (k kx : ShVal sh129_16 → Option R129) : evL TT (ct129 g108 g153 ) kp129 [(21, ls129_21 g108 g153 F)] (loopOf Try.f129 16) (envOf sh129_16 s) (fitK sh129_16 k) (fun j e => bif Nat.beq j 4 then fitK sh129_16 kx e else none) kr129 = st129_16 g108 g153 F s k kx := by
  obtain ⟨⟨t1, _⟩, ⟨t6, _⟩, ⟨t12, _⟩, ⟨t13, _⟩, ⟨t14, _⟩, _⟩ := s
  kernel_rfl
theorem ok129_16 (g108 : Args [.v i64, .v (.slice 24 (.slice 2 i64))] → Option (Ress [(.slice 24 (.slice 2 i64))])) (g153 : Args [.v (.slice 2 i64)] → Option (Ress [i64])) (F : Nat) (hK : KOK Try.prog (ct129 g108 g153 )) : LSOK Try.prog ⟨90, false, undef⟩ (ls129_16 g108 g153 F) (loopOf Try.f129 16) kr129 :=
  loop_ok (st129_16 g108 g153 F) mixed tt_ok hK (by kernel_rfl) (LTOK_by (l := [loopOf Try.f129 21]) (by kernel_rfl) ⟨ls_at (by kernel_rfl) (ok129_21 g108 g153 F hK), trivial⟩) (ev129_16 g108 g153 F)
theorem ev129 (g108 : Args [.v i64, .v (.slice 24 (.slice 2 i64))] → Option (Ress [(.slice 24 (.slice 2 i64))])) (g153 : Args [.v (.slice 2 i64)] → Option (Ress [i64])) (F : Nat) (x : Args [.v i64, .v i64, .v mat]) : fnK TT (ct129 g108 g153 ) kp129 [mat, .bool] [(3, ls129_3 g108 g153 F), (16, ls129_16 g108 g153 F)] (bodyOf Try.f129) [.cell 6 27, .tmp 7] [.v i64, .v i64, .v mat] false false x = fn129 g108 g153 F x := by
  obtain ⟨x0, x1, x2, _⟩ := x
  kernel_rfl
theorem ok129 (g108 : Args [.v i64, .v (.slice 24 (.slice 2 i64))] → Option (Ress [(.slice 24 (.slice 2 i64))])) (g153 : Args [.v (.slice 2 i64)] → Option (Ress [i64])) (hK : KOK Try.prog (ct129 g108 g153 )) (cf : Args [.v i64, .v i64, .v mat] → Option R129) (h : ∀ x y, cf x = some y → ∃ F, fn129 g108 g153 F x = some y) : KOne Try.prog 129 ⟨[.v i64, .v i64, .v mat], [mat, .bool], false, false, false, cf⟩ :=
  fn_one rfl (c := bodyOf Try.f129) mixed tt_ok hK Try.func129 (by kernel_rfl) (by kernel_rfl) (Nat.le_of_ble_eq_true (by kernel_rfl)) (by decide) fun x y hxy => by
    obtain ⟨F, hF⟩ := h x y hxy
    exact ⟨[(3, ls129_3 g108 g153 F), (16, ls129_16 g108 g153 F)], LTOK_by (l := [loopOf Try.f129 3, loopOf Try.f129 16]) (by kernel_rfl) ⟨ls_at (by kernel_rfl) (ok129_3 g108 g153 F hK), ⟨ls_at (by kernel_rfl) (ok129_16 g108 g153 F hK), trivial⟩⟩, (ev129 g108 g153 F x).trans hF⟩
abbrev R58 : Type := Ress [.bool]
abbrev kp58 : List (Nat × List Nat) := [(0, [5, 1, 0]), (1, [18, 5, 1, 0]), (2, [6]), (3, [0, 1, 7, 5]), (4, [20, 5, 7, 1, 0]), (6, [8, 5, 7, 1, 0]), (7, [24, 0, 1, 7, 5, 8]), (9, [52, 0, 1, 7, 5, 8]), (10, [6]), (8, [8, 5, 7, 1, 0]), (5, [0, 1, 7, 5]), (11, [10]), (12, [6])]
abbrev ct58 (g82 : Args [.v i64] → Option (Ress [.bool])) (g73 : Args [.v i64, .v i64, .v i64] → Option (Ress [.bool])) (g129 : Args [.v i64, .v i64, .v mat] → Option (Ress [mat, .bool])) : CTab := [(82, ⟨[.v i64], [.bool], false, false, false, g82⟩), (73, ⟨[.v i64, .v i64, .v i64], [.bool], false, false, false, g73⟩), (129, ⟨[.v i64, .v i64, .v mat], [mat, .bool], false, false, false, g129⟩)]
abbrev kr58 : Env → Option R58 := endK TT [.tmp 6] [.bool] false false
abbrev sh58_7 : Shape := [(0, vv i64), (1, vv i64), (5, bb mat), (7, vv i64), (8, vv i64)]
def st58_7 (g82 : Args [.v i64] → Option (Ress [.bool])) (g73 : Args [.v i64, .v i64, .v i64] → Option (Ress [.bool])) (g129 : Args [.v i64, .v i64, .v mat] → Option (Ress [mat, .bool])) (F : Nat) (s : ShVal sh58_7) (k kx : ShVal sh58_7 → Option R58) : Option R58 :=
  match s with
  | ((t0, _), (t1, _), (t5, _), (t7, _), (t8, _), _) => (bif decide (t8 < (3 : Int)) then (bif ib t7 (Int.ofNat 3) then (bif ib t8 (Int.ofNat 3) then (bif decide (t0 ≤ (w6 (tget (0 : Int) 3 (tget (Ty.dflt (.arr 3 (.int .u8))) 3 t5 (tn t7)) (tn t8)))) then (some (false, ())) else (bif decide (t1 ≤ t7) then (bif ib t7 (Int.ofNat 3) then (bif ib t8 (Int.ofNat 3) then (bif (bif false then true else (bif true then (!decide ((tget (0 : Int) 3 (tget (Ty.dflt (.arr 3 (.int .u8))) 3 t5 (tn t7)) (tn t8)) = (0 : Int))) else false)) then (some (false, ())) else k ((t0, ()), ((t1, ()), ((t5, ()), ((t7, ()), (((w6 (t8 + (1 : Int))), ()), ())))))) else none) else none) else (bif (bif false then true else decide (t1 ≤ t8)) then (bif ib t7 (Int.ofNat 3) then (bif ib t8 (Int.ofNat 3) then (bif (bif false then true else (bif true then (!decide ((tget (0 : Int) 3 (tget (Ty.dflt (.arr 3 (.int .u8))) 3 t5 (tn t7)) (tn t8)) = (0 : Int))) else false)) then (some (false, ())) else k ((t0, ()), ((t1, ()), ((t5, ()), ((t7, ()), (((w6 (t8 + (1 : Int))), ()), ())))))) else none) else none) else (bif (bif false then true else false) then (some (false, ())) else k ((t0, ()), ((t1, ()), ((t5, ()), ((t7, ()), (((w6 (t8 + (1 : Int))), ()), ()))))))))) else none) else none) else kx ((t0, ()), ((t1, ()), ((t5, ()), ((t7, ()), ((t8, ()), ()))))))
def ru58_7 (g82 : Args [.v i64] → Option (Ress [.bool])) (g73 : Args [.v i64, .v i64, .v i64] → Option (Ress [.bool])) (g129 : Args [.v i64, .v i64, .v mat] → Option (Ress [mat, .bool])) (F : Nat) (s : ShVal sh58_7) (kx : ShVal sh58_7 → Option R58) : Option R58 := iter (fun s k => st58_7 g82 g73 g129 F s k kx) F s
abbrev ls58_7 (g82 : Args [.v i64] → Option (Ress [.bool])) (g73 : Args [.v i64, .v i64, .v i64] → Option (Ress [.bool])) (g129 : Args [.v i64, .v i64, .v mat] → Option (Ress [mat, .bool])) (F : Nat) : LS R58 := ⟨sh58_7, 2, ru58_7 g82 g73 g129 F⟩
abbrev sh58_4 : Shape := [(0, vv i64), (1, vv i64), (5, bb mat), (7, vv i64)]
def st58_4 (g82 : Args [.v i64] → Option (Ress [.bool])) (g73 : Args [.v i64, .v i64, .v i64] → Option (Ress [.bool])) (g129 : Args [.v i64, .v i64, .v mat] → Option (Ress [mat, .bool])) (F : Nat) (s : ShVal sh58_4) (k kx : ShVal sh58_4 → Option R58) : Option R58 :=
  match s with
  | ((t0, _), (t1, _), (t5, _), (t7, _), _) => (bif decide (t7 < (3 : Int)) then (ru58_7 g82 g73 g129 F ((t0, ()), ((t1, ()), ((t5, ()), ((t7, ()), (((0 : Int), ()), ()))))) (fun s' => match s' with | ((t0, _), (t1, _), (t5, _), (t7, _), (t8, _), _) => k ((t0, ()), ((t1, ()), ((t5, ()), (((w6 (t7 + (1 : Int))), ()), ())))))) else kx ((t0, ()), ((t1, ()), ((t5, ()), ((t7, ()), ())))))
def ru58_4 (g82 : Args [.v i64] → Option (Ress [.bool])) (g73 : Args [.v i64, .v i64, .v i64] → Option (Ress [.bool])) (g129 : Args [.v i64, .v i64, .v mat] → Option (Ress [mat, .bool])) (F : Nat) (s : ShVal sh58_4) (kx : ShVal sh58_4 → Option R58) : Option R58 := iter (fun s k => st58_4 g82 g73 g129 F s k kx) F s
abbrev ls58_4 (g82 : Args [.v i64] → Option (Ress [.bool])) (g73 : Args [.v i64, .v i64, .v i64] → Option (Ress [.bool])) (g129 : Args [.v i64, .v i64, .v mat] → Option (Ress [mat, .bool])) (F : Nat) : LS R58 := ⟨sh58_4, 0, ru58_4 g82 g73 g129 F⟩
def fn58 (g82 : Args [.v i64] → Option (Ress [.bool])) (g73 : Args [.v i64, .v i64, .v i64] → Option (Ress [.bool])) (g129 : Args [.v i64, .v i64, .v mat] → Option (Ress [mat, .bool])) (F : Nat) (x : Args [.v i64, .v i64, .v mat]) : Option R58 :=
  match x with
  | (x0, x1, x2, _) => (match (g82 (x0, ())) with | some r8 => (bif (!r8.1) then (some (false, ())) else (match (g73 (x1, ((1 : Int), ((3 : Int), ())))) with | some r9 => (bif (bif false then true else (!r9.1)) then (some (false, ())) else (ru58_4 g82 g73 g129 F ((x0, ()), ((x1, ()), ((x2, ()), (((0 : Int), ()), ())))) (fun s' => match s' with | ((t0, _), (t1, _), (t5, _), (t7, _), _) => (match (g129 (t0, (t1, (t5, ())))) with | some r16 => (some (r16.2.1, ())) | none => none)))) | none => none)) | none => none)
theorem ev58_7 (g82 : Args [.v i64] → Option (Ress [.bool])) (g73 : Args [.v i64, .v i64, .v i64] → Option (Ress [.bool])) (g129 : Args [.v i64, .v i64, .v mat] → Option (Ress [mat, .bool])) (F : Nat) (s : ShVal sh58_7) (k kx : ShVal sh58_7 → Option R58) : evL TT (ct58 g82 g73 g129 ) kp58 [] (loopOf Try.f58 7) (envOf sh58_7 s) (fitK sh58_7 k) (fun j e => bif Nat.beq j 2 then fitK sh58_7 kx e else none) kr58 = st58_7 g82 g73 g129 F s k kx := by
  obtain ⟨⟨t0, _⟩, ⟨t1, _⟩, ⟨t5, _⟩, ⟨t7, _⟩, ⟨t8, _⟩, _⟩ := s
  kernel_rfl
theorem ok58_7 (g82 : Args [.v i64] → Option (Ress [.bool])) (g73 : Args [.v i64, .v i64, .v i64] → Option (Ress [.bool])) (g129 : Args [.v i64, .v i64, .v mat] → Option (Ress [mat, .bool])) (F : Nat) (hK : KOK Try.prog (ct58 g82 g73 g129 )) : LSOK Try.prog ⟨61, false, undef⟩ (ls58_7 g82 g73 g129 F) (loopOf Try.f58 7) kr58 :=
  loop_ok (st58_7 g82 g73 g129 F) mixed tt_ok hK (by kernel_rfl) (LTOK_by (l := []) (by kernel_rfl) trivial) (ev58_7 g82 g73 g129 F)
theorem ev58_4 (g82 : Args [.v i64] → Option (Ress [.bool])) (g73 : Args [.v i64, .v i64, .v i64] → Option (Ress [.bool])) (g129 : Args [.v i64, .v i64, .v mat] → Option (Ress [mat, .bool])) (F : Nat) (s : ShVal sh58_4) (k kx : ShVal sh58_4 → Option R58) : evL TT (ct58 g82 g73 g129 ) kp58 [(7, ls58_7 g82 g73 g129 F)] (loopOf Try.f58 4) (envOf sh58_4 s) (fitK sh58_4 k) (fun j e => bif Nat.beq j 0 then fitK sh58_4 kx e else none) kr58 = st58_4 g82 g73 g129 F s k kx := by
  obtain ⟨⟨t0, _⟩, ⟨t1, _⟩, ⟨t5, _⟩, ⟨t7, _⟩, _⟩ := s
  kernel_rfl
theorem ok58_4 (g82 : Args [.v i64] → Option (Ress [.bool])) (g73 : Args [.v i64, .v i64, .v i64] → Option (Ress [.bool])) (g129 : Args [.v i64, .v i64, .v mat] → Option (Ress [mat, .bool])) (F : Nat) (hK : KOK Try.prog (ct58 g82 g73 g129 )) : LSOK Try.prog ⟨61, false, undef⟩ (ls58_4 g82 g73 g129 F) (loopOf Try.f58 4) kr58 :=
  loop_ok (st58_4 g82 g73 g129 F) mixed tt_ok hK (by kernel_rfl) (LTOK_by (l := [loopOf Try.f58 7]) (by kernel_rfl) ⟨ls_at (by kernel_rfl) (ok58_7 g82 g73 g129 F hK), trivial⟩) (ev58_4 g82 g73 g129 F)
theorem ev58 (g82 : Args [.v i64] → Option (Ress [.bool])) (g73 : Args [.v i64, .v i64, .v i64] → Option (Ress [.bool])) (g129 : Args [.v i64, .v i64, .v mat] → Option (Ress [mat, .bool])) (F : Nat) (x : Args [.v i64, .v i64, .v mat]) : fnK TT (ct58 g82 g73 g129 ) kp58 [.bool] [(4, ls58_4 g82 g73 g129 F)] (bodyOf Try.f58) [.tmp 6] [.v i64, .v i64, .v mat] false false x = fn58 g82 g73 g129 F x := by
  obtain ⟨x0, x1, x2, _⟩ := x
  kernel_rfl
theorem ok58 (g82 : Args [.v i64] → Option (Ress [.bool])) (g73 : Args [.v i64, .v i64, .v i64] → Option (Ress [.bool])) (g129 : Args [.v i64, .v i64, .v mat] → Option (Ress [mat, .bool])) (hK : KOK Try.prog (ct58 g82 g73 g129 )) (cf : Args [.v i64, .v i64, .v mat] → Option R58) (h : ∀ x y, cf x = some y → ∃ F, fn58 g82 g73 g129 F x = some y) : KOne Try.prog 58 ⟨[.v i64, .v i64, .v mat], [.bool], false, false, false, cf⟩ :=
  fn_one rfl (c := bodyOf Try.f58) mixed tt_ok hK Try.func58 (by kernel_rfl) (by kernel_rfl) (Nat.le_of_ble_eq_true (by kernel_rfl)) (by decide) fun x y hxy => by
    obtain ⟨F, hF⟩ := h x y hxy
    exact ⟨[(4, ls58_4 g82 g73 g129 F)], LTOK_by (l := [loopOf Try.f58 4]) (by kernel_rfl) ⟨ls_at (by kernel_rfl) (ok58_4 g82 g73 g129 F hK), trivial⟩, (ev58 g82 g73 g129 F x).trans hF⟩
abbrev R15 : Type := Ress [(.slice 2 i64), i64]
abbrev kp15 : List (Nat × List Nat) := [(0, [5, 1, 0]), (1, [12, 5, 1, 0]), (2, [7, 6]), (3, [7, 6])]
abbrev ct15 (g58 : Args [.v i64, .v i64, .v mat] → Option (Ress [.bool])) (g59 : Args [.v i64, .v i64, .v mat] → Option (Ress [(.slice 2 i64)])) : CTab := [(58, ⟨[.v i64, .v i64, .v mat], [.bool], false, false, false, g58⟩), (59, ⟨[.v i64, .v i64, .v mat], [(.slice 2 i64)], true, true, false, g59⟩)]
abbrev kr15 : Env → Option R15 := endK TT [.tmp 6, .tmp 7] [(.slice 2 i64), i64] true true
def fn15 (g58 : Args [.v i64, .v i64, .v mat] → Option (Ress [.bool])) (g59 : Args [.v i64, .v i64, .v mat] → Option (Ress [(.slice 2 i64)])) (F : Nat) (x : Args [.v i64, .v i64, .v mat]) : Option R15 :=
  match x with
  | (x0, x1, x2, _) => (match (g58 (x0, (x1, (x2, ())))) with | some r7 => (bif (!r7.1) then (some ([], ((2 : Int), ()))) else (match (g59 (x0, (x1, (x2, ())))) with | some r9 => (some (r9.1, ((0 : Int), ()))) | none => none)) | none => none)
theorem ev15 (g58 : Args [.v i64, .v i64, .v mat] → Option (Ress [.bool])) (g59 : Args [.v i64, .v i64, .v mat] → Option (Ress [(.slice 2 i64)])) (F : Nat) (x : Args [.v i64, .v i64, .v mat]) : fnK TT (ct15 g58 g59 ) kp15 [(.slice 2 i64), i64] [] (bodyOf Try.f15) [.tmp 6, .tmp 7] [.v i64, .v i64, .v mat] true true x = fn15 g58 g59 F x := by
  obtain ⟨x0, x1, x2, _⟩ := x
  kernel_rfl
theorem ok15 (g58 : Args [.v i64, .v i64, .v mat] → Option (Ress [.bool])) (g59 : Args [.v i64, .v i64, .v mat] → Option (Ress [(.slice 2 i64)])) (hK : KOK Try.prog (ct15 g58 g59 )) (cf : Args [.v i64, .v i64, .v mat] → Option R15) (h : ∀ x y, cf x = some y → ∃ F, fn15 g58 g59 F x = some y) : KOne Try.prog 15 ⟨[.v i64, .v i64, .v mat], [(.slice 2 i64), i64], true, true, false, cf⟩ :=
  fn_one rfl (c := bodyOf Try.f15) mixed tt_ok hK Try.func15 (by kernel_rfl) (by kernel_rfl) (Nat.le_of_ble_eq_true (by kernel_rfl)) (by decide) fun x y hxy => by
    obtain ⟨F, hF⟩ := h x y hxy
    exact ⟨[], LTOK_by (l := []) (by kernel_rfl) trivial, (ev15 g58 g59 F x).trans hF⟩
abbrev R3 : Type := Ress [.bool]
abbrev kp3 : List (Nat × List Nat) := [(0, [5, 1, 0]), (1, [8, 7, 5, 1, 0]), (2, [10, 9, 8, 7, 5, 1, 0]), (3, [39, 9, 8, 7, 5, 1, 0]), (4, [6]), (5, [11, 0, 1, 5, 7, 8, 9]), (6, [0, 1, 5, 7, 8, 11, 9]), (7, [12, 0, 1, 5, 7, 8, 11, 9]), (8, [0, 1, 5, 7, 8, 11, 9, 12]), (9, [47, 0, 1, 5, 7, 8, 11, 9, 12]), (10, [6]), (11, [50, 9, 11, 8, 7, 5, 1, 0]), (12, [6]), (13, [13, 7, 14, 8, 11, 9]), (14, [67, 11, 9]), (15, [6]), (16, [9, 12, 11]), (17, [11, 12]), (18, [72, 11, 12]), (19, [6]), (20, [75]), (21, [6]), (22, [6])]
abbrev ct3 (g16 : Args [.v mat] → Option (Ress [mat])) (g15 : Args [.v i64, .v i64, .v mat] → Option (Ress [(.slice 2 i64), i64])) (g18 : Args [.v (.slice 2 i64), .v (.slice 2 i64)] → Option (Ress [.bool])) (g19 : Args [.v (.slice 2 i64), .v i64] → Option (Ress [(.slice 2 i64), i64])) (g20 : Args [.v (.slice 2 i64), .v i64] → Option (Ress [i64])) (g17 : Args [.v i64, .v i64, .v mat] → Option (Ress [(.slice 2 i64), i64])) : CTab := [(16, ⟨[.v mat], [mat], false, false, false, g16⟩), (15, ⟨[.v i64, .v i64, .v mat], [(.slice 2 i64), i64], true, true, false, g15⟩), (18, ⟨[.v (.slice 2 i64), .v (.slice 2 i64)], [.bool], false, false, false, g18⟩), (19, ⟨[.v (.slice 2 i64), .v i64], [(.slice 2 i64), i64], false, false, true, g19⟩), (20, ⟨[.v (.slice 2 i64), .v i64], [i64], false, false, false, g20⟩), (17, ⟨[.v i64, .v i64, .v mat], [(.slice 2 i64), i64], true, true, false, g17⟩)]
abbrev kr3 : Env → Option R3 := endK TT [.tmp 6] [.bool] false false
def fn3 (g16 : Args [.v mat] → Option (Ress [mat])) (g15 : Args [.v i64, .v i64, .v mat] → Option (Ress [(.slice 2 i64), i64])) (g18 : Args [.v (.slice 2 i64), .v (.slice 2 i64)] → Option (Ress [.bool])) (g19 : Args [.v (.slice 2 i64), .v i64] → Option (Ress [(.slice 2 i64), i64])) (g20 : Args [.v (.slice 2 i64), .v i64] → Option (Ress [i64])) (g17 : Args [.v i64, .v i64, .v mat] → Option (Ress [(.slice 2 i64), i64])) (F : Nat) (x : Args [.v i64, .v i64, .v mat]) : Option R3 :=
  match x with
  | (x0, x1, x2, _) => (match (g16 (x2, ())) with | some r11 => (match (g15 (x0, (x1, (r11.1, ())))) with | some r12 => (match (g16 (x2, ())) with | some r14 => (match (g17 (x0, (x1, (r14.1, ())))) with | some r15 => (match (g18 (r15.1, (r12.1, ()))) with | some r17 => (bif (!r17.1) then (some (false, ())) else (bif (bif false then true else (!decide (r15.2.1 = r12.2.1))) then (some (false, ())) else (match (g19 (r15.1, ((1 : Int), ()))) with | some r20 => (match (g20 ((bif ((Nat.beq 2 2) && true) then r20.1 else []), ((1 : Int), ()))) with | some r23 => (bif decide (r23.1 < (0 : Int)) then (some (false, ())) else (bif (!decide (r23.1 = r20.2.1)) then (some (false, ())) else (match (g16 (x2, ())) with | some r27 => (match (g17 (x0, (x1, (r27.1, ())))) with | some r28 => (match (g18 (r28.1, (r12.1, ()))) with | some r30 => (bif (!r30.1) then (some (false, ())) else (bif (bif false then true else (!decide (r28.2.1 = r12.2.1))) then (some (false, ())) else (match (g20 ((bif ((Nat.beq 2 2) && true) then r20.1 else []), ((1 : Int), ()))) with | some r33 => (bif decide (r33.1 < (0 : Int)) then (some (false, ())) else (bif (!decide (r33.1 = r20.2.1)) then (some (false, ())) else (some (true, ())))) | none => none))) | none => none) | none => none) | none => none))) | none => none) | none => none))) | none => none) | none => none) | none => none) | none => none) | none => none)
theorem ev3 (g16 : Args [.v mat] → Option (Ress [mat])) (g15 : Args [.v i64, .v i64, .v mat] → Option (Ress [(.slice 2 i64), i64])) (g18 : Args [.v (.slice 2 i64), .v (.slice 2 i64)] → Option (Ress [.bool])) (g19 : Args [.v (.slice 2 i64), .v i64] → Option (Ress [(.slice 2 i64), i64])) (g20 : Args [.v (.slice 2 i64), .v i64] → Option (Ress [i64])) (g17 : Args [.v i64, .v i64, .v mat] → Option (Ress [(.slice 2 i64), i64])) (F : Nat) (x : Args [.v i64, .v i64, .v mat]) : fnK TT (ct3 g16 g15 g18 g19 g20 g17 ) kp3 [.bool] [] (bodyOf Try.f3) [.tmp 6] [.v i64, .v i64, .v mat] false false x = fn3 g16 g15 g18 g19 g20 g17 F x := by
  obtain ⟨x0, x1, x2, _⟩ := x
  kernel_rfl
theorem ok3 (g16 : Args [.v mat] → Option (Ress [mat])) (g15 : Args [.v i64, .v i64, .v mat] → Option (Ress [(.slice 2 i64), i64])) (g18 : Args [.v (.slice 2 i64), .v (.slice 2 i64)] → Option (Ress [.bool])) (g19 : Args [.v (.slice 2 i64), .v i64] → Option (Ress [(.slice 2 i64), i64])) (g20 : Args [.v (.slice 2 i64), .v i64] → Option (Ress [i64])) (g17 : Args [.v i64, .v i64, .v mat] → Option (Ress [(.slice 2 i64), i64])) (hK : KOK Try.prog (ct3 g16 g15 g18 g19 g20 g17 )) (cf : Args [.v i64, .v i64, .v mat] → Option R3) (h : ∀ x y, cf x = some y → ∃ F, fn3 g16 g15 g18 g19 g20 g17 F x = some y) : KOne Try.prog 3 ⟨[.v i64, .v i64, .v mat], [.bool], false, false, false, cf⟩ :=
  fn_one rfl (c := bodyOf Try.f3) mixed tt_ok hK Try.func3 (by kernel_rfl) (by kernel_rfl) (Nat.le_of_ble_eq_true (by kernel_rfl)) (by decide) fun x y hxy => by
    obtain ⟨F, hF⟩ := h x y hxy
    exact ⟨[], LTOK_by (l := []) (by kernel_rfl) trivial, (ev3 g16 g15 g18 g19 g20 g17 F x).trans hF⟩
end Go.Proofs.YtkoifikjfnbcpaaEv
