/- What functions of the program come to, printed by a program of this work: loops by their steps, calls by what is known of them; each text is checked by the kernel. No condition. -/
import Derived.Test.YtkoifikjfnbcpaaEvFk
set_option linter.unusedVariables false
namespace Go.Proofs.YtkoifikjfnbcpaaEv
open Go Go.RowKit
/-! laws.eqInt64SS -/
abbrev R25 : Type := Ress [.bool]
abbrev G25 : Type := Args [.v (.slice 24 (.slice 2 i64)), .v (.slice 24 (.slice 2 i64))] → Option R25
abbrev kp25 : List (Nat × List Nat) := [(0, [0, 1]), (1, [10, 0, 1]), (2, [4]), (3, [5, 1, 0]), (4, [14, 0, 1, 5]), (6, [26, 0, 1, 5]), (7, [4]), (5, [5, 1, 0]), (8, [4])]
abbrev ct25 (g18 : G18) : CTab := [(18, ⟨[.v (.slice 2 i64), .v (.slice 2 i64)], [.bool], false, false, 0, g18⟩)]
abbrev kr25 : Env → Option R25 := endK TT [.tmp 4] [.bool] false false
abbrev sh25_4 : Shape := [(0, .val false [.fz (.slice 24 (.slice 2 i64)) 0 true]), (1, .val false [.fz (.slice 24 (.slice 2 i64)) 0 true]), (5, vv i64)]
def st25_4 (g18 : G18) (F : Nat) (s : ShVal sh25_4) (k kx : ShVal sh25_4 → Option R25) : Option R25 :=
  match s with
  | ((t0, _), (t1, _), (t5, _), _) => (bif decide ((List.length t0) ≤ 9223372036854775807) then (bif decide (t5 < (Int.ofNat (List.length t0))) then (bif ib t5 (Int.ofNat (List.length t0)) then (bif ib t5 (Int.ofNat (List.length t1)) then (match (g18 ((List.getD t0 (tn t5) []), ((List.getD t1 (tn t5) []), ()))) with | some r11 => (bif (!r11.1) then (some (false, ())) else k ((t0, ()), ((t1, ()), (((w6 (t5 + (1 : Int))), ()), ())))) | none => none) else none) else none) else kx ((t0, ()), ((t1, ()), ((t5, ()), ())))) else none)
def ru25_4 (g18 : G18) (F : Nat) (s : ShVal sh25_4) (kx : ShVal sh25_4 → Option R25) : Option R25 := iter (fun s k => st25_4 g18 F s k kx) F s
abbrev ls25_4 (g18 : G18) (F : Nat) : LS R25 := ⟨sh25_4, 0, ru25_4 g18 F⟩
def fn25 (g18 : G18) (F : Nat) (x : Args [.v (.slice 24 (.slice 2 i64)), .v (.slice 24 (.slice 2 i64))]) : Option R25 :=
  match x with
  | (x0, x1, _) => (bif decide ((List.length x0) ≤ 9223372036854775807) then (bif decide ((List.length x1) ≤ 9223372036854775807) then (bif (!decide ((Int.ofNat (List.length x0)) = (Int.ofNat (List.length x1)))) then (some (false, ())) else (ru25_4 g18 F ((x0, ()), ((x1, ()), (((0 : Int), ()), ()))) (fun s' => match s' with | ((t0, _), (t1, _), (t5, _), _) => (some (true, ()))))) else none) else none)
theorem ev25_4 (g18 : G18) (F : Nat) (s : ShVal sh25_4) (k kx : ShVal sh25_4 → Option R25) : evL TT (ct25 g18 ) kp25 [] (loopOf Try.f25 4) (envOf sh25_4 s) (fitK sh25_4 k) (fun j e => bif Nat.beq j 0 then fitK sh25_4 kx e else none) kr25 = st25_4 g18 F s k kx := by
  obtain ⟨⟨t0, _⟩, ⟨t1, _⟩, ⟨t5, _⟩, _⟩ := s
  kernel_rfl
theorem ok25_4 (g18 : G18) (F : Nat) (hK : KOK Try.prog (ct25 g18 )) : LSOK Try.prog ⟨27, false, undef⟩ (ls25_4 g18 F) (loopOf Try.f25 4) kr25 :=
  loop_ok (st25_4 g18 F) mixed tt_ok hK (by kernel_rfl) (LTOK_by (l := []) (by kernel_rfl) trivial) (ev25_4 g18 F)
theorem ev25 (g18 : G18) (F : Nat) (x : Args [.v (.slice 24 (.slice 2 i64)), .v (.slice 24 (.slice 2 i64))]) : fnK TT (ct25 g18 ) kp25 [.bool] [(4, ls25_4 g18 F)] (bodyOf Try.f25) [.tmp 4] [.v (.slice 24 (.slice 2 i64)), .v (.slice 24 (.slice 2 i64))] false false x = fn25 g18 F x := by
  obtain ⟨x0, x1, _⟩ := x
  kernel_rfl
theorem ok25 (g18 : G18) (hK : KOK Try.prog (ct25 g18 )) (cf : G25) (h : ∀ x y, cf x = some y → ∃ F, fn25 g18 F x = some y) : KOne Try.prog 25 ⟨[.v (.slice 24 (.slice 2 i64)), .v (.slice 24 (.slice 2 i64))], [.bool], false, false, 0, cf⟩ :=
  fn_one rfl (c := bodyOf Try.f25) mixed tt_ok hK Try.func25 (by kernel_rfl) (by kernel_rfl) (Nat.le_of_ble_eq_true (by kernel_rfl)) (by decide) fun x y hxy => by
    obtain ⟨F, hF⟩ := h x y hxy
    exact ⟨[(4, ls25_4 g18 F)], LTOK_by (l := [loopOf Try.f25 4]) (by kernel_rfl) ⟨ls_at (by kernel_rfl) (ok25_4 g18 F hK), trivial⟩, (ev25 g18 F x).trans hF⟩
/-! laws.heldInt64SS -/
abbrev R29 : Type := Ress [i64]
abbrev G29 : Type := Args [.v (.slice 24 (.slice 2 i64)), .v i64] → Option R29
abbrev kp29 : List (Nat × List Nat) := [(0, [1, 0]), (1, [5, 1, 0]), (2, [9, 1, 0, 5]), (4, [0, 1, 5]), (5, [19, 0, 1, 5]), (6, [4]), (3, [5, 1, 0]), (7, [4])]
abbrev ct29 (g20 : G20) : CTab := [(20, ⟨[.v (.slice 2 i64), .v i64], [i64], false, false, 0, g20⟩)]
abbrev kr29 : Env → Option R29 := endK TT [.tmp 4] [i64] false false
abbrev sh29_2 : Shape := [(0, .val false [.fz (.slice 24 (.slice 2 i64)) 0 true]), (1, vv i64), (5, vv i64)]
def st29_2 (g20 : G20) (F : Nat) (s : ShVal sh29_2) (k kx : ShVal sh29_2 → Option R29) : Option R29 :=
  match s with
  | ((t0, _), (t1, _), (t5, _), _) => (bif decide ((List.length t0) ≤ 9223372036854775807) then (bif decide (t5 < (Int.ofNat (List.length t0))) then (bif ib t5 (Int.ofNat (List.length t0)) then (match (g20 ((List.getD t0 (tn t5) []), (t1, ()))) with | some r10 => (bif decide (r10.1 < (0 : Int)) then (some ((-(1 : Int)), ())) else k ((t0, ()), ((r10.1, ()), (((w6 (t5 + (1 : Int))), ()), ())))) | none => none) else none) else kx ((t0, ()), ((t1, ()), ((t5, ()), ())))) else none)
def ru29_2 (g20 : G20) (F : Nat) (s : ShVal sh29_2) (kx : ShVal sh29_2 → Option R29) : Option R29 := iter (fun s k => st29_2 g20 F s k kx) F s
abbrev ls29_2 (g20 : G20) (F : Nat) : LS R29 := ⟨sh29_2, 0, ru29_2 g20 F⟩
def fn29 (g20 : G20) (F : Nat) (x : Args [.v (.slice 24 (.slice 2 i64)), .v i64]) : Option R29 :=
  match x with
  | (x0, x1, _) => (ru29_2 g20 F ((x0, ()), ((x1, ()), (((0 : Int), ()), ()))) (fun s' => match s' with | ((t0, _), (t1, _), (t5, _), _) => (some (t1, ()))))
theorem ev29_2 (g20 : G20) (F : Nat) (s : ShVal sh29_2) (k kx : ShVal sh29_2 → Option R29) : evL TT (ct29 g20 ) kp29 [] (loopOf Try.f29 2) (envOf sh29_2 s) (fitK sh29_2 k) (fun j e => bif Nat.beq j 0 then fitK sh29_2 kx e else none) kr29 = st29_2 g20 F s k kx := by
  obtain ⟨⟨t0, _⟩, ⟨t1, _⟩, ⟨t5, _⟩, _⟩ := s
  kernel_rfl
theorem ok29_2 (g20 : G20) (F : Nat) (hK : KOK Try.prog (ct29 g20 )) : LSOK Try.prog ⟨21, false, undef⟩ (ls29_2 g20 F) (loopOf Try.f29 2) kr29 :=
  loop_ok (st29_2 g20 F) mixed tt_ok hK (by kernel_rfl) (LTOK_by (l := []) (by kernel_rfl) trivial) (ev29_2 g20 F)
theorem ev29 (g20 : G20) (F : Nat) (x : Args [.v (.slice 24 (.slice 2 i64)), .v i64]) : fnK TT (ct29 g20 ) kp29 [i64] [(2, ls29_2 g20 F)] (bodyOf Try.f29) [.tmp 4] [.v (.slice 24 (.slice 2 i64)), .v i64] false false x = fn29 g20 F x := by
  obtain ⟨x0, x1, _⟩ := x
  kernel_rfl
theorem ok29 (g20 : G20) (hK : KOK Try.prog (ct29 g20 )) (cf : G29) (h : ∀ x y, cf x = some y → ∃ F, fn29 g20 F x = some y) : KOne Try.prog 29 ⟨[.v (.slice 24 (.slice 2 i64)), .v i64], [i64], false, false, 0, cf⟩ :=
  fn_one rfl (c := bodyOf Try.f29) mixed tt_ok hK Try.func29 (by kernel_rfl) (by kernel_rfl) (Nat.le_of_ble_eq_true (by kernel_rfl)) (by decide) fun x y hxy => by
    obtain ⟨F, hF⟩ := h x y hxy
    exact ⟨[(2, ls29_2 g20 F)], LTOK_by (l := [loopOf Try.f29 2]) (by kernel_rfl) ⟨ls_at (by kernel_rfl) (ok29_2 g20 F hK), trivial⟩, (ev29 g20 F x).trans hF⟩
/-! laws.markInt64SS: by hand -/
abbrev R28 : Type := Ress [(.slice 24 (.slice 2 i64)), i64]
abbrev G28 : Type := Args [.v (.slice 24 (.slice 2 i64)), .v i64] → Option R28

end Go.Proofs.YtkoifikjfnbcpaaEv
