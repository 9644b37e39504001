/- What functions of the program come to, printed by a program of this work: loops by their steps, calls by what is known of them; each text is checked by the kernel. No condition. -/
import Derived.Test.YtkoifikjfnbcpaaEvFa
set_option linter.unusedVariables false
namespace Go.Proofs.YtkoifikjfnbcpaaEv
open Go Go.RowKit
/-! laws.toInt64S -/
abbrev R37 : Type := Ress [(.slice 2 i64)]
abbrev G37 : Type := Args [.v (.slice 2 i64)] → Option R37
abbrev kp37 : List (Nat × List Nat) := [(0, [0]), (1, [0, 3]), (2, [4, 0, 3]), (3, [11, 4, 0, 3]), (5, [4, 0, 3]), (4, [4, 0, 3]), (6, [2])]
abbrev ct37 : CTab := []
abbrev kr37 : Env → Option R37 := endK TT [.tmp 2] [(.slice 2 i64)] true false
abbrev sh37_3 : Shape := [(0, .val false [.fz (.slice 2 i64) 0 true]), (3, vr 2 i64 49 false), (4, vv i64)]
def st37_3 (F : Nat) (s : ShVal sh37_3) (k kx : ShVal sh37_3 → Option R37) : Option R37 :=
  match s with
  | ((t0, _), (t3, _), (t4, _), _) => (bif decide ((List.length t0) ≤ 9223372036854775807) then (bif decide (t4 < (Int.ofNat (List.length t0))) then (bif ib t4 (Int.ofNat (List.length t0)) then (bif ib t4 (Int.ofNat (List.length t3)) then k ((t0, ()), (((List.set t3 (tn t4) (List.getD t0 (tn t4) (0 : Int))), ()), (((w6 (t4 + (1 : Int))), ()), ()))) else none) else none) else kx ((t0, ()), ((t3, ()), ((t4, ()), ())))) else none)
def ru37_3 (F : Nat) (s : ShVal sh37_3) (kx : ShVal sh37_3 → Option R37) : Option R37 := iter (fun s k => st37_3 F s k kx) F s
abbrev ls37_3 (F : Nat) : LS R37 := ⟨sh37_3, 0, ru37_3 F⟩
def fn37 (F : Nat) (x : Args [.v (.slice 2 i64)]) : Option R37 :=
  match x with
  | (x0, _) => (bif decide ((List.length x0) ≤ 9223372036854775807) then (bif ((decide ((0 : Int) ≤ (Int.ofNat (List.length x0))) && decide ((Int.ofNat (List.length x0)) ≤ (1099511627776 : Int))) && decide ((Int.ofNat (List.length x0)) = (Int.ofNat (List.length x0)))) then (ru37_3 F ((x0, ()), (((List.replicate (tn (Int.ofNat (List.length x0))) (0 : Int)), ()), (((0 : Int), ()), ()))) (fun s' => match s' with | ((t0, _), (t3, _), (t4, _), _) => (some (t3, ())))) else none) else none)
theorem ev37_3 (F : Nat) (s : ShVal sh37_3) (k kx : ShVal sh37_3 → Option R37) : evL TT (ct37 ) kp37 [] (loopOf Try.f37 3) (envOf sh37_3 s) (fitK sh37_3 k) (fun j e => bif Nat.beq j 0 then fitK sh37_3 kx e else none) kr37 = st37_3 F s k kx := by
  obtain ⟨⟨t0, _⟩, ⟨t3, _⟩, ⟨t4, _⟩, _⟩ := s
  kernel_rfl
theorem ok37_3 (F : Nat) (hK : KOK Try.prog (ct37 )) : LSOK Try.prog ⟨22, false, undef⟩ (ls37_3 F) (loopOf Try.f37 3) kr37 :=
  loop_ok (st37_3 F) mixed tt_ok hK (by kernel_rfl) (LTOK_by (l := []) (by kernel_rfl) trivial) (ev37_3 F)
theorem ev37 (F : Nat) (x : Args [.v (.slice 2 i64)]) : fnK TT (ct37 ) kp37 [(.slice 2 i64)] [(3, ls37_3 F)] (bodyOf Try.f37) [.tmp 2] [.v (.slice 2 i64)] true false x = fn37 F x := by
  obtain ⟨x0, _⟩ := x
  kernel_rfl
theorem ok37 (hK : KOK Try.prog (ct37 )) (cf : G37) (h : ∀ x y, cf x = some y → ∃ F, fn37 F x = some y) : KOne Try.prog 37 ⟨[.v (.slice 2 i64)], [(.slice 2 i64)], true, false, 0, cf⟩ :=
  fn_one rfl (c := bodyOf Try.f37) mixed tt_ok hK Try.func37 (by kernel_rfl) (by kernel_rfl) (Nat.le_of_ble_eq_true (by kernel_rfl)) (by decide) fun x y hxy => by
    obtain ⟨F, hF⟩ := h x y hxy
    exact ⟨[(3, ls37_3 F)], LTOK_by (l := [loopOf Try.f37 3]) (by kernel_rfl) ⟨ls_at (by kernel_rfl) (ok37_3 F hK), trivial⟩, (ev37 F x).trans hF⟩
end Go.Proofs.YtkoifikjfnbcpaaEv
