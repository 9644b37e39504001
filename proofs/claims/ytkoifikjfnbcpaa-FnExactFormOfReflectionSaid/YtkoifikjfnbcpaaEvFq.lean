/- What functions of the program come to, printed by a program of this work: loops by their steps, calls by what is known of them; each text is checked by the kernel. No condition. -/
import Derived.Test.YtkoifikjfnbcpaaEvFs
set_option linter.unusedVariables false
namespace Go.Proofs.YtkoifikjfnbcpaaEv
open Go Go.RowKit
/-! spec.l06Code -/
abbrev R107 : Type := Ress [i64]
abbrev G107 : Type := Args [.v i64, .v i64, .v mat] → Option R107
abbrev kp107 : List (Nat × List Nat) := [(0, [5, 1, 0]), (1, [7, 5, 1, 0]), (3, [13]), (4, [6]), (2, [6]), (5, [6])]
abbrev ct107 (g58 : G58) (g94 : G94) : CTab := [(58, ⟨[.v i64, .v i64, .v mat], [.bool], false, false, 0, g58⟩), (94, ⟨[.v i64, .v i64, .v mat], [.bool], false, false, 0, g94⟩)]
abbrev kr107 : Env → Option R107 := endK TT [.tmp 6] [i64] false false
def fn107 (g58 : G58) (g94 : G94) (F : Nat) (x : Args [.v i64, .v i64, .v mat]) : Option R107 :=
  match x with
  | (x0, x1, x2, _) => (match (g58 (x0, (x1, (x2, ())))) with | some r7 => (bif (!r7.1) then (some ((2 : Int), ())) else (match (g94 (x0, (x1, (x2, ())))) with | some r9 => (bif (!r9.1) then (some ((5 : Int), ())) else (some ((0 : Int), ()))) | none => none)) | none => none)
theorem ev107 (g58 : G58) (g94 : G94) (F : Nat) (x : Args [.v i64, .v i64, .v mat]) : fnK TT (ct107 g58 g94 ) kp107 [i64] [] (bodyOf Try.f107) [.tmp 6] [.v i64, .v i64, .v mat] false false x = fn107 g58 g94 F x := by
  obtain ⟨x0, x1, x2, _⟩ := x
  kernel_rfl
theorem ok107 (g58 : G58) (g94 : G94) (hK : KOK Try.prog (ct107 g58 g94 )) (cf : G107) (h : ∀ x y, cf x = some y → ∃ F, fn107 g58 g94 F x = some y) : KOne Try.prog 107 ⟨[.v i64, .v i64, .v mat], [i64], false, false, 0, cf⟩ :=
  fn_one rfl (c := bodyOf Try.f107) mixed tt_ok hK Try.func107 (by kernel_rfl) (by kernel_rfl) (Nat.le_of_ble_eq_true (by kernel_rfl)) (by decide) fun x y hxy => by
    obtain ⟨F, hF⟩ := h x y hxy
    exact ⟨[], LTOK_by (l := []) (by kernel_rfl) trivial, (ev107 g58 g94 F x).trans hF⟩
/-! spec.RootOfReflection -/
abbrev R46 : Type := Ress [(.slice 2 i64), i64]
abbrev G46 : Type := Args [.v i64, .v i64, .v mat] → Option R46
abbrev kp46 : List (Nat × List Nat) := [(0, [5, 1, 0]), (1, [5, 1, 0, 8]), (2, [14, 5, 1, 0, 8]), (3, [7, 6]), (4, [7, 6])]
abbrev ct46 (g107 : G107) (g108 : G108) (g109 : G109) : CTab := [(107, ⟨[.v i64, .v i64, .v mat], [i64], false, false, 0, g107⟩), (108, ⟨[.v i64, .v (.slice 24 (.slice 2 i64))], [(.slice 24 (.slice 2 i64))], false, false, 0, g108⟩), (109, ⟨[.v i64, .v i64, .v mat], [(.slice 24 (.slice 2 i64))], true, false, 0, g109⟩)]
abbrev kr46 : Env → Option R46 := endK TT [.tmp 6, .tmp 7] [(.slice 2 i64), i64] false true
def fn46 (g107 : G107) (g108 : G108) (g109 : G109) (F : Nat) (x : Args [.v i64, .v i64, .v mat]) : Option R46 :=
  match x with
  | (x0, x1, x2, _) => (match (g107 (x0, (x1, (x2, ())))) with | some r8 => (bif (!decide (r8.1 = (0 : Int))) then (some ([], (r8.1, ()))) else (match (g109 (x0, (x1, (x2, ())))) with | some r11 => (match (g108 (x0, (r11.1, ()))) with | some r12 => (bif ib (0 : Int) (Int.ofNat (List.length r12.1)) then (bif (((!false) || false) && ((!true) || ((!(List.isEmpty (List.getD r12.1 (tn (0 : Int)) []))) && true))) then (some ((List.getD r12.1 (tn (0 : Int)) []), ((0 : Int), ()))) else none) else none) | none => none) | none => none)) | none => none)
theorem ev46 (g107 : G107) (g108 : G108) (g109 : G109) (F : Nat) (x : Args [.v i64, .v i64, .v mat]) : fnK TT (ct46 g107 g108 g109 ) kp46 [(.slice 2 i64), i64] [] (bodyOf Try.f46) [.tmp 6, .tmp 7] [.v i64, .v i64, .v mat] false true x = fn46 g107 g108 g109 F x := by
  obtain ⟨x0, x1, x2, _⟩ := x
  kernel_rfl
theorem ok46 (g107 : G107) (g108 : G108) (g109 : G109) (hK : KOK Try.prog (ct46 g107 g108 g109 )) (cf : G46) (h : ∀ x y, cf x = some y → ∃ F, fn46 g107 g108 g109 F x = some y) : KOne Try.prog 46 ⟨[.v i64, .v i64, .v mat], [(.slice 2 i64), i64], false, true, 0, cf⟩ :=
  fn_one rfl (c := bodyOf Try.f46) mixed tt_ok hK Try.func46 (by kernel_rfl) (by kernel_rfl) (Nat.le_of_ble_eq_true (by kernel_rfl)) (by decide) fun x y hxy => by
    obtain ⟨F, hF⟩ := h x y hxy
    exact ⟨[], LTOK_by (l := []) (by kernel_rfl) trivial, (ev46 g107 g108 g109 F x).trans hF⟩
/-! impl.RootOfReflection -/
abbrev R47 : Type := Ress [(.slice 2 i64), i64]
abbrev G47 : Type := Args [.v i64, .v i64, .v mat] → Option R47
abbrev kp47 : List (Nat × List Nat) := [(0, [5, 1, 0]), (1, [14, 5, 1, 0]), (2, [7, 6]), (3, [8]), (4, [20, 8]), (5, [7, 6]), (6, [7, 6])]
abbrev ct47 (g61 : G61) (g95 : G95) : CTab := [(61, ⟨[.v i64, .v i64, .v (.slice 27 mat)], [.bool], false, false, 0, g61⟩), (95, ⟨[.v i64, .v i64, .v mat], [(.slice 2 i64)], true, true, 0, g95⟩)]
abbrev kr47 : Env → Option R47 := endK TT [.tmp 6, .tmp 7] [(.slice 2 i64), i64] true true
def fn47 (g61 : G61) (g95 : G95) (F : Nat) (x : Args [.v i64, .v i64, .v mat]) : Option R47 :=
  match x with
  | (x0, x1, x2, _) => (match (g61 (x0, (x1, ((x2 :: []), ())))) with | some r7 => (bif (!r7.1) then (some ([], ((2 : Int), ()))) else (match (g95 (x0, (x1, (x2, ())))) with | some r9 => (bif (List.isEmpty r9.1) then (some ([], ((5 : Int), ()))) else (some (r9.1, ((0 : Int), ())))) | none => none)) | none => none)
theorem ev47 (g61 : G61) (g95 : G95) (F : Nat) (x : Args [.v i64, .v i64, .v mat]) : fnK TT (ct47 g61 g95 ) kp47 [(.slice 2 i64), i64] [] (bodyOf Try.f47) [.tmp 6, .tmp 7] [.v i64, .v i64, .v mat] true true x = fn47 g61 g95 F x := by
  obtain ⟨x0, x1, x2, _⟩ := x
  kernel_rfl
theorem ok47 (g61 : G61) (g95 : G95) (hK : KOK Try.prog (ct47 g61 g95 )) (cf : G47) (h : ∀ x y, cf x = some y → ∃ F, fn47 g61 g95 F x = some y) : KOne Try.prog 47 ⟨[.v i64, .v i64, .v mat], [(.slice 2 i64), i64], true, true, 0, cf⟩ :=
  fn_one rfl (c := bodyOf Try.f47) mixed tt_ok hK Try.func47 (by kernel_rfl) (by kernel_rfl) (Nat.le_of_ble_eq_true (by kernel_rfl)) (by decide) fun x y hxy => by
    obtain ⟨F, hF⟩ := h x y hxy
    exact ⟨[], LTOK_by (l := []) (by kernel_rfl) trivial, (ev47 g61 g95 F x).trans hF⟩
end Go.Proofs.YtkoifikjfnbcpaaEv
