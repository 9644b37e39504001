/- What functions of the program come to, printed by a program of this work: loops by their steps, calls by what is known of them; each text is checked by the kernel. No condition. -/
import Derived.Test.YtkoifikjfnbcpaaEvTst
set_option linter.unusedVariables false
namespace Go.Proofs.YtkoifikjfnbcpaaEv
open Go Go.RowKit
/-! (impl.Exps).degree -/
abbrev R159 : Type := Ress [i64]
abbrev G159 : Type := Args [.v ex] → Option R159
abbrev kp159 : List (Nat × List Nat) := [(0, [1]), (1, [2])]
abbrev ct159 : CTab := []
abbrev kr159 : Env → Option R159 := endK TT [.tmp 2] [i64] false false
def fn159 (F : Nat) (x : Args [.v ex]) : Option R159 :=
  match x with
  | (x0, _) => (some ((w6 ((w6 ((w6 (tget (0 : Int) 3 x0 (tn (0 : Int)))) + (w6 (tget (0 : Int) 3 x0 (tn (1 : Int)))))) + (w6 (tget (0 : Int) 3 x0 (tn (2 : Int)))))), ()))
theorem ev159 (F : Nat) (x : Args [.v ex]) : fnK TT (ct159 ) kp159 [i64] [] (bodyOf Try.f159) [.tmp 2] [.v ex] false false x = fn159 F x := by
  obtain ⟨x0, _⟩ := x
  kernel_rfl
theorem ok159 (hK : KOK Try.prog (ct159 )) (cf : G159) (h : ∀ x y, cf x = some y → ∃ F, fn159 F x = some y) : KOne Try.prog 159 ⟨[.v ex], [i64], false, false, 0, cf⟩ :=
  fn_one rfl (c := bodyOf Try.f159) mixed tt_ok hK Try.func159 (by kernel_rfl) (by kernel_rfl) (Nat.le_of_ble_eq_true (by kernel_rfl)) (by decide) fun x y hxy => by
    obtain ⟨F, hF⟩ := h x y hxy
    exact ⟨[], LTOK_by (l := []) (by kernel_rfl) trivial, (ev159 F x).trans hF⟩
/-! impl.compareExps -/
abbrev R151 : Type := Ress [i64]
abbrev G151 : Type := Args [.v ex, .v ex] → Option R151
abbrev kp151 : List (Nat × List Nat) := [(0, [2, 3]), (1, [2, 3, 5]), (2, [12, 2, 3, 5]), (3, [4]), (4, [18, 3, 2]), (5, [4]), (6, [4])]
abbrev ct151 (g159 : G159) : CTab := [(159, ⟨[.v ex], [i64], false, false, 0, g159⟩)]
abbrev kr151 : Env → Option R151 := endK TT [.tmp 4] [i64] false false
def fn151 (g159 : G159) (F : Nat) (x : Args [.v ex, .v ex]) : Option R151 :=
  match x with
  | (x0, x1, _) => (match (g159 (x0, ())) with | some r5 => (match (g159 (x1, ())) with | some r6 => (bif (!decide ((w6 (r5.1 - r6.1)) = (0 : Int))) then (some ((w6 (r5.1 - r6.1)), ())) else (bif (!decide ((tget (0 : Int) 3 x0 (tn (0 : Int))) = (tget (0 : Int) 3 x1 (tn (0 : Int))))) then (some ((w6 ((w6 (tget (0 : Int) 3 x1 (tn (0 : Int)))) - (w6 (tget (0 : Int) 3 x0 (tn (0 : Int)))))), ())) else (some ((w6 ((w6 (tget (0 : Int) 3 x1 (tn (1 : Int)))) - (w6 (tget (0 : Int) 3 x0 (tn (1 : Int)))))), ())))) | none => none) | none => none)
theorem ev151 (g159 : G159) (F : Nat) (x : Args [.v ex, .v ex]) : fnK TT (ct151 g159 ) kp151 [i64] [] (bodyOf Try.f151) [.tmp 4] [.v ex, .v ex] false false x = fn151 g159 F x := by
  obtain ⟨x0, x1, _⟩ := x
  kernel_rfl
theorem ok151 (g159 : G159) (hK : KOK Try.prog (ct151 g159 )) (cf : G151) (h : ∀ x y, cf x = some y → ∃ F, fn151 g159 F x = some y) : KOne Try.prog 151 ⟨[.v ex, .v ex], [i64], false, false, 0, cf⟩ :=
  fn_one rfl (c := bodyOf Try.f151) mixed tt_ok hK Try.func151 (by kernel_rfl) (by kernel_rfl) (Nat.le_of_ble_eq_true (by kernel_rfl)) (by decide) fun x y hxy => by
    obtain ⟨F, hF⟩ := h x y hxy
    exact ⟨[], LTOK_by (l := []) (by kernel_rfl) trivial, (ev151 g159 F x).trans hF⟩
/-! (impl.sum).poly$1 -/
abbrev R150 : Type := Ress [i64]
abbrev G150 : Type := Args [.v term, .v term] → Option R150
abbrev kp150 : List (Nat × List Nat) := [(0, [2, 3]), (1, [4])]
abbrev ct150 (g151 : G151) : CTab := [(151, ⟨[.v ex, .v ex], [i64], false, false, 0, g151⟩)]
abbrev kr150 : Env → Option R150 := endK TT [.tmp 4] [i64] false false
def fn150 (g151 : G151) (F : Nat) (x : Args [.v term, .v term]) : Option R150 :=
  match x with
  | (x0, x1, _) => (match (g151 (x0.1, (x1.1, ()))) with | some r5 => (some (r5.1, ())) | none => none)
theorem ev150 (g151 : G151) (F : Nat) (x : Args [.v term, .v term]) : fnK TT (ct150 g151 ) kp150 [i64] [] (bodyOf Try.f150) [.tmp 4] [.v term, .v term] false false x = fn150 g151 F x := by
  obtain ⟨x0, x1, _⟩ := x
  kernel_rfl
theorem ok150 (g151 : G151) (hK : KOK Try.prog (ct150 g151 )) (cf : G150) (h : ∀ x y, cf x = some y → ∃ F, fn150 g151 F x = some y) : KOne Try.prog 150 ⟨[.v term, .v term], [i64], false, false, 0, cf⟩ :=
  fn_one rfl (c := bodyOf Try.f150) mixed tt_ok hK Try.func150 (by kernel_rfl) (by kernel_rfl) (Nat.le_of_ble_eq_true (by kernel_rfl)) (by decide) fun x y hxy => by
    obtain ⟨F, hF⟩ := h x y hxy
    exact ⟨[], LTOK_by (l := []) (by kernel_rfl) trivial, (ev150 g151 F x).trans hF⟩
end Go.Proofs.YtkoifikjfnbcpaaEv
