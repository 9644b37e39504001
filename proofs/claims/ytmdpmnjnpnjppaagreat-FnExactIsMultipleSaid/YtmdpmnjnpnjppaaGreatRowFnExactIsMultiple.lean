/- The statement of FnExactIsMultiple: whatever the arguments, the law returns true and leaves its arguments as they were. No condition. -/
import Derived.Test.YtmdpmnjnpnjppaaGreatEA3006
import Derived.Test.YtmdpmnjnpnjppaaGreatRows
import Derived.WalkKit
import Derived.ProofKit
import Derived.OpenShut
import Derived.ShutString
import Derived.ChangeOld
import Derived.Below
import Derived.Carry
import Derived.SizedLaws
namespace Go.Proofs.YtmdpmnjnpnjppaaGreat.fnExactIsMultiple
open Go.ChangeShapes Go.WideShapes Go.ChangeAt Go.RowKit Go.Proofs.YtmdpmnjnpnjppaaGreatEv
set_option linter.unusedVariables false
theorem own : ownKnob Tryz.prog.godebug = none := by kernel_rfl
theorem laidOut : laidOutB Tryz.prog = true := by kernel_rfl
set_option maxRecDepth 100000 in
theorem lifted (os : Os) (started : os.Started) (H : Type) (enc : TypeId × Value → H) :
    ReturnsInHanded {} Tryz.checked os 3 .any (Rows.fnExactIsMultipleSpec.pre6 enc Tryz.prog Tryz.f3 Rows.fnExactIsMultipleRow.domain false) (Rows.fnExactIsMultipleSpec.post enc Tryz.prog Tryz.f3 false true false false) := by
  refine returnsInHanded_of_change_sized (C := Tryz.checked) own started (by kernel_rfl) Tryz.func3
    (ChangeSpec.witness6 (enc := enc) (C := Tryz.checked) false ⟨#[], #[.slice none 0 0, .agg #[.int .i64 0, .int .i64 0, .slice none 0 0]], []⟩ 8 (by kernel_rfl) (by kernel_rfl) (by kernel_rfl) (by kernel_rfl)) ?_
  intro W base args ds gs before hval0 hW hcnd hsz0 _
  have hval : ∀ (j : Nat) t v, Tryz.f3.params[j]? = some t → args[j]? = some v → Value.okWide Tryz.prog W .any base t v := hval0
  have hW' := hW
  obtain ⟨p, q, hA0, hV, rfl, hfz, hnd⟩ := hW
  have hA : DataW.TrodAll enc Tryz.prog W 0 (fun _ => true) true Tryz.f3.params.toList args.toList ds p := hA0
  rw [Tryz.params3] at hA hval
  obtain ⟨v0, vs0, d0, ds0, p0, q0, hargs, rfl, rfl, h0, r0⟩ := trodAll_cons hA
  obtain ⟨v1, vs1, d1, ds1, p1, q1, rfl, rfl, rfl, h1, r1⟩ := trodAll_cons r0
  obtain ⟨rfl, rfl, rfl⟩ := trodAll_nil r1
  obtain rfl : args = #[v0, v1] := by cases args; simp_all
  obtain ⟨rfl, rfl⟩ := trodVars_none hV
  have k0 := h0
  have lt0 : ∀ x ∈ p0, x.block < W.heap.size := by obtain ⟨m, hm⟩ := k0; exact DataW.trod_lt m _ _ _ hm
  obtain ⟨y0, bb0, o0, g0⟩ := open_val (ty := .slice 25 lpoly) tt_ok (by kernel_rfl) (hval 0 22 v0 rfl rfl) (fun _ => rfl) h0
  have k1 := h1
  have lt1 : ∀ x ∈ p1, x.block < W.heap.size := by obtain ⟨m, hm⟩ := k1; exact DataW.trod_lt m _ _ _ hm
  obtain ⟨y1, bb1, o1, g1⟩ := open_val (ty := lpoly) tt_ok (by kernel_rfl) (hval 1 25 v1 rfl rfl) (fun _ => rfl) h1
  clear hA0 hval0 hsz0 hcnd
  have hx : okA [.v (.slice 25 lpoly), .v lpoly] (y0, y1, ()) = true := by simp only [okA, g0, g1, Bool.and_self]
  refine (law300_one.ok rfl (y0, y1, ()) (true, ()) (by show (bif okA _ _ then _ else _) = _; rw [hx]; rfl) W [v0, v1] _ ⟨_, _, _, _, rfl, rfl, o0, ⟨_, _, _, _, rfl, rfl, o1, ⟨rfl, rfl⟩⟩⟩).mono fun e W' ⟨rv, bs, he, hres, bel, _, _, _⟩ => ?_
  obtain ⟨v, r, b1, b2, rfl, ⟨ho, _, hc⟩, _, hr, _⟩ := hres
  obtain ⟨rfl, _⟩ := hr
  have hv : v = .bool true := by
    have c1 := hc rfl
    have c2 := ho.1
    rw [c1] at c2
    simpa using c2
  subst hv
  subst he
  exact ⟨_, rfl, _, _, _, [], _, [], hW', trodAll_mk1 (shut_bool Tryz.underlying4 _), (trodAll_cons_mk (Below.trod laidOut (by kernel_rfl) (of_decide_eq_true (by kernel_rfl)) k0 bel lt0) (trodAll_cons_mk (Below.trod laidOut (by kernel_rfl) (of_decide_eq_true (by kernel_rfl)) k1 bel lt1) trodAll_mk0)), rfl, bel.frame _, fun h => by cases h⟩
theorem wordsSigns_ne : ∀ l : List Char, wordsSigns l ≠ [] := fun l => by
  unfold wordsSigns
  split
  · simp
  · simp
  · split <;> simp
theorem wordsSigns_cons {c : Char} (h : c ≠ ' ') (l : List Char) : wordsSigns (c :: l) = match wordsSigns l with | w :: ws => (c :: w) :: ws | [] => [[c]] := by
  rw [wordsSigns.eq_def]
  split
  · rename_i q; cases q
  · rename_i q; injection q with q1 q2; exact absurd q1 h
  · rename_i q2; injection q2 with q2 q3; subst q2; subst q3; rfl
theorem wordsSigns_app (a b : List Char) : wordsSigns (a ++ ' ' :: b) = wordsSigns a ++ wordsSigns b := by
  induction a with
  | nil => rfl
  | cons c r ih =>
    by_cases h : c = ' '
    · subst h
      show [] :: wordsSigns (r ++ ' ' :: b) = ([] :: wordsSigns r) ++ wordsSigns b
      rw [ih]; rfl
    · rw [List.cons_append, wordsSigns_cons h, wordsSigns_cons h, ih]
      cases hw : wordsSigns r with
      | nil => exact absurd hw (wordsSigns_ne r)
      | cons w ws => rfl
theorem make_of {P : Program} {r : List (List Char)} (h : behindMainWord (wordsSigns P.initOrder.toList) = "cut".toList :: r) : P.make = some .cut := by
  unfold Program.make
  rw [h]
  kernel_rfl
theorem lifts_of {P : Program} {r : List (List Char)} (h : behindMainWord (wordsSigns P.initOrder.toList) = "cut".toList :: r) : P.liftsFinal = false := by
  unfold Program.liftsFinal Program.headLifts
  rw [h]
  kernel_rfl
theorem enter_of {P : Program} {r : List (List Char)} (h : behindMainWord (wordsSigns P.initOrder.toList) = "cut".toList :: r) (h1 : P.laysLater = false) (h2 : P.bearsReflect = false) (h3 : P.doorFits [] = true) : P.mayEnter = true := by
  unfold Program.mayEnter
  rw [h, h1, h2]
  show ((false && _) || (false && _) || (true && true && true && true && P.doorFits [])) = true
  rw [h3]
  kernel_rfl
theorem signs : ∃ b : List Char, Tryz.pinned.checked.prog.initOrder.toList = ['h', 'a', 'r', 'n', 'e', 's', 's', ' ', '6', 'c', 'b', '9', '4', '6', 'c', '6', '0', '3', '1', '4', '3', '9', '7', '6', '4', '7', '8', '2', '8', '8', 'f', '6', '7', '2', 'f', '0', '8', 'c', '5', '2', '3', 'd', 'd', 'd', 'f', '8', '3', '1', 'e', '1', 'd', '4', 'b', '0', 'a', 'c', 'b', 'b', 'f', '8', 'c', 'b', 'e', '5', 'd', '9', 'c', 'b', '2', '3', 'e', '7', ' ', 'c', 'u', 't'] ++ ' ' :: b := by
  have e : ∀ l : List Char, Tryz.pinned.checked.prog.initOrder = String.ofList l → Tryz.pinned.checked.prog.initOrder.toList = l := fun l h => by rw [h, String.toList_ofList]
  exact ⟨_, e (_ ++ ' ' :: ['a', 't', ' ', 'l', 'o', 'o', 'p', '.', 'e', 'x', 'a', 'm', 'p', 'l', 'e', '/', 'g', '0', '1', '2', '8', '5', '/', 'l', 'a', 'w', 's', '.', 'F', 'n', 'E', 'x', 'a', 'c', 't', 'I', 's', 'M', 'u', 'l', 't', 'i', 'p', 'l', 'e', ' ', 'l', 'o', 'o', 'p', '.', 'e', 'x', 'a', 'm', 'p', 'l', 'e', '/', 'g', '0', '1', '2', '8', '5', '/', 'l', 'a', 'w', 's', '.', 'F', 'n', 'E', 'x', 'a', 'c', 't', 'R', 'e', 's', 't', 'N', 'u', 'm', 'b', 'e', 'r', ' ', 'l', 'o', 'o', 'p', '.', 'e', 'x', 'a', 'm', 'p', 'l', 'e', '/', 'g', '0', '1', '2', '8', '5', '/', 'l', 'a', 'w', 's', '.', 'F', 'n', 'E', 'x', 'a', 'c', 't', 'A', 'r', 'e', 'P', 'a', 'r', 'a', 'm', 'e', 't', 'e', 'r', 's', ' ', 'l', 'o', 'o', 'p', '.', 'e', 'x', 'a', 'm', 'p', 'l', 'e', '/', 'g', '0', '1', '2', '8', '5', '/', 'l', 'a', 'w', 's', '.', 'F', 'n', 'E', 'x', 'a', 'c', 't', 'I', 's', 'G', 'e', 'n', 'e', 'r', 'a', 't', 'e', 'd', ' ', 'l', 'o', 'o', 'p', '.', 'e', 'x', 'a', 'm', 'p', 'l', 'e', '/', 'g', '0', '1', '2', '8', '5', '/', 'l', 'a', 'w', 's', '.', 'F', 'n', 'E', 'x', 'a', 'c', 't', 'R', 'e', 's', 't', 'N', 'u', 'm', 'b', 'e', 'r', 's', ' ', 'l', 'o', 'o', 'p', '.', 'e', 'x', 'a', 'm', 'p', 'l', 'e', '/', 'g', '0', '1', '2', '8', '5', '/', 'l', 'a', 'w', 's', '.', 'F', 'n', 'E', 'x', 'a', 'c', 't', 'A', 'r', 'e', 'F', 'r', 'e', 'e', ' ', 'l', 'o', 'o', 'p', '.', 'e', 'x', 'a', 'm', 'p', 'l', 'e', '/', 'g', '0', '1', '2', '8', '5', '/', 'l', 'a', 'w', 's', '.', 'F', 'n', 'E', 'x', 'a', 'c', 't', 'G', 'e', 'n', 'e', 'r', 'a', 't', 'e', 'd', 'B', 'a', 's', 'i', 's', ' ', 'l', 'o', 'o', 'p', '.', 'e', 'x', 'a', 'm', 'p', 'l', 'e', '/', 'g', '0', '1', '2', '8', '5', '/', 'l', 'a', 'w', 's', '.', 'F', 'n', 'E', 'x', 'a', 'c', 't', 'M', 'i', 'r', 'r', 'o', 'r', 'P', 'r', 'o', 'd', 'u', 'c', 't', ' ', 'l', 'o', 'o', 'p', '.', 'e', 'x', 'a', 'm', 'p', 'l', 'e', '/', 'g', '0', '1', '2', '8', '5', '/', 'l', 'a', 'w', 's', '.', 'F', 'n', 'E', 'x', 'a', 'c', 't', 'I', 'n', 'v', 'a', 'r', 'i', 'a', 'n', 't', 'D', 'i', 'm', 'e', 'n', 's', 'i', 'o', 'n', ' ', 'l', 'o', 'o', 'p', '.', 'e', 'x', 'a', 'm', 'p', 'l', 'e', '/', 'g', '0', '1', '2', '8', '5', '/', 'l', 'a', 'w', 's', '.', 'F', 'n', 'E', 'x', 'a', 'c', 't', 'I', 'n', 'v', 'a', 'r', 'i', 'a', 'n', 't', 'N', 'u', 'm', 'b', 'e', 'r', 's', ' ', 'l', 'o', 'o', 'p', '.', 'e', 'x', 'a', 'm', 'p', 'l', 'e', '/', 'g', '0', '1', '2', '8', '5', '/', 'l', 'a', 'w', 's', '.', 'F', 'n', 'E', 'x', 'a', 'c', 't', 'H', 'i', 'l', 'b', 'e', 'r', 't', 'S', 'e', 'r', 'i', 'e', 's', ' ', 'l', 'o', 'o', 'p', '.', 'e', 'x', 'a', 'm', 'p', 'l', 'e', '/', 'g', '0', '1', '2', '8', '5', '/', 'l', 'a', 'w', 's', '.', 'F', 'n', 'E', 'x', 'a', 'c', 't', 'C', 'o', 'i', 'n', 'v', 'a', 'r', 'i', 'a', 'n', 't', 'N', 'u', 'm', 'b', 'e', 'r', ' ', 'l', 'o', 'o', 'p', '.', 'e', 'x', 'a', 'm', 'p', 'l', 'e', '/', 'g', '0', '1', '2', '8', '5', '/', 'l', 'a', 'w', 's', '.', 'F', 'n', 'E', 'x', 'a', 'c', 't', 'I', 'n', 'v', 'a', 'r', 'i', 'a', 'n', 't', 'B', 'a', 's', 'i', 's', ' ', 'l', 'o', 'o', 'p', '.', 'e', 'x', 'a', 'm', 'p', 'l', 'e', '/', 'g', '0', '1', '2', '8', '5', '/', 'l', 'a', 'w', 's', '.', 'F', 'n', 'E', 'x', 'a', 'c', 't', 'N', 'e', 'e', 'd', 'e', 'd', 'N', 'u', 'm', 'b', 'e', 'r', 's', ' ', 'l', 'o', 'o', 'p', '.', 'e', 'x', 'a', 'm', 'p', 'l', 'e', '/', 'g', '0', '1', '2', '8', '5', '/', 'l', 'a', 'w', 's', '.', 'F', 'n', 'E', 'x', 'a', 'c', 't', 'G', 'e', 'n', 'e', 'r', 'a', 't', 'o', 'r', 's', 'O', 'f', ' ', 'l', 'o', 'o', 'p', '.', 'e', 'x', 'a', 'm', 'p', 'l', 'e', '/', 'g', '0', '1', '2', '8', '5', '/', 'l', 'a', 'w', 's', '.', 'F', 'n', 'E', 'x', 'a', 'c', 't', 'S', 'e', 'c', 'o', 'n', 'd', 'a', 'r', 'y', 'N', 'u', 'm', 'b', 'e', 'r', ' ', 'l', 'o', 'o', 'p', '.', 'e', 'x', 'a', 'm', 'p', 'l', 'e', '/', 'g', '0', '1', '2', '8', '5', '/', 'l', 'a', 'w', 's', '.', 'F', 'n', 'E', 'x', 'a', 'c', 't', 'I', 's', 'G', 'e', 'n', 'e', 'r', 'a', 't', 'i', 'n', 'g', ' ', 'l', 'o', 'o', 'p', '.', 'e', 'x', 'a', 'm', 'p', 'l', 'e', '/', 'g', '0', '1', '2', '8', '5', '/', 'l', 'a', 'w', 's', '.', 'F', 'n', 'E', 'x', 'a', 'c', 't', 'S', 'e', 'c', 'o', 'n', 'd', 'a', 'r', 'y', 'D', 'e', 'g', 'r', 'e', 'e', 's', ' ', 'l', 'o', 'o', 'p', '.', 'e', 'x', 'a', 'm', 'p', 'l', 'e', '/', 'g', '0', '1', '2', '8', '5', '/', 'l', 'a', 'w', 's', '.', 'F', 'n', 'E', 'x', 'a', 'c', 't', 'S', 'e', 'c', 'o', 'n', 'd', 'a', 'r', 'y', 'I', 'n', 'v', 'a', 'r', 'i', 'a', 'n', 't', 's', ' ', 'l', 'o', 'o', 'p', '.', 'e', 'x', 'a', 'm', 'p', 'l', 'e', '/', 'g', '0', '1', '2', '8', '5', '/', 'l', 'a', 'w', 's', '.', 'F', 'n', 'E', 'x', 'a', 'c', 't', 'A', 'l', 'l', 'S', 'e', 'c', 'o', 'n', 'd', 'a', 'r', 'i', 'e', 's']) (by kernel_rfl)⟩
theorem headW : ∃ r, behindMainWord (wordsSigns Tryz.pinned.checked.prog.initOrder.toList) = "cut".toList :: r := by
  obtain ⟨b, h⟩ := signs
  rw [h, wordsSigns_app]
  exact ⟨wordsSigns b, by kernel_rfl⟩
theorem makeF : (Tryz.pinned.checked.prog.make == some Rows.fnExactIsMultipleRow.make) = true := by
  obtain ⟨r, h⟩ := headW
  exact (congrArg (· == some Rows.fnExactIsMultipleRow.make) (make_of h)).trans (by kernel_rfl)
theorem liftsF : (Rows.fnExactIsMultipleRow.lifted == Tryz.pinned.checked.prog.liftsFinal) = true := by
  obtain ⟨r, h⟩ := headW
  exact (congrArg (Rows.fnExactIsMultipleRow.lifted == ·) (lifts_of h)).trans (by kernel_rfl)
theorem enterF : Tryz.pinned.checked.prog.mayEnter = true := by
  obtain ⟨r, h⟩ := headW
  exact enter_of h (by kernel_rfl) (by kernel_rfl) (by kernel_rfl)
set_option maxHeartbeats 8000000 in
theorem closed : joinedFacts Tryz.pinned.checked.prog 3 Tryz.f3 Rows.fnExactIsMultipleSpec Rows.fnExactIsMultipleRow = true := by
  unfold joinedFacts
  simp only [Bool.and_eq_true]
  repeat' apply And.intro
  all_goals first | with_reducible exact enterF | with_reducible exact liftsF | with_reducible exact makeF | (as_aux_lemma => kernel_rfl)
theorem over : Rows.fnExactIsMultipleRow.holds Tryz.pinned (OpenSpec.ofChange Rows.fnExactIsMultipleSpec) :=
  OpenClaim.holds_of_wide 3 Tryz.f3 rfl rfl rfl rfl rfl rfl rfl ⟨rfl, rfl, rfl, rfl, rfl⟩ rfl rfl rfl rfl rfl (by kernel_rfl) Tryz.func3 closed
    (of_decide_eq_true (by kernel_rfl)) (by unfold Func.isWrapper; first | (rw [if_pos (by decide +kernel)]; kernel_rfl) | (rw [if_neg (by decide +kernel)]; exact ⟨rfl, rfl⟩))
    (fun os started H enc _ => lifted os started H enc)
theorem proved : Rows.FnExactIsMultipleSaid := over
#print axioms proved
end Go.Proofs.YtmdpmnjnpnjppaaGreat.fnExactIsMultiple
namespace Go.Proofs.YtmdpmnjnpnjppaaGreat
/-- The row, under a short name, for the claim. -/
theorem fnExactIsMultiple_holds : Rows.FnExactIsMultipleSaid := fnExactIsMultiple.proved
end Go.Proofs.YtmdpmnjnpnjppaaGreat
