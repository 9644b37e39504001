/- The statement of FnExactIsMadeByReflections: whatever the arguments, the law returns true and leaves its arguments as they were. No condition. -/
import Derived.Test.YtmdpmnjnpnjppaaEA4207
import Derived.Test.YtmdpmnjnpnjppaaRows
import Derived.WalkKit
import Derived.ProofKit
import Derived.OpenShut
import Derived.ShutString
import Derived.ChangeOld
import Derived.Below
import Derived.Carry
import Derived.SizedLaws
namespace Go.Proofs.Ytmdpmnjnpnjppaa.fnExactIsMadeByReflections
open Go.ChangeShapes Go.WideShapes Go.ChangeAt Go.RowKit Go.Proofs.YtmdpmnjnpnjppaaEv
set_option linter.unusedVariables false
theorem own : ownKnob Try.prog.godebug = none := by kernel_rfl
theorem laidOut : laidOutB Try.prog = true := by kernel_rfl
set_option maxRecDepth 100000 in
theorem lifted (os : Os) (started : os.Started) (H : Type) (enc : TypeId × Value → H) :
    ReturnsInHanded {} Try.checked os 7 .any (Rows.fnExactIsMadeByReflectionsSpec.pre6 enc Try.prog Try.f7 Rows.fnExactIsMadeByReflectionsRow.domain false) (Rows.fnExactIsMadeByReflectionsSpec.post enc Try.prog Try.f7 false true false false) := by
  refine returnsInHanded_of_change_sized (C := Try.checked) own started (by kernel_rfl) Try.func7
    (ChangeSpec.witness6 (enc := enc) (C := Try.checked) false ⟨#[], #[.agg #[.int .i64 0, .int .i64 0, .slice none 0 0]], []⟩ 8 (by kernel_rfl) (by kernel_rfl) (by kernel_rfl) (by kernel_rfl)) ?_
  intro W base args ds gs before hval0 hW hcnd hsz0 _
  have hval : ∀ (j : Nat) t v, Try.f7.params[j]? = some t → args[j]? = some v → Value.okWide Try.prog W .any base t v := hval0
  have hW' := hW
  obtain ⟨p, q, hA0, hV, rfl, hfz, hnd⟩ := hW
  have hA : DataW.TrodAll enc Try.prog W 0 (fun _ => true) true Try.f7.params.toList args.toList ds p := hA0
  rw [Try.params7] at hA hval
  obtain ⟨v0, vs0, d0, ds0, p0, q0, hargs, rfl, rfl, h0, r0⟩ := trodAll_cons hA
  obtain ⟨rfl, rfl, rfl⟩ := trodAll_nil r0
  obtain rfl : args = #[v0] := by cases args; simp_all
  obtain ⟨rfl, rfl⟩ := trodVars_none hV
  have k0 := h0
  have lt0 : ∀ x ∈ p0, x.block < W.heap.size := by obtain ⟨m, hm⟩ := k0; exact DataW.trod_lt m _ _ _ hm
  obtain ⟨y0, bb0, o0, g0⟩ := open_val (ty := .pair i64 (.pair i64 (.pair (.slice 66 mat) .unit))) tt_ok (by kernel_rfl) (hval 0 24 v0 rfl rfl) (fun _ => rfl) h0
  clear hA0 hval0 hsz0 hcnd
  have hx : okA [.v (.pair i64 (.pair i64 (.pair (.slice 66 mat) .unit)))] (y0, ()) = true := by simp only [okA, g0, Bool.and_self]
  refine (law420_one.ok rfl (y0, ()) (true, ()) (by show (bif okA _ _ then _ else _) = _; rw [hx]; rfl) W [v0] _ ⟨_, _, _, _, rfl, rfl, o0, ⟨rfl, rfl⟩⟩).mono fun e W' ⟨rv, bs, he, hres, bel, _, _, _⟩ => ?_
  obtain ⟨v, r, b1, b2, rfl, ⟨ho, _, hc⟩, _, hr, _⟩ := hres
  obtain ⟨rfl, _⟩ := hr
  have hv : v = .bool true := by
    have c1 := hc rfl
    have c2 := ho.1
    rw [c1] at c2
    simpa using c2
  subst hv
  subst he
  exact ⟨_, rfl, _, _, _, [], _, [], hW', trodAll_mk1 (shut_bool Try.underlying4 _), (trodAll_cons_mk (Below.trod laidOut (by kernel_rfl) (of_decide_eq_true (by kernel_rfl)) k0 bel lt0) trodAll_mk0), rfl, bel.frame _, fun h => by cases h⟩
theorem wordsSigns_ne : ∀ l : List Char, wordsSigns l ≠ [] := fun l => by
  unfold wordsSigns
  split
  · simp
  · simp
  · split <;> simp
theorem wordsSigns_cons {c : Char} (h : c ≠ ' ') (l : List Char) : wordsSigns (c :: l) = match wordsSigns l with | w :: ws => (c :: w) :: ws | [] => [[c]] := by
  rw [wordsSigns.eq_def]
  split
  · rename_i q; cases q
  · rename_i q; injection q with q1 q2; exact absurd q1 h
  · rename_i q2; injection q2 with q2 q3; subst q2; subst q3; rfl
theorem wordsSigns_app (a b : List Char) : wordsSigns (a ++ ' ' :: b) = wordsSigns a ++ wordsSigns b := by
  induction a with
  | nil => rfl
  | cons c r ih =>
    by_cases h : c = ' '
    · subst h
      show [] :: wordsSigns (r ++ ' ' :: b) = ([] :: wordsSigns r) ++ wordsSigns b
      rw [ih]; rfl
    · rw [List.cons_append, wordsSigns_cons h, wordsSigns_cons h, ih]
      cases hw : wordsSigns r with
      | nil => exact absurd hw (wordsSigns_ne r)
      | cons w ws => rfl
theorem make_of {P : Program} {r : List (List Char)} (h : behindMainWord (wordsSigns P.initOrder.toList) = "cut".toList :: r) : P.make = some .cut := by
  unfold Program.make
  rw [h]
  kernel_rfl
theorem lifts_of {P : Program} {r : List (List Char)} (h : behindMainWord (wordsSigns P.initOrder.toList) = "cut".toList :: r) : P.liftsFinal = false := by
  unfold Program.liftsFinal Program.headLifts
  rw [h]
  kernel_rfl
theorem enter_of {P : Program} {r : List (List Char)} (h : behindMainWord (wordsSigns P.initOrder.toList) = "cut".toList :: r) (h1 : P.laysLater = false) (h2 : P.bearsReflect = false) (h3 : P.doorFits [] = true) : P.mayEnter = true := by
  unfold Program.mayEnter
  rw [h, h1, h2]
  show ((false && _) || (false && _) || (true && true && true && true && P.doorFits [])) = true
  rw [h3]
  kernel_rfl
theorem signs : ∃ b : List Char, Try.pinned.checked.prog.initOrder.toList = ['h', 'a', 'r', 'n', 'e', 's', 's', ' ', 'a', '3', 'b', '2', '6', 'e', '6', 'c', '2', 'f', '8', 'e', '9', '0', 'c', '1', '4', 'd', 'a', 'a', '0', '2', '6', '7', '0', '6', '7', 'a', '6', '5', 'd', 'd', 'b', '2', '8', 'd', 'a', 'c', '3', '0', 'f', '1', '0', 'b', '9', '0', '5', 'e', '7', '3', 'd', 'a', '1', '2', '6', 'e', '0', 'b', '9', 'a', 'c', '2', '4', '5', ' ', 'c', 'u', 't'] ++ ' ' :: b := by
  have e : ∀ l : List Char, Try.pinned.checked.prog.initOrder = String.ofList l → Try.pinned.checked.prog.initOrder.toList = l := fun l h => by rw [h, String.toList_ofList]
  exact ⟨_, e (_ ++ ' ' :: ['a', 't', ' ', 'l', 'o', 'o', 'p', '.', 'e', 'x', 'a', 'm', 'p', 'l', 'e', '/', 'g', '0', '1', '2', '8', '5', '/', 'l', 'a', 'w', 's', '.', 'F', 'n', 'E', 'x', 'a', 'c', 't', 'M', 'o', 'l', 'i', 'e', 'n', 'S', 'e', 'r', 'i', 'e', 's', ' ', 'l', 'o', 'o', 'p', '.', 'e', 'x', 'a', 'm', 'p', 'l', 'e', '/', 'g', '0', '1', '2', '8', '5', '/', 'l', 'a', 'w', 's', '.', 'F', 'n', 'E', 'x', 'a', 'c', 't', 'J', 'a', 'c', 'o', 'b', 'i', 'a', 'n', 'O', 'f', ' ', 'l', 'o', 'o', 'p', '.', 'e', 'x', 'a', 'm', 'p', 'l', 'e', '/', 'g', '0', '1', '2', '8', '5', '/', 'l', 'a', 'w', 's', '.', 'F', 'n', 'E', 'x', 'a', 'c', 't', 'R', 'e', 'f', 'l', 'e', 'c', 't', 'i', 'o', 'n', 's', 'O', 'f', ' ', 'l', 'o', 'o', 'p', '.', 'e', 'x', 'a', 'm', 'p', 'l', 'e', '/', 'g', '0', '1', '2', '8', '5', '/', 'l', 'a', 'w', 's', '.', 'F', 'n', 'E', 'x', 'a', 'c', 't', 'D', 'o', 'D', 'e', 'g', 'r', 'e', 'e', 's', 'F', 'i', 't', ' ', 'l', 'o', 'o', 'p', '.', 'e', 'x', 'a', 'm', 'p', 'l', 'e', '/', 'g', '0', '1', '2', '8', '5', '/', 'l', 'a', 'w', 's', '.', 'F', 'n', 'E', 'x', 'a', 'c', 't', 'I', 's', 'M', 'a', 'd', 'e', 'B', 'y', 'R', 'e', 'f', 'l', 'e', 'c', 't', 'i', 'o', 'n', 's', ' ', 'l', 'o', 'o', 'p', '.', 'e', 'x', 'a', 'm', 'p', 'l', 'e', '/', 'g', '0', '1', '2', '8', '5', '/', 'l', 'a', 'w', 's', '.', 'F', 'n', 'E', 'x', 'a', 'c', 't', 'R', 'e', 'f', 'l', 'e', 'c', 't', 'i', 'o', 'n', 'G', 'r', 'o', 'u', 'p']) (by kernel_rfl)⟩
theorem headW : ∃ r, behindMainWord (wordsSigns Try.pinned.checked.prog.initOrder.toList) = "cut".toList :: r := by
  obtain ⟨b, h⟩ := signs
  rw [h, wordsSigns_app]
  exact ⟨wordsSigns b, by kernel_rfl⟩
theorem makeF : (Try.pinned.checked.prog.make == some Rows.fnExactIsMadeByReflectionsRow.make) = true := by
  obtain ⟨r, h⟩ := headW
  exact (congrArg (· == some Rows.fnExactIsMadeByReflectionsRow.make) (make_of h)).trans (by kernel_rfl)
theorem liftsF : (Rows.fnExactIsMadeByReflectionsRow.lifted == Try.pinned.checked.prog.liftsFinal) = true := by
  obtain ⟨r, h⟩ := headW
  exact (congrArg (Rows.fnExactIsMadeByReflectionsRow.lifted == ·) (lifts_of h)).trans (by kernel_rfl)
theorem enterF : Try.pinned.checked.prog.mayEnter = true := by
  obtain ⟨r, h⟩ := headW
  exact enter_of h (by kernel_rfl) (by kernel_rfl) (by kernel_rfl)
set_option maxHeartbeats 8000000 in
theorem closed : joinedFacts Try.pinned.checked.prog 7 Try.f7 Rows.fnExactIsMadeByReflectionsSpec Rows.fnExactIsMadeByReflectionsRow = true := by
  unfold joinedFacts
  simp only [Bool.and_eq_true]
  repeat' apply And.intro
  all_goals first | with_reducible exact enterF | with_reducible exact liftsF | with_reducible exact makeF | (as_aux_lemma => kernel_rfl)
theorem over : Rows.fnExactIsMadeByReflectionsRow.holds Try.pinned (OpenSpec.ofChange Rows.fnExactIsMadeByReflectionsSpec) :=
  OpenClaim.holds_of_wide 7 Try.f7 rfl rfl rfl rfl rfl rfl rfl ⟨rfl, rfl, rfl, rfl, rfl⟩ rfl rfl rfl rfl rfl (by kernel_rfl) Try.func7 closed
    (of_decide_eq_true (by kernel_rfl)) (by unfold Func.isWrapper; first | (rw [if_pos (by decide +kernel)]; kernel_rfl) | (rw [if_neg (by decide +kernel)]; exact ⟨rfl, rfl⟩))
    (fun os started H enc _ => lifted os started H enc)
theorem proved : Rows.FnExactIsMadeByReflectionsSaid := over
#print axioms proved
end Go.Proofs.Ytmdpmnjnpnjppaa.fnExactIsMadeByReflections
namespace Go.Proofs.Ytmdpmnjnpnjppaa
/-- The row, under a short name, for the claim. -/
theorem fnExactIsMadeByReflections_holds : Rows.FnExactIsMadeByReflectionsSaid := fnExactIsMadeByReflections.proved
end Go.Proofs.Ytmdpmnjnpnjppaa
