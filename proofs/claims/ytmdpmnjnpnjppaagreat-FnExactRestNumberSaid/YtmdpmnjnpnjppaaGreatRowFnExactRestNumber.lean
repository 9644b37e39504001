/- The statement of FnExactRestNumber: whatever the arguments, the law returns true and leaves its arguments as they were. No condition. -/
import Derived.Test.YtmdpmnjnpnjppaaGreatEA3016
import Derived.Test.YtmdpmnjnpnjppaaGreatRows
import Derived.WalkKit
import Derived.ProofKit
import Derived.OpenShut
import Derived.ShutString
import Derived.ChangeOld
import Derived.Below
import Derived.Carry
import Derived.SizedLaws
namespace Go.Proofs.YtmdpmnjnpnjppaaGreat.fnExactRestNumber
open Go.ChangeShapes Go.WideShapes Go.ChangeAt Go.RowKit Go.Proofs.YtmdpmnjnpnjppaaGreatEv
set_option linter.unusedVariables false
theorem own : ownKnob Tryz.prog.godebug = none := by kernel_rfl
theorem laidOut : laidOutB Tryz.prog = true := by kernel_rfl
set_option maxRecDepth 100000 in
theorem lifted (os : Os) (started : os.Started) (H : Type) (enc : TypeId × Value → H) :
    ReturnsInHanded {} Tryz.checked os 4 .any (Rows.fnExactRestNumberSpec.pre6 enc Tryz.prog Tryz.f4 Rows.fnExactRestNumberRow.domain false) (Rows.fnExactRestNumberSpec.post enc Tryz.prog Tryz.f4 false true false false) := by
  refine returnsInHanded_of_change_sized (C := Tryz.checked) own started (by kernel_rfl) Tryz.func4
    (ChangeSpec.witness6 (enc := enc) (C := Tryz.checked) false ⟨#[], #[.slice none 0 0, .int .i64 0], []⟩ 8 (by kernel_rfl) (by kernel_rfl) (by kernel_rfl) (by kernel_rfl)) ?_
  intro W base args ds gs before hval0 hW hcnd hsz0 _
  have hval : ∀ (j : Nat) t v, Tryz.f4.params[j]? = some t → args[j]? = some v → Value.okWide Tryz.prog W .any base t v := hval0
  have hW' := hW
  obtain ⟨p, q, hA0, hV, rfl, hfz, hnd⟩ := hW
  have hA : DataW.TrodAll enc Tryz.prog W 0 (fun _ => true) true Tryz.f4.params.toList args.toList ds p := hA0
  rw [Tryz.params4] at hA hval
  obtain ⟨v0, vs0, d0, ds0, p0, q0, hargs, rfl, rfl, h0, r0⟩ := trodAll_cons hA
  obtain ⟨v1, vs1, d1, ds1, p1, q1, rfl, rfl, rfl, h1, r1⟩ := trodAll_cons r0
  obtain ⟨rfl, rfl, rfl⟩ := trodAll_nil r1
  obtain rfl : args = #[v0, v1] := by cases args; simp_all
  obtain ⟨rfl, rfl⟩ := trodVars_none hV
  have k0 := h0
  have lt0 : ∀ x ∈ p0, x.block < W.heap.size := by obtain ⟨m, hm⟩ := k0; exact DataW.trod_lt m _ _ _ hm
  obtain ⟨y0, bb0, o0, g0⟩ := open_val (ty := .slice 25 lpoly) tt_ok (by kernel_rfl) (hval 0 22 v0 rfl rfl) (fun _ => rfl) h0
  have k1 := h1
  have lt1 : ∀ x ∈ p1, x.block < W.heap.size := by obtain ⟨m, hm⟩ := k1; exact DataW.trod_lt m _ _ _ hm
  obtain ⟨y1, bb1, o1, g1⟩ := open_val (ty := i64) tt_ok (by kernel_rfl) (hval 1 2 v1 rfl rfl) (fun _ => rfl) h1
  clear hA0 hval0 hsz0 hcnd
  have hx : okA [.v (.slice 25 lpoly), .v i64] (y0, y1, ()) = true := by simp only [okA, g0, g1, Bool.and_self]
  refine (law301_one.ok rfl (y0, y1, ()) (true, ()) (by show (bif okA _ _ then _ else _) = _; rw [hx]; rfl) W [v0, v1] _ ⟨_, _, _, _, rfl, rfl, o0, ⟨_, _, _, _, rfl, rfl, o1, ⟨rfl, rfl⟩⟩⟩).mono fun e W' ⟨rv, bs, he, hres, bel, _, _, _⟩ => ?_
  obtain ⟨v, r, b1, b2, rfl, ⟨ho, _, hc⟩, _, hr, _⟩ := hres
  obtain ⟨rfl, _⟩ := hr
  have hv : v = .bool true := by
    have c1 := hc rfl
    have c2 := ho.1
    rw [c1] at c2
    simpa using c2
  subst hv
  subst he
  exact ⟨_, rfl, _, _, _, [], _, [], hW', trodAll_mk1 (shut_bool Tryz.underlying4 _), (trodAll_cons_mk (Below.trod laidOut (by kernel_rfl) (of_decide_eq_true (by kernel_rfl)) k0 bel lt0) (trodAll_cons_mk (Below.trod laidOut (by kernel_rfl) (of_decide_eq_true (by kernel_rfl)) k1 bel lt1) trodAll_mk0)), rfl, bel.frame _, fun h => by cases h⟩
set_option maxHeartbeats 8000000 in
theorem closed : joinedFacts Tryz.pinned.checked.prog 4 Tryz.f4 Rows.fnExactRestNumberSpec Rows.fnExactRestNumberRow = true := by
  unfold joinedFacts
  simp only [Bool.and_eq_true]
  repeat' apply And.intro
  all_goals (as_aux_lemma => kernel_rfl)
theorem over : Rows.fnExactRestNumberRow.holds Tryz.pinned (OpenSpec.ofChange Rows.fnExactRestNumberSpec) :=
  OpenClaim.holds_of_wide 4 Tryz.f4 rfl rfl rfl rfl rfl rfl rfl ⟨rfl, rfl, rfl, rfl, rfl⟩ rfl rfl rfl rfl rfl (by kernel_rfl) Tryz.func4 closed
    (of_decide_eq_true (by kernel_rfl)) (by unfold Func.isWrapper; first | (rw [if_pos (by decide +kernel)]; kernel_rfl) | (rw [if_neg (by decide +kernel)]; exact ⟨rfl, rfl⟩))
    (fun os started H enc _ => lifted os started H enc)
theorem proved : Rows.FnExactRestNumberSaid := over
#print axioms proved
end Go.Proofs.YtmdpmnjnpnjppaaGreat.fnExactRestNumber
namespace Go.Proofs.YtmdpmnjnpnjppaaGreat
/-- The row, under a short name, for the claim. -/
theorem fnExactRestNumber_holds : Rows.FnExactRestNumberSaid := fnExactRestNumber.proved
end Go.Proofs.YtmdpmnjnpnjppaaGreat
