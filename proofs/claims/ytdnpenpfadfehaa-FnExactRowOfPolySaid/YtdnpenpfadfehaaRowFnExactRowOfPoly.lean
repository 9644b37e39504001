/- The statement of FnExactRowOfPoly: whatever the arguments, the law returns true and leaves its arguments as they were. No condition. -/
import Derived.Test.YtdnpenpfadfehaaRows
import Derived.Test.YtdnpenpfadfehaaEFnExactRowOfPolyx11
import Derived.Test.YtdnpenpfadfehaaPureFnExactRowOfPoly
import Derived.WalkKit
import Derived.ProofKit
import Derived.OpenShut
import Derived.ShutString
import Derived.ChangeOld
import Derived.Below
import Derived.SizedLaws
namespace Go.Proofs.Ytdnpenpfadfehaa.fnExactRowOfPoly
open Go.ChangeShapes Go.WideShapes Go.ChangeAt Go.RowKit Go.Proofs.YtdnpenpfadfehaaX Go.Proofs.YtdnpenpfadfehaaW.PrintWords _root_.Go.Proofs.Ytdnpenpfadfehaa.Pure
set_option linter.unusedVariables false
theorem own : ownKnob Try.prog.godebug = none := by kernel_rfl
theorem laidOut : laidOutB Try.prog = true := by kernel_rfl
set_option maxRecDepth 100000 in
theorem lifted (os : Os) (started : os.Started) (H : Type) (enc : TypeId × Value → H) :
    ReturnsInHanded {} Try.checked os 8 .any (Rows.fnExactRowOfPolySpec.pre6 enc Try.prog Try.f8 Rows.fnExactRowOfPolyRow.domain false) (Rows.fnExactRowOfPolySpec.post enc Try.prog Try.f8 false true false false) := by
  refine returnsInHanded_of_change_sized (C := Try.checked) own started (by kernel_rfl) Try.func8
    (ChangeSpec.witness6 (enc := enc) (C := Try.checked) false ⟨#[], #[.agg #[.int .i64 0, .int .i64 0, .slice none 0 0], .int .i64 0], []⟩ 8 (by kernel_rfl) (by kernel_rfl) (by kernel_rfl) (by kernel_rfl)) ?_
  intro W base args ds gs before hval0 hW hcnd hsz0 _
  have hval : ∀ (j : Nat) t v, Try.f8.params[j]? = some t → args[j]? = some v → Value.okWide Try.prog W .any base t v := hval0
  have hW' := hW
  obtain ⟨p, q, hA0, hV, rfl, hfz, hnd⟩ := hW
  have hA : DataW.TrodAll enc Try.prog W 0 (fun _ => true) true Try.f8.params.toList args.toList ds p := hA0
  rw [Try.params8] at hA hval
  obtain ⟨v0, vs0, d0, ds0, p0, q0, hargs, rfl, rfl, h0, r0⟩ := trodAll_cons hA
  obtain ⟨v1, vs1, d1, ds1, p1, q1, rfl, rfl, rfl, h1, r1⟩ := trodAll_cons r0
  obtain ⟨rfl, rfl, rfl⟩ := trodAll_nil r1
  obtain rfl : args = #[v0, v1] := by cases args; simp_all
  obtain ⟨rfl, rfl⟩ := trodVars_none hV
  have k0 := h0
  have lt0 : ∀ x ∈ p0, x.block < W.heap.size := by obtain ⟨m, hm⟩ := k0; exact DataW.trod_lt m _ _ _ hm
  obtain ⟨fuel0, hf0⟩ := h0
  obtain ⟨cs0, rfl, hs0⟩ := okWide_struct Try.underlying38 (hval 0 38 v0 rfl rfl)
  obtain ⟨y0, hk0, hg0⟩ := opens38.2 _ _ _ _ _ _ _ _ _ hf0
  obtain ⟨l0⟩ := cs0
  obtain ⟨_, _, he0, rfl, ⟨_, _, rfl, rfl, ⟨A0_2, c0_2, rfl, hl0_2, hr0_2⟩⟩⟩ := hk0
  have he0' : l0 = _ := he0
  subst he0'
  obtain ⟨a1, rfl, rfl, rfl, w1⟩ := open_int Try.underlying2 (hval 1 2 v1 rfl rfl) h1
  clear hA0 hval0 hsz0 hcnd
  have hp := Pure.FnExactRowOfPoly y0.1 y0.2.1 y0.2.2 a1 hg0.1 hg0.2.1 hg0.2.2 w1
  obtain ⟨k, hp⟩ := hp
  refine (EFnExactRowOfPoly.laws_FnExactRowOfPoly.calls k y0.1 y0.2.1 _ _ y0.2.2 a1 true W hr0_2 hl0_2 hp).mono fun e W' ⟨he, bel⟩ => ?_
  subst he
  exact ⟨_, rfl, _, _, _, [], _, [], hW', trodAll_mk1 (shut_bool Try.underlying4 _), (trodAll_cons_mk (Below.trod laidOut (by kernel_rfl) (of_decide_eq_true (by kernel_rfl)) k0 bel lt0) (trodAll_cons_mk (shut_int Try.underlying2 w1) trodAll_mk0)), rfl, bel.frame _, fun h => by cases h⟩
theorem over : Rows.fnExactRowOfPolyRow.holds Try.pinned (OpenSpec.ofChange Rows.fnExactRowOfPolySpec) :=
  OpenClaim.holds_of_wide 8 Try.f8 rfl rfl rfl rfl rfl rfl rfl ⟨rfl, rfl, rfl, rfl, rfl⟩ rfl rfl rfl rfl rfl (by kernel_rfl) Try.func8 (by kernel_rfl)
    (of_decide_eq_true (by kernel_rfl)) (by unfold Func.isWrapper; first | (rw [if_pos (by decide +kernel)]; kernel_rfl) | (rw [if_neg (by decide +kernel)]; exact ⟨rfl, rfl⟩))
    (fun os started H enc _ => lifted os started H enc)
theorem proved : Rows.FnExactRowOfPolySaid := over
#print axioms proved
end Go.Proofs.Ytdnpenpfadfehaa.fnExactRowOfPoly
namespace Go.Proofs.Ytdnpenpfadfehaa
/-- The row, under a short name, for the claim. -/
theorem fnExactRowOfPoly_holds : Rows.FnExactRowOfPolySaid := fnExactRowOfPoly.proved
end Go.Proofs.Ytdnpenpfadfehaa
