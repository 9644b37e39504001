/-
  No cell of these rows narrows 'for every input' (looked for: loops, veiled, ifaces, maps, wideKeys, modest, calm, conditions, laid).
  DERIVED. THE GIVEN ROWS OF THIS SEAT. 6 by the template 'for every input the law returns true; each argument reads behind the call as it read before'; 0 by the template 'total and deterministic' (their statements: YtmdpmnjnpnjppaaTotals.lean).
  GIVEN WITH THE SEED: the statements are not yours to turn. If you find one false, say at which input.
  Laid BY PROGRAM, IN A SANDBOX (cutbox-rows.mjs): the forced cells as the released guide's own fill.sh prints them over the translation 46af5a8743fb8269… (all of the seat's roots in one cut). By AI agents, Wed Nov 11 2026. No macro, syntax, notation, axiom, sorry.
-/
import Derived.Test.YtmdpmnjnpnjppaaChecked
import GoSem.Claim
import GoSem.ClaimJoined
import GoSem.ClaimMapViews
import Derived.JoinedTies
import Derived.KernelRfl
namespace Go.Proofs.Ytmdpmnjnpnjppaa
/- THE CELL 'sum', in the pinned program and in every row, IS THE sha256 OF THE DUMP (.gsa) THAT YtmdpmnjnpnjppaaProg.lean LOADS. Nothing in Lean hashes anything: it is a label: what it is worth is what the hold of that sum in a sandbox is worth. -/
noncomputable def Try.pinned : Pinned := { name := "ytmdpmnjnpnjppaa", sum := "46af5a8743fb8269740241f59b6d0b0239594ade37b4ded14982275ddde21364", checked := Try.checked }
namespace Rows
def none {H : Type} : Left H := { results := [], args := [] }

/-- 'laws.FnExactMolienSeries': WHATEVER THE INPUT: true; the input reads as it did. -/
def fnExactMolienSeriesSpec : ChangeSpec := { name := "fnExactMolienSeries", fn := fun _ => fun
  | [d1, d2] => { results := [.lit (.bool true)], args := [d1, d2] }
  | _ => none }
def fnExactMolienSeriesRow : OpenClaim := { program := "ytmdpmnjnpnjppaa", sum := "46af5a8743fb8269740241f59b6d0b0239594ade37b4ded14982275ddde21364", func := "loop.example/g01285/laws.FnExactMolienSeries", spec := "fnExactMolienSeries", inPlace := ["internal/bytealg.Compare"], unfollowed := true, recurses := true, plainKeys := false, apart := false }
def FnExactMolienSeriesSaid : Prop := fnExactMolienSeriesRow.holds Try.pinned (OpenSpec.ofChange fnExactMolienSeriesSpec)

/-- ITS FALSE NEIGHBOUR: 'it returns false'. Refute it at one input. -/
def fnExactMolienSeriesWrong : ChangeSpec := { name := "fnExactMolienSeries", fn := fun _ => fun
  | [d1, d2] => { results := [.lit (.bool false)], args := [d1, d2] }
  | _ => none }
def FnExactMolienSeriesWrongFalsely : Prop := fnExactMolienSeriesRow.holds Try.pinned (OpenSpec.ofChange fnExactMolienSeriesWrong)

/-- 'laws.FnExactJacobianOf': WHATEVER THE INPUT: true; the input reads as it did. -/
def fnExactJacobianOfSpec : ChangeSpec := { name := "fnExactJacobianOf", fn := fun _ => fun
  | [d] => { results := [.lit (.bool true)], args := [d] }
  | _ => none }
def fnExactJacobianOfRow : OpenClaim := { program := "ytmdpmnjnpnjppaa", sum := "46af5a8743fb8269740241f59b6d0b0239594ade37b4ded14982275ddde21364", func := "loop.example/g01285/laws.FnExactJacobianOf", spec := "fnExactJacobianOf", unfollowed := true, recurses := true, plainKeys := false, apart := false }
def FnExactJacobianOfSaid : Prop := fnExactJacobianOfRow.holds Try.pinned (OpenSpec.ofChange fnExactJacobianOfSpec)

/-- ITS FALSE NEIGHBOUR: 'it returns false'. Refute it at one input. -/
def fnExactJacobianOfWrong : ChangeSpec := { name := "fnExactJacobianOf", fn := fun _ => fun
  | [d] => { results := [.lit (.bool false)], args := [d] }
  | _ => none }
def FnExactJacobianOfWrongFalsely : Prop := fnExactJacobianOfRow.holds Try.pinned (OpenSpec.ofChange fnExactJacobianOfWrong)

/-- 'laws.FnExactReflectionsOf': WHATEVER THE INPUT: true; the input reads as it did. -/
def fnExactReflectionsOfSpec : ChangeSpec := { name := "fnExactReflectionsOf", fn := fun _ => fun
  | [d] => { results := [.lit (.bool true)], args := [d] }
  | _ => none }
def fnExactReflectionsOfRow : OpenClaim := { program := "ytmdpmnjnpnjppaa", sum := "46af5a8743fb8269740241f59b6d0b0239594ade37b4ded14982275ddde21364", func := "loop.example/g01285/laws.FnExactReflectionsOf", spec := "fnExactReflectionsOf", inPlace := ["internal/bytealg.Compare"], unfollowed := true, recurses := true, plainKeys := false, apart := false }
def FnExactReflectionsOfSaid : Prop := fnExactReflectionsOfRow.holds Try.pinned (OpenSpec.ofChange fnExactReflectionsOfSpec)

/-- ITS FALSE NEIGHBOUR: 'it returns false'. Refute it at one input. -/
def fnExactReflectionsOfWrong : ChangeSpec := { name := "fnExactReflectionsOf", fn := fun _ => fun
  | [d] => { results := [.lit (.bool false)], args := [d] }
  | _ => none }
def FnExactReflectionsOfWrongFalsely : Prop := fnExactReflectionsOfRow.holds Try.pinned (OpenSpec.ofChange fnExactReflectionsOfWrong)

/-- 'laws.FnExactDoDegreesFit': WHATEVER THE INPUT: true; the input reads as it did. -/
def fnExactDoDegreesFitSpec : ChangeSpec := { name := "fnExactDoDegreesFit", fn := fun _ => fun
  | [d1, d2] => { results := [.lit (.bool true)], args := [d1, d2] }
  | _ => none }
def fnExactDoDegreesFitRow : OpenClaim := { program := "ytmdpmnjnpnjppaa", sum := "46af5a8743fb8269740241f59b6d0b0239594ade37b4ded14982275ddde21364", func := "loop.example/g01285/laws.FnExactDoDegreesFit", spec := "fnExactDoDegreesFit", inPlace := ["internal/bytealg.Compare"], unfollowed := true, recurses := true, plainKeys := false, apart := false }
def FnExactDoDegreesFitSaid : Prop := fnExactDoDegreesFitRow.holds Try.pinned (OpenSpec.ofChange fnExactDoDegreesFitSpec)

/-- ITS FALSE NEIGHBOUR: 'it returns false'. Refute it at one input. -/
def fnExactDoDegreesFitWrong : ChangeSpec := { name := "fnExactDoDegreesFit", fn := fun _ => fun
  | [d1, d2] => { results := [.lit (.bool false)], args := [d1, d2] }
  | _ => none }
def FnExactDoDegreesFitWrongFalsely : Prop := fnExactDoDegreesFitRow.holds Try.pinned (OpenSpec.ofChange fnExactDoDegreesFitWrong)

/-- 'laws.FnExactIsMadeByReflections': WHATEVER THE INPUT: true; the input reads as it did. -/
def fnExactIsMadeByReflectionsSpec : ChangeSpec := { name := "fnExactIsMadeByReflections", fn := fun _ => fun
  | [d] => { results := [.lit (.bool true)], args := [d] }
  | _ => none }
def fnExactIsMadeByReflectionsRow : OpenClaim := { program := "ytmdpmnjnpnjppaa", sum := "46af5a8743fb8269740241f59b6d0b0239594ade37b4ded14982275ddde21364", func := "loop.example/g01285/laws.FnExactIsMadeByReflections", spec := "fnExactIsMadeByReflections", inPlace := ["internal/bytealg.Compare"], unfollowed := true, recurses := true, plainKeys := false, apart := false }
def FnExactIsMadeByReflectionsSaid : Prop := fnExactIsMadeByReflectionsRow.holds Try.pinned (OpenSpec.ofChange fnExactIsMadeByReflectionsSpec)

/-- ITS FALSE NEIGHBOUR: 'it returns false'. Refute it at one input. -/
def fnExactIsMadeByReflectionsWrong : ChangeSpec := { name := "fnExactIsMadeByReflections", fn := fun _ => fun
  | [d] => { results := [.lit (.bool false)], args := [d] }
  | _ => none }
def FnExactIsMadeByReflectionsWrongFalsely : Prop := fnExactIsMadeByReflectionsRow.holds Try.pinned (OpenSpec.ofChange fnExactIsMadeByReflectionsWrong)

/-- 'laws.FnExactReflectionGroup': WHATEVER THE INPUT: true; the input reads as it did. -/
def fnExactReflectionGroupSpec : ChangeSpec := { name := "fnExactReflectionGroup", fn := fun _ => fun
  | [d] => { results := [.lit (.bool true)], args := [d] }
  | _ => none }
def fnExactReflectionGroupRow : OpenClaim := { program := "ytmdpmnjnpnjppaa", sum := "46af5a8743fb8269740241f59b6d0b0239594ade37b4ded14982275ddde21364", func := "loop.example/g01285/laws.FnExactReflectionGroup", spec := "fnExactReflectionGroup", inPlace := ["internal/bytealg.Compare"], unfollowed := true, recurses := true, plainKeys := false, apart := false }
def FnExactReflectionGroupSaid : Prop := fnExactReflectionGroupRow.holds Try.pinned (OpenSpec.ofChange fnExactReflectionGroupSpec)

/-- ITS FALSE NEIGHBOUR: 'it returns false'. Refute it at one input. -/
def fnExactReflectionGroupWrong : ChangeSpec := { name := "fnExactReflectionGroup", fn := fun _ => fun
  | [d] => { results := [.lit (.bool false)], args := [d] }
  | _ => none }
def FnExactReflectionGroupWrongFalsely : Prop := fnExactReflectionGroupRow.holds Try.pinned (OpenSpec.ofChange fnExactReflectionGroupWrong)

/- THE SECOND FORM. 'bulk': how many values and letters a reading holds, each counted each time it is reached (what is shared counts as often as it is met; a slice's spare places count too). A statement '..UptoSaid' is the law's where the arguments, and the package variables that the reading takes, are together of bulk at most 1048576: NARROWER than '..Said'. Prove '..Said' where nothing that the law and all that it calls make is longer than what came in: it says more and counts as full. Else prove '..UptoSaid'. A law counts once. -/
mutual
def uptoBulk {H : Type} : DataW H → Nat
  | .lit (.string bytes) => bytes.length + 1
  | .lit _ => 1
  | .nil => 1
  | .ptr d => uptoBulk d + 1
  | .slice elems spare => uptoBulkAll elems + uptoBulkAll spare + 1
  | .agg parts => uptoBulkAll parts + 1
  | .iface _ d => uptoBulk d + 1
  | .map entries => uptoBulkEntries entries + 1
  | .held _ => 1
def uptoBulkAll {H : Type} : List (DataW H) → Nat
  | [] => 0
  | d :: r => uptoBulk d + uptoBulkAll r
def uptoBulkEntries {H : Type} : List (Lit × DataW H) → Nat
  | [] => 0
  | x :: r => uptoBulkEntry x + uptoBulkEntries r
def uptoBulkEntry {H : Type} : Lit × DataW H → Nat
  | (.string bytes, d) => bytes.length + uptoBulk d + 1
  | (_, d) => uptoBulk d + 1
 end
def uptoSmall : (H : Type) → List (DataW H) → Bool := fun _ ds => decide (uptoBulkAll ds ≤ 1048576)
def OpenSpec.upto (s : _root_.Go.ChangeSpec) : _root_.Go.OpenSpec := { _root_.Go.OpenSpec.ofChange s with cond := some uptoSmall }

/-- 'laws.FnExactMolienSeries', WHERE WHAT IT READS IS OF BULK AT MOST 1048576: true; the input reads as it did. -/
def fnExactMolienSeriesUptoRow : OpenClaim := { program := "ytmdpmnjnpnjppaa", sum := "46af5a8743fb8269740241f59b6d0b0239594ade37b4ded14982275ddde21364", func := "loop.example/g01285/laws.FnExactMolienSeries", spec := "fnExactMolienSeries", inPlace := ["internal/bytealg.Compare"], unfollowed := true, recurses := true, plainKeys := false, apart := false, narrowed := true }
def FnExactMolienSeriesUptoSaid : Prop := fnExactMolienSeriesUptoRow.holds Try.pinned (OpenSpec.upto fnExactMolienSeriesSpec)

/-- 'laws.FnExactJacobianOf', WHERE WHAT IT READS IS OF BULK AT MOST 1048576: true; the input reads as it did. -/
def fnExactJacobianOfUptoRow : OpenClaim := { program := "ytmdpmnjnpnjppaa", sum := "46af5a8743fb8269740241f59b6d0b0239594ade37b4ded14982275ddde21364", func := "loop.example/g01285/laws.FnExactJacobianOf", spec := "fnExactJacobianOf", unfollowed := true, recurses := true, plainKeys := false, apart := false, narrowed := true }
def FnExactJacobianOfUptoSaid : Prop := fnExactJacobianOfUptoRow.holds Try.pinned (OpenSpec.upto fnExactJacobianOfSpec)

/-- 'laws.FnExactReflectionsOf', WHERE WHAT IT READS IS OF BULK AT MOST 1048576: true; the input reads as it did. -/
def fnExactReflectionsOfUptoRow : OpenClaim := { program := "ytmdpmnjnpnjppaa", sum := "46af5a8743fb8269740241f59b6d0b0239594ade37b4ded14982275ddde21364", func := "loop.example/g01285/laws.FnExactReflectionsOf", spec := "fnExactReflectionsOf", inPlace := ["internal/bytealg.Compare"], unfollowed := true, recurses := true, plainKeys := false, apart := false, narrowed := true }
def FnExactReflectionsOfUptoSaid : Prop := fnExactReflectionsOfUptoRow.holds Try.pinned (OpenSpec.upto fnExactReflectionsOfSpec)

/-- 'laws.FnExactDoDegreesFit', WHERE WHAT IT READS IS OF BULK AT MOST 1048576: true; the input reads as it did. -/
def fnExactDoDegreesFitUptoRow : OpenClaim := { program := "ytmdpmnjnpnjppaa", sum := "46af5a8743fb8269740241f59b6d0b0239594ade37b4ded14982275ddde21364", func := "loop.example/g01285/laws.FnExactDoDegreesFit", spec := "fnExactDoDegreesFit", inPlace := ["internal/bytealg.Compare"], unfollowed := true, recurses := true, plainKeys := false, apart := false, narrowed := true }
def FnExactDoDegreesFitUptoSaid : Prop := fnExactDoDegreesFitUptoRow.holds Try.pinned (OpenSpec.upto fnExactDoDegreesFitSpec)

/-- 'laws.FnExactIsMadeByReflections', WHERE WHAT IT READS IS OF BULK AT MOST 1048576: true; the input reads as it did. -/
def fnExactIsMadeByReflectionsUptoRow : OpenClaim := { program := "ytmdpmnjnpnjppaa", sum := "46af5a8743fb8269740241f59b6d0b0239594ade37b4ded14982275ddde21364", func := "loop.example/g01285/laws.FnExactIsMadeByReflections", spec := "fnExactIsMadeByReflections", inPlace := ["internal/bytealg.Compare"], unfollowed := true, recurses := true, plainKeys := false, apart := false, narrowed := true }
def FnExactIsMadeByReflectionsUptoSaid : Prop := fnExactIsMadeByReflectionsUptoRow.holds Try.pinned (OpenSpec.upto fnExactIsMadeByReflectionsSpec)

/-- 'laws.FnExactReflectionGroup', WHERE WHAT IT READS IS OF BULK AT MOST 1048576: true; the input reads as it did. -/
def fnExactReflectionGroupUptoRow : OpenClaim := { program := "ytmdpmnjnpnjppaa", sum := "46af5a8743fb8269740241f59b6d0b0239594ade37b4ded14982275ddde21364", func := "loop.example/g01285/laws.FnExactReflectionGroup", spec := "fnExactReflectionGroup", inPlace := ["internal/bytealg.Compare"], unfollowed := true, recurses := true, plainKeys := false, apart := false, narrowed := true }
def FnExactReflectionGroupUptoSaid : Prop := fnExactReflectionGroupUptoRow.holds Try.pinned (OpenSpec.upto fnExactReflectionGroupSpec)

end Rows
end Go.Proofs.Ytmdpmnjnpnjppaa
