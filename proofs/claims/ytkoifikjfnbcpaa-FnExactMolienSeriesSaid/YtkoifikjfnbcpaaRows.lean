/-
  No cell of these rows narrows 'for every input' (looked for: loops, veiled, ifaces, maps, wideKeys, modest, calm, conditions, laid).
  DERIVED. THE GIVEN ROWS OF THIS SEAT. 12 by the template 'for every input the law returns true; each argument reads behind the call as it read before'; 0 by the template 'total and deterministic' (their statements: YtkoifikjfnbcpaaTotals.lean).
  GIVEN WITH THE SEED: the statements are not yours to turn. If you find one false, say at which input.
  Laid BY PROGRAM, IN A SANDBOX (cutbox-rows.mjs): the forced cells as the released guide's own fill.sh prints them over the translation 9287efcf56685551… (all of the seat's roots in one cut). By AI agents, Wed Nov 11 2026. No macro, syntax, notation, axiom, sorry.
-/
import Derived.Test.YtkoifikjfnbcpaaChecked
import GoSem.Claim
import GoSem.ClaimJoined
import GoSem.ClaimMapViews
import Derived.JoinedTies
import Derived.KernelRfl
namespace Go.Proofs.Ytkoifikjfnbcpaa
/- THE CELL 'sum', in the pinned program and in every row, IS THE sha256 OF THE DUMP (.gsa) THAT YtkoifikjfnbcpaaProg.lean LOADS. Nothing in Lean hashes anything: it is a label: what it is worth is what the hold of that sum in a sandbox is worth. -/
noncomputable def Try.pinned : Pinned := { name := "ytkoifikjfnbcpaa", sum := "9287efcf566855511753942702f47e617e824c998cc8c8f48667eca2ce2ea711", checked := Try.checked }
namespace Rows
def none {H : Type} : Left H := { results := [], args := [] }

/-- 'laws.FnExactCharacteristicOf': WHATEVER THE INPUT: true; the input reads as it did. -/
def fnExactCharacteristicOfSpec : ChangeSpec := { name := "fnExactCharacteristicOf", fn := fun _ => fun
  | [d1, d2, d3] => { results := [.lit (.bool true)], args := [d1, d2, d3] }
  | _ => none }
def fnExactCharacteristicOfRow : OpenClaim := { program := "ytkoifikjfnbcpaa", sum := "9287efcf566855511753942702f47e617e824c998cc8c8f48667eca2ce2ea711", func := "loop.example/g01285/laws.FnExactCharacteristicOf", spec := "fnExactCharacteristicOf", unfollowed := true, recurses := true, plainKeys := false, apart := false }
def FnExactCharacteristicOfSaid : Prop := fnExactCharacteristicOfRow.holds Try.pinned (OpenSpec.ofChange fnExactCharacteristicOfSpec)

/-- ITS FALSE NEIGHBOUR: 'it returns false'. Refute it at one input. -/
def fnExactCharacteristicOfWrong : ChangeSpec := { name := "fnExactCharacteristicOf", fn := fun _ => fun
  | [d1, d2, d3] => { results := [.lit (.bool false)], args := [d1, d2, d3] }
  | _ => none }
def FnExactCharacteristicOfWrongFalsely : Prop := fnExactCharacteristicOfRow.holds Try.pinned (OpenSpec.ofChange fnExactCharacteristicOfWrong)

/-- 'laws.FnExactProductExponents': WHATEVER THE INPUT: true; the input reads as it did. -/
def fnExactProductExponentsSpec : ChangeSpec := { name := "fnExactProductExponents", fn := fun _ => fun
  | [d1, d2] => { results := [.lit (.bool true)], args := [d1, d2] }
  | _ => none }
def fnExactProductExponentsRow : OpenClaim := { program := "ytkoifikjfnbcpaa", sum := "9287efcf566855511753942702f47e617e824c998cc8c8f48667eca2ce2ea711", func := "loop.example/g01285/laws.FnExactProductExponents", spec := "fnExactProductExponents", recurses := true, plainKeys := false, apart := false }
def FnExactProductExponentsSaid : Prop := fnExactProductExponentsRow.holds Try.pinned (OpenSpec.ofChange fnExactProductExponentsSpec)

/-- ITS FALSE NEIGHBOUR: 'it returns false'. Refute it at one input. -/
def fnExactProductExponentsWrong : ChangeSpec := { name := "fnExactProductExponents", fn := fun _ => fun
  | [d1, d2] => { results := [.lit (.bool false)], args := [d1, d2] }
  | _ => none }
def FnExactProductExponentsWrongFalsely : Prop := fnExactProductExponentsRow.holds Try.pinned (OpenSpec.ofChange fnExactProductExponentsWrong)

/-- 'laws.FnExactMolienSeries': WHATEVER THE INPUT: true; the input reads as it did. -/
def fnExactMolienSeriesSpec : ChangeSpec := { name := "fnExactMolienSeries", fn := fun _ => fun
  | [d1, d2] => { results := [.lit (.bool true)], args := [d1, d2] }
  | _ => none }
def fnExactMolienSeriesRow : OpenClaim := { program := "ytkoifikjfnbcpaa", sum := "9287efcf566855511753942702f47e617e824c998cc8c8f48667eca2ce2ea711", func := "loop.example/g01285/laws.FnExactMolienSeries", spec := "fnExactMolienSeries", inPlace := ["internal/bytealg.Compare"], unfollowed := true, recurses := true, plainKeys := false, apart := false }
def FnExactMolienSeriesSaid : Prop := fnExactMolienSeriesRow.holds Try.pinned (OpenSpec.ofChange fnExactMolienSeriesSpec)

/-- ITS FALSE NEIGHBOUR: 'it returns false'. Refute it at one input. -/
def fnExactMolienSeriesWrong : ChangeSpec := { name := "fnExactMolienSeries", fn := fun _ => fun
  | [d1, d2] => { results := [.lit (.bool false)], args := [d1, d2] }
  | _ => none }
def FnExactMolienSeriesWrongFalsely : Prop := fnExactMolienSeriesRow.holds Try.pinned (OpenSpec.ofChange fnExactMolienSeriesWrong)

/-- 'laws.FnExactPolyOfRow': WHATEVER THE INPUT: true; the input reads as it did. -/
def fnExactPolyOfRowSpec : ChangeSpec := { name := "fnExactPolyOfRow", fn := fun _ => fun
  | [d1, d2, d3, d4] => { results := [.lit (.bool true)], args := [d1, d2, d3, d4] }
  | _ => none }
def fnExactPolyOfRowRow : OpenClaim := { program := "ytkoifikjfnbcpaa", sum := "9287efcf566855511753942702f47e617e824c998cc8c8f48667eca2ce2ea711", func := "loop.example/g01285/laws.FnExactPolyOfRow", spec := "fnExactPolyOfRow", unfollowed := true, recurses := true, plainKeys := false, apart := false }
def FnExactPolyOfRowSaid : Prop := fnExactPolyOfRowRow.holds Try.pinned (OpenSpec.ofChange fnExactPolyOfRowSpec)

/-- ITS FALSE NEIGHBOUR: 'it returns false'. Refute it at one input. -/
def fnExactPolyOfRowWrong : ChangeSpec := { name := "fnExactPolyOfRow", fn := fun _ => fun
  | [d1, d2, d3, d4] => { results := [.lit (.bool false)], args := [d1, d2, d3, d4] }
  | _ => none }
def FnExactPolyOfRowWrongFalsely : Prop := fnExactPolyOfRowRow.holds Try.pinned (OpenSpec.ofChange fnExactPolyOfRowWrong)

/-- 'laws.FnExactIsReflection': WHATEVER THE INPUT: true; the input reads as it did. -/
def fnExactIsReflectionSpec : ChangeSpec := { name := "fnExactIsReflection", fn := fun _ => fun
  | [d1, d2, d3] => { results := [.lit (.bool true)], args := [d1, d2, d3] }
  | _ => none }
def fnExactIsReflectionRow : OpenClaim := { program := "ytkoifikjfnbcpaa", sum := "9287efcf566855511753942702f47e617e824c998cc8c8f48667eca2ce2ea711", func := "loop.example/g01285/laws.FnExactIsReflection", spec := "fnExactIsReflection", unfollowed := true, recurses := true, plainKeys := false, apart := false }
def FnExactIsReflectionSaid : Prop := fnExactIsReflectionRow.holds Try.pinned (OpenSpec.ofChange fnExactIsReflectionSpec)

/-- ITS FALSE NEIGHBOUR: 'it returns false'. Refute it at one input. -/
def fnExactIsReflectionWrong : ChangeSpec := { name := "fnExactIsReflection", fn := fun _ => fun
  | [d1, d2, d3] => { results := [.lit (.bool false)], args := [d1, d2, d3] }
  | _ => none }
def FnExactIsReflectionWrongFalsely : Prop := fnExactIsReflectionRow.holds Try.pinned (OpenSpec.ofChange fnExactIsReflectionWrong)

/-- 'laws.FnExactDicksonInvariant': WHATEVER THE INPUT: true; the input reads as it did. -/
def fnExactDicksonInvariantSpec : ChangeSpec := { name := "fnExactDicksonInvariant", fn := fun _ => fun
  | [d1, d2, d3] => { results := [.lit (.bool true)], args := [d1, d2, d3] }
  | _ => none }
def fnExactDicksonInvariantRow : OpenClaim := { program := "ytkoifikjfnbcpaa", sum := "9287efcf566855511753942702f47e617e824c998cc8c8f48667eca2ce2ea711", func := "loop.example/g01285/laws.FnExactDicksonInvariant", spec := "fnExactDicksonInvariant", unfollowed := true, recurses := true, plainKeys := false, apart := false }
def FnExactDicksonInvariantSaid : Prop := fnExactDicksonInvariantRow.holds Try.pinned (OpenSpec.ofChange fnExactDicksonInvariantSpec)

/-- ITS FALSE NEIGHBOUR: 'it returns false'. Refute it at one input. -/
def fnExactDicksonInvariantWrong : ChangeSpec := { name := "fnExactDicksonInvariant", fn := fun _ => fun
  | [d1, d2, d3] => { results := [.lit (.bool false)], args := [d1, d2, d3] }
  | _ => none }
def FnExactDicksonInvariantWrongFalsely : Prop := fnExactDicksonInvariantRow.holds Try.pinned (OpenSpec.ofChange fnExactDicksonInvariantWrong)

/-- 'laws.FnExactRootOfReflection': WHATEVER THE INPUT: true; the input reads as it did. -/
def fnExactRootOfReflectionSpec : ChangeSpec := { name := "fnExactRootOfReflection", fn := fun _ => fun
  | [d1, d2, d3] => { results := [.lit (.bool true)], args := [d1, d2, d3] }
  | _ => none }
def fnExactRootOfReflectionRow : OpenClaim := { program := "ytkoifikjfnbcpaa", sum := "9287efcf566855511753942702f47e617e824c998cc8c8f48667eca2ce2ea711", func := "loop.example/g01285/laws.FnExactRootOfReflection", spec := "fnExactRootOfReflection", unfollowed := true, recurses := true, plainKeys := false, apart := false }
def FnExactRootOfReflectionSaid : Prop := fnExactRootOfReflectionRow.holds Try.pinned (OpenSpec.ofChange fnExactRootOfReflectionSpec)

/-- ITS FALSE NEIGHBOUR: 'it returns false'. Refute it at one input. -/
def fnExactRootOfReflectionWrong : ChangeSpec := { name := "fnExactRootOfReflection", fn := fun _ => fun
  | [d1, d2, d3] => { results := [.lit (.bool false)], args := [d1, d2, d3] }
  | _ => none }
def FnExactRootOfReflectionWrongFalsely : Prop := fnExactRootOfReflectionRow.holds Try.pinned (OpenSpec.ofChange fnExactRootOfReflectionWrong)

/-- 'laws.FnExactMirrorOf': WHATEVER THE INPUT: true; the input reads as it did. -/
def fnExactMirrorOfSpec : ChangeSpec := { name := "fnExactMirrorOf", fn := fun _ => fun
  | [d1, d2, d3] => { results := [.lit (.bool true)], args := [d1, d2, d3] }
  | _ => none }
def fnExactMirrorOfRow : OpenClaim := { program := "ytkoifikjfnbcpaa", sum := "9287efcf566855511753942702f47e617e824c998cc8c8f48667eca2ce2ea711", func := "loop.example/g01285/laws.FnExactMirrorOf", spec := "fnExactMirrorOf", unfollowed := true, recurses := true, plainKeys := false, apart := false }
def FnExactMirrorOfSaid : Prop := fnExactMirrorOfRow.holds Try.pinned (OpenSpec.ofChange fnExactMirrorOfSpec)

/-- ITS FALSE NEIGHBOUR: 'it returns false'. Refute it at one input. -/
def fnExactMirrorOfWrong : ChangeSpec := { name := "fnExactMirrorOf", fn := fun _ => fun
  | [d1, d2, d3] => { results := [.lit (.bool false)], args := [d1, d2, d3] }
  | _ => none }
def FnExactMirrorOfWrongFalsely : Prop := fnExactMirrorOfRow.holds Try.pinned (OpenSpec.ofChange fnExactMirrorOfWrong)

/-- 'laws.FnExactFormOfReflection': WHATEVER THE INPUT: true; the input reads as it did. -/
def fnExactFormOfReflectionSpec : ChangeSpec := { name := "fnExactFormOfReflection", fn := fun _ => fun
  | [d1, d2, d3] => { results := [.lit (.bool true)], args := [d1, d2, d3] }
  | _ => none }
def fnExactFormOfReflectionRow : OpenClaim := { program := "ytkoifikjfnbcpaa", sum := "9287efcf566855511753942702f47e617e824c998cc8c8f48667eca2ce2ea711", func := "loop.example/g01285/laws.FnExactFormOfReflection", spec := "fnExactFormOfReflection", unfollowed := true, recurses := true, plainKeys := false, apart := false }
def FnExactFormOfReflectionSaid : Prop := fnExactFormOfReflectionRow.holds Try.pinned (OpenSpec.ofChange fnExactFormOfReflectionSpec)

/-- ITS FALSE NEIGHBOUR: 'it returns false'. Refute it at one input. -/
def fnExactFormOfReflectionWrong : ChangeSpec := { name := "fnExactFormOfReflection", fn := fun _ => fun
  | [d1, d2, d3] => { results := [.lit (.bool false)], args := [d1, d2, d3] }
  | _ => none }
def FnExactFormOfReflectionWrongFalsely : Prop := fnExactFormOfReflectionRow.holds Try.pinned (OpenSpec.ofChange fnExactFormOfReflectionWrong)

/-- 'laws.FnExactProductOfList': WHATEVER THE INPUT: true; the input reads as it did. -/
def fnExactProductOfListSpec : ChangeSpec := { name := "fnExactProductOfList", fn := fun _ => fun
  | [d1, d2] => { results := [.lit (.bool true)], args := [d1, d2] }
  | _ => none }
def fnExactProductOfListRow : OpenClaim := { program := "ytkoifikjfnbcpaa", sum := "9287efcf566855511753942702f47e617e824c998cc8c8f48667eca2ce2ea711", func := "loop.example/g01285/laws.FnExactProductOfList", spec := "fnExactProductOfList", unfollowed := true, recurses := true, plainKeys := false, apart := false }
def FnExactProductOfListSaid : Prop := fnExactProductOfListRow.holds Try.pinned (OpenSpec.ofChange fnExactProductOfListSpec)

/-- ITS FALSE NEIGHBOUR: 'it returns false'. Refute it at one input. -/
def fnExactProductOfListWrong : ChangeSpec := { name := "fnExactProductOfList", fn := fun _ => fun
  | [d1, d2] => { results := [.lit (.bool false)], args := [d1, d2] }
  | _ => none }
def FnExactProductOfListWrongFalsely : Prop := fnExactProductOfListRow.holds Try.pinned (OpenSpec.ofChange fnExactProductOfListWrong)

/-- 'laws.FnExactJacobianOf': WHATEVER THE INPUT: true; the input reads as it did. -/
def fnExactJacobianOfSpec : ChangeSpec := { name := "fnExactJacobianOf", fn := fun _ => fun
  | [d] => { results := [.lit (.bool true)], args := [d] }
  | _ => none }
def fnExactJacobianOfRow : OpenClaim := { program := "ytkoifikjfnbcpaa", sum := "9287efcf566855511753942702f47e617e824c998cc8c8f48667eca2ce2ea711", func := "loop.example/g01285/laws.FnExactJacobianOf", spec := "fnExactJacobianOf", unfollowed := true, recurses := true, plainKeys := false, apart := false }
def FnExactJacobianOfSaid : Prop := fnExactJacobianOfRow.holds Try.pinned (OpenSpec.ofChange fnExactJacobianOfSpec)

/-- ITS FALSE NEIGHBOUR: 'it returns false'. Refute it at one input. -/
def fnExactJacobianOfWrong : ChangeSpec := { name := "fnExactJacobianOf", fn := fun _ => fun
  | [d] => { results := [.lit (.bool false)], args := [d] }
  | _ => none }
def FnExactJacobianOfWrongFalsely : Prop := fnExactJacobianOfRow.holds Try.pinned (OpenSpec.ofChange fnExactJacobianOfWrong)

/-- 'laws.FnExactReflectionsOf': WHATEVER THE INPUT: true; the input reads as it did. -/
def fnExactReflectionsOfSpec : ChangeSpec := { name := "fnExactReflectionsOf", fn := fun _ => fun
  | [d] => { results := [.lit (.bool true)], args := [d] }
  | _ => none }
def fnExactReflectionsOfRow : OpenClaim := { program := "ytkoifikjfnbcpaa", sum := "9287efcf566855511753942702f47e617e824c998cc8c8f48667eca2ce2ea711", func := "loop.example/g01285/laws.FnExactReflectionsOf", spec := "fnExactReflectionsOf", inPlace := ["internal/bytealg.Compare"], unfollowed := true, recurses := true, plainKeys := false, apart := false }
def FnExactReflectionsOfSaid : Prop := fnExactReflectionsOfRow.holds Try.pinned (OpenSpec.ofChange fnExactReflectionsOfSpec)

/-- ITS FALSE NEIGHBOUR: 'it returns false'. Refute it at one input. -/
def fnExactReflectionsOfWrong : ChangeSpec := { name := "fnExactReflectionsOf", fn := fun _ => fun
  | [d] => { results := [.lit (.bool false)], args := [d] }
  | _ => none }
def FnExactReflectionsOfWrongFalsely : Prop := fnExactReflectionsOfRow.holds Try.pinned (OpenSpec.ofChange fnExactReflectionsOfWrong)

/- THE SECOND FORM. 'bulk': how many values and letters a reading holds, each counted each time it is reached (what is shared counts as often as it is met; a slice's spare places count too). A statement '..UptoSaid' is the law's where the arguments, and the package variables that the reading takes, are together of bulk at most 1048576: NARROWER than '..Said'. Prove '..Said' where nothing that the law and all that it calls make is longer than what came in: it says more and counts as full. Else prove '..UptoSaid'. A law counts once. -/
mutual
def uptoBulk {H : Type} : DataW H → Nat
  | .lit (.string bytes) => bytes.length + 1
  | .lit _ => 1
  | .nil => 1
  | .ptr d => uptoBulk d + 1
  | .slice elems spare => uptoBulkAll elems + uptoBulkAll spare + 1
  | .agg parts => uptoBulkAll parts + 1
  | .iface _ d => uptoBulk d + 1
  | .map entries => uptoBulkEntries entries + 1
  | .held _ => 1
def uptoBulkAll {H : Type} : List (DataW H) → Nat
  | [] => 0
  | d :: r => uptoBulk d + uptoBulkAll r
def uptoBulkEntries {H : Type} : List (Lit × DataW H) → Nat
  | [] => 0
  | x :: r => uptoBulkEntry x + uptoBulkEntries r
def uptoBulkEntry {H : Type} : Lit × DataW H → Nat
  | (.string bytes, d) => bytes.length + uptoBulk d + 1
  | (_, d) => uptoBulk d + 1
 end
def uptoSmall : (H : Type) → List (DataW H) → Bool := fun _ ds => decide (uptoBulkAll ds ≤ 1048576)
def OpenSpec.upto (s : _root_.Go.ChangeSpec) : _root_.Go.OpenSpec := { _root_.Go.OpenSpec.ofChange s with cond := some uptoSmall }

/-- 'laws.FnExactCharacteristicOf', WHERE WHAT IT READS IS OF BULK AT MOST 1048576: true; the input reads as it did. -/
def fnExactCharacteristicOfUptoRow : OpenClaim := { program := "ytkoifikjfnbcpaa", sum := "9287efcf566855511753942702f47e617e824c998cc8c8f48667eca2ce2ea711", func := "loop.example/g01285/laws.FnExactCharacteristicOf", spec := "fnExactCharacteristicOf", unfollowed := true, recurses := true, plainKeys := false, apart := false, narrowed := true }
def FnExactCharacteristicOfUptoSaid : Prop := fnExactCharacteristicOfUptoRow.holds Try.pinned (OpenSpec.upto fnExactCharacteristicOfSpec)

/-- 'laws.FnExactProductExponents', WHERE WHAT IT READS IS OF BULK AT MOST 1048576: true; the input reads as it did. -/
def fnExactProductExponentsUptoRow : OpenClaim := { program := "ytkoifikjfnbcpaa", sum := "9287efcf566855511753942702f47e617e824c998cc8c8f48667eca2ce2ea711", func := "loop.example/g01285/laws.FnExactProductExponents", spec := "fnExactProductExponents", recurses := true, plainKeys := false, apart := false, narrowed := true }
def FnExactProductExponentsUptoSaid : Prop := fnExactProductExponentsUptoRow.holds Try.pinned (OpenSpec.upto fnExactProductExponentsSpec)

/-- 'laws.FnExactMolienSeries', WHERE WHAT IT READS IS OF BULK AT MOST 1048576: true; the input reads as it did. -/
def fnExactMolienSeriesUptoRow : OpenClaim := { program := "ytkoifikjfnbcpaa", sum := "9287efcf566855511753942702f47e617e824c998cc8c8f48667eca2ce2ea711", func := "loop.example/g01285/laws.FnExactMolienSeries", spec := "fnExactMolienSeries", inPlace := ["internal/bytealg.Compare"], unfollowed := true, recurses := true, plainKeys := false, apart := false, narrowed := true }
def FnExactMolienSeriesUptoSaid : Prop := fnExactMolienSeriesUptoRow.holds Try.pinned (OpenSpec.upto fnExactMolienSeriesSpec)

/-- 'laws.FnExactPolyOfRow', WHERE WHAT IT READS IS OF BULK AT MOST 1048576: true; the input reads as it did. -/
def fnExactPolyOfRowUptoRow : OpenClaim := { program := "ytkoifikjfnbcpaa", sum := "9287efcf566855511753942702f47e617e824c998cc8c8f48667eca2ce2ea711", func := "loop.example/g01285/laws.FnExactPolyOfRow", spec := "fnExactPolyOfRow", unfollowed := true, recurses := true, plainKeys := false, apart := false, narrowed := true }
def FnExactPolyOfRowUptoSaid : Prop := fnExactPolyOfRowUptoRow.holds Try.pinned (OpenSpec.upto fnExactPolyOfRowSpec)

/-- 'laws.FnExactIsReflection', WHERE WHAT IT READS IS OF BULK AT MOST 1048576: true; the input reads as it did. -/
def fnExactIsReflectionUptoRow : OpenClaim := { program := "ytkoifikjfnbcpaa", sum := "9287efcf566855511753942702f47e617e824c998cc8c8f48667eca2ce2ea711", func := "loop.example/g01285/laws.FnExactIsReflection", spec := "fnExactIsReflection", unfollowed := true, recurses := true, plainKeys := false, apart := false, narrowed := true }
def FnExactIsReflectionUptoSaid : Prop := fnExactIsReflectionUptoRow.holds Try.pinned (OpenSpec.upto fnExactIsReflectionSpec)

/-- 'laws.FnExactDicksonInvariant', WHERE WHAT IT READS IS OF BULK AT MOST 1048576: true; the input reads as it did. -/
def fnExactDicksonInvariantUptoRow : OpenClaim := { program := "ytkoifikjfnbcpaa", sum := "9287efcf566855511753942702f47e617e824c998cc8c8f48667eca2ce2ea711", func := "loop.example/g01285/laws.FnExactDicksonInvariant", spec := "fnExactDicksonInvariant", unfollowed := true, recurses := true, plainKeys := false, apart := false, narrowed := true }
def FnExactDicksonInvariantUptoSaid : Prop := fnExactDicksonInvariantUptoRow.holds Try.pinned (OpenSpec.upto fnExactDicksonInvariantSpec)

/-- 'laws.FnExactRootOfReflection', WHERE WHAT IT READS IS OF BULK AT MOST 1048576: true; the input reads as it did. -/
def fnExactRootOfReflectionUptoRow : OpenClaim := { program := "ytkoifikjfnbcpaa", sum := "9287efcf566855511753942702f47e617e824c998cc8c8f48667eca2ce2ea711", func := "loop.example/g01285/laws.FnExactRootOfReflection", spec := "fnExactRootOfReflection", unfollowed := true, recurses := true, plainKeys := false, apart := false, narrowed := true }
def FnExactRootOfReflectionUptoSaid : Prop := fnExactRootOfReflectionUptoRow.holds Try.pinned (OpenSpec.upto fnExactRootOfReflectionSpec)

/-- 'laws.FnExactMirrorOf', WHERE WHAT IT READS IS OF BULK AT MOST 1048576: true; the input reads as it did. -/
def fnExactMirrorOfUptoRow : OpenClaim := { program := "ytkoifikjfnbcpaa", sum := "9287efcf566855511753942702f47e617e824c998cc8c8f48667eca2ce2ea711", func := "loop.example/g01285/laws.FnExactMirrorOf", spec := "fnExactMirrorOf", unfollowed := true, recurses := true, plainKeys := false, apart := false, narrowed := true }
def FnExactMirrorOfUptoSaid : Prop := fnExactMirrorOfUptoRow.holds Try.pinned (OpenSpec.upto fnExactMirrorOfSpec)

/-- 'laws.FnExactFormOfReflection', WHERE WHAT IT READS IS OF BULK AT MOST 1048576: true; the input reads as it did. -/
def fnExactFormOfReflectionUptoRow : OpenClaim := { program := "ytkoifikjfnbcpaa", sum := "9287efcf566855511753942702f47e617e824c998cc8c8f48667eca2ce2ea711", func := "loop.example/g01285/laws.FnExactFormOfReflection", spec := "fnExactFormOfReflection", unfollowed := true, recurses := true, plainKeys := false, apart := false, narrowed := true }
def FnExactFormOfReflectionUptoSaid : Prop := fnExactFormOfReflectionUptoRow.holds Try.pinned (OpenSpec.upto fnExactFormOfReflectionSpec)

/-- 'laws.FnExactProductOfList', WHERE WHAT IT READS IS OF BULK AT MOST 1048576: true; the input reads as it did. -/
def fnExactProductOfListUptoRow : OpenClaim := { program := "ytkoifikjfnbcpaa", sum := "9287efcf566855511753942702f47e617e824c998cc8c8f48667eca2ce2ea711", func := "loop.example/g01285/laws.FnExactProductOfList", spec := "fnExactProductOfList", unfollowed := true, recurses := true, plainKeys := false, apart := false, narrowed := true }
def FnExactProductOfListUptoSaid : Prop := fnExactProductOfListUptoRow.holds Try.pinned (OpenSpec.upto fnExactProductOfListSpec)

/-- 'laws.FnExactJacobianOf', WHERE WHAT IT READS IS OF BULK AT MOST 1048576: true; the input reads as it did. -/
def fnExactJacobianOfUptoRow : OpenClaim := { program := "ytkoifikjfnbcpaa", sum := "9287efcf566855511753942702f47e617e824c998cc8c8f48667eca2ce2ea711", func := "loop.example/g01285/laws.FnExactJacobianOf", spec := "fnExactJacobianOf", unfollowed := true, recurses := true, plainKeys := false, apart := false, narrowed := true }
def FnExactJacobianOfUptoSaid : Prop := fnExactJacobianOfUptoRow.holds Try.pinned (OpenSpec.upto fnExactJacobianOfSpec)

/-- 'laws.FnExactReflectionsOf', WHERE WHAT IT READS IS OF BULK AT MOST 1048576: true; the input reads as it did. -/
def fnExactReflectionsOfUptoRow : OpenClaim := { program := "ytkoifikjfnbcpaa", sum := "9287efcf566855511753942702f47e617e824c998cc8c8f48667eca2ce2ea711", func := "loop.example/g01285/laws.FnExactReflectionsOf", spec := "fnExactReflectionsOf", inPlace := ["internal/bytealg.Compare"], unfollowed := true, recurses := true, plainKeys := false, apart := false, narrowed := true }
def FnExactReflectionsOfUptoSaid : Prop := fnExactReflectionsOfUptoRow.holds Try.pinned (OpenSpec.upto fnExactReflectionsOfSpec)

end Rows
end Go.Proofs.Ytkoifikjfnbcpaa
