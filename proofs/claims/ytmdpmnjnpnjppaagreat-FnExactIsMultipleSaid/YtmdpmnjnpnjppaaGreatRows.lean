/-
  No cell of these rows narrows 'for every input' (looked for: loops, veiled, ifaces, maps, wideKeys, modest, calm, conditions, laid).
  DERIVED. THE GIVEN ROWS OF THIS SEAT. 20 by the template 'for every input the law returns true; each argument reads behind the call as it read before'; 0 by the template 'total and deterministic' (their statements: YtmdpmnjnpnjppaaGreatTotals.lean).
  GIVEN WITH THE SEED: the statements are not yours to turn. If you find one false, say at which input.
  Laid BY PROGRAM, IN A SANDBOX (cutbox-rows.mjs): the forced cells as the released guide's own fill.sh prints them over the translation a35eaac721a282f0… (all of the seat's roots in one cut). By AI agents, Wed Nov 11 2026. No macro, syntax, notation, axiom, sorry.
-/
import Derived.Test.YtmdpmnjnpnjppaaGreatChecked
import GoSem.Claim
import GoSem.ClaimJoined
import GoSem.ClaimMapViews
import Derived.JoinedTies
import Derived.KernelRfl
namespace Go.Proofs.YtmdpmnjnpnjppaaGreat
/- THE CELL 'sum', in the pinned program and in every row, IS THE sha256 OF THE DUMP (.gsa) THAT YtmdpmnjnpnjppaaGreatProg.lean LOADS. Nothing in Lean hashes anything: it is a label: what it is worth is what the hold of that sum in a sandbox is worth. -/
noncomputable def Tryz.pinned : Pinned := { name := "ytmdpmnjnpnjppaagreat", sum := "a35eaac721a282f0e9e4033d6a7e0d6c584c603d208cf12a0a4013c206826a14", checked := Tryz.checked }
namespace Rows
def none {H : Type} : Left H := { results := [], args := [] }

/-- 'laws.FnExactIsMultiple': WHATEVER THE INPUT: true; the input reads as it did. -/
def fnExactIsMultipleSpec : ChangeSpec := { name := "fnExactIsMultiple", fn := fun _ => fun
  | [d1, d2] => { results := [.lit (.bool true)], args := [d1, d2] }
  | _ => none }
def fnExactIsMultipleRow : OpenClaim := { program := "ytmdpmnjnpnjppaagreat", sum := "a35eaac721a282f0e9e4033d6a7e0d6c584c603d208cf12a0a4013c206826a14", func := "loop.example/g01285/laws.FnExactIsMultiple", spec := "fnExactIsMultiple", unfollowed := true, recurses := true, plainKeys := false, apart := false }
def FnExactIsMultipleSaid : Prop := fnExactIsMultipleRow.holds Tryz.pinned (OpenSpec.ofChange fnExactIsMultipleSpec)

/-- ITS FALSE NEIGHBOUR: 'it returns false'. Refute it at one input. -/
def fnExactIsMultipleWrong : ChangeSpec := { name := "fnExactIsMultiple", fn := fun _ => fun
  | [d1, d2] => { results := [.lit (.bool false)], args := [d1, d2] }
  | _ => none }
def FnExactIsMultipleWrongFalsely : Prop := fnExactIsMultipleRow.holds Tryz.pinned (OpenSpec.ofChange fnExactIsMultipleWrong)

/-- 'laws.FnExactRestNumber': WHATEVER THE INPUT: true; the input reads as it did. -/
def fnExactRestNumberSpec : ChangeSpec := { name := "fnExactRestNumber", fn := fun _ => fun
  | [d1, d2] => { results := [.lit (.bool true)], args := [d1, d2] }
  | _ => none }
def fnExactRestNumberRow : OpenClaim := { program := "ytmdpmnjnpnjppaagreat", sum := "a35eaac721a282f0e9e4033d6a7e0d6c584c603d208cf12a0a4013c206826a14", func := "loop.example/g01285/laws.FnExactRestNumber", spec := "fnExactRestNumber", unfollowed := true, recurses := true, plainKeys := false, apart := false }
def FnExactRestNumberSaid : Prop := fnExactRestNumberRow.holds Tryz.pinned (OpenSpec.ofChange fnExactRestNumberSpec)

/-- ITS FALSE NEIGHBOUR: 'it returns false'. Refute it at one input. -/
def fnExactRestNumberWrong : ChangeSpec := { name := "fnExactRestNumber", fn := fun _ => fun
  | [d1, d2] => { results := [.lit (.bool false)], args := [d1, d2] }
  | _ => none }
def FnExactRestNumberWrongFalsely : Prop := fnExactRestNumberRow.holds Tryz.pinned (OpenSpec.ofChange fnExactRestNumberWrong)

/-- 'laws.FnExactAreParameters': WHATEVER THE INPUT: true; the input reads as it did. -/
def fnExactAreParametersSpec : ChangeSpec := { name := "fnExactAreParameters", fn := fun _ => fun
  | [d] => { results := [.lit (.bool true)], args := [d] }
  | _ => none }
def fnExactAreParametersRow : OpenClaim := { program := "ytmdpmnjnpnjppaagreat", sum := "a35eaac721a282f0e9e4033d6a7e0d6c584c603d208cf12a0a4013c206826a14", func := "loop.example/g01285/laws.FnExactAreParameters", spec := "fnExactAreParameters", unfollowed := true, recurses := true, plainKeys := false, apart := false }
def FnExactAreParametersSaid : Prop := fnExactAreParametersRow.holds Tryz.pinned (OpenSpec.ofChange fnExactAreParametersSpec)

/-- ITS FALSE NEIGHBOUR: 'it returns false'. Refute it at one input. -/
def fnExactAreParametersWrong : ChangeSpec := { name := "fnExactAreParameters", fn := fun _ => fun
  | [d] => { results := [.lit (.bool false)], args := [d] }
  | _ => none }
def FnExactAreParametersWrongFalsely : Prop := fnExactAreParametersRow.holds Tryz.pinned (OpenSpec.ofChange fnExactAreParametersWrong)

/-- 'laws.FnExactIsGenerated': WHATEVER THE INPUT: true; the input reads as it did. -/
def fnExactIsGeneratedSpec : ChangeSpec := { name := "fnExactIsGenerated", fn := fun _ => fun
  | [d1, d2] => { results := [.lit (.bool true)], args := [d1, d2] }
  | _ => none }
def fnExactIsGeneratedRow : OpenClaim := { program := "ytmdpmnjnpnjppaagreat", sum := "a35eaac721a282f0e9e4033d6a7e0d6c584c603d208cf12a0a4013c206826a14", func := "loop.example/g01285/laws.FnExactIsGenerated", spec := "fnExactIsGenerated", unfollowed := true, recurses := true, plainKeys := false, apart := false }
def FnExactIsGeneratedSaid : Prop := fnExactIsGeneratedRow.holds Tryz.pinned (OpenSpec.ofChange fnExactIsGeneratedSpec)

/-- ITS FALSE NEIGHBOUR: 'it returns false'. Refute it at one input. -/
def fnExactIsGeneratedWrong : ChangeSpec := { name := "fnExactIsGenerated", fn := fun _ => fun
  | [d1, d2] => { results := [.lit (.bool false)], args := [d1, d2] }
  | _ => none }
def FnExactIsGeneratedWrongFalsely : Prop := fnExactIsGeneratedRow.holds Tryz.pinned (OpenSpec.ofChange fnExactIsGeneratedWrong)

/-- 'laws.FnExactRestNumbers': WHATEVER THE INPUT: true; the input reads as it did. -/
def fnExactRestNumbersSpec : ChangeSpec := { name := "fnExactRestNumbers", fn := fun _ => fun
  | [d1, d2] => { results := [.lit (.bool true)], args := [d1, d2] }
  | _ => none }
def fnExactRestNumbersRow : OpenClaim := { program := "ytmdpmnjnpnjppaagreat", sum := "a35eaac721a282f0e9e4033d6a7e0d6c584c603d208cf12a0a4013c206826a14", func := "loop.example/g01285/laws.FnExactRestNumbers", spec := "fnExactRestNumbers", unfollowed := true, recurses := true, plainKeys := false, apart := false }
def FnExactRestNumbersSaid : Prop := fnExactRestNumbersRow.holds Tryz.pinned (OpenSpec.ofChange fnExactRestNumbersSpec)

/-- ITS FALSE NEIGHBOUR: 'it returns false'. Refute it at one input. -/
def fnExactRestNumbersWrong : ChangeSpec := { name := "fnExactRestNumbers", fn := fun _ => fun
  | [d1, d2] => { results := [.lit (.bool false)], args := [d1, d2] }
  | _ => none }
def FnExactRestNumbersWrongFalsely : Prop := fnExactRestNumbersRow.holds Tryz.pinned (OpenSpec.ofChange fnExactRestNumbersWrong)

/-- 'laws.FnExactAreFree': WHATEVER THE INPUT: true; the input reads as it did. -/
def fnExactAreFreeSpec : ChangeSpec := { name := "fnExactAreFree", fn := fun _ => fun
  | [d1, d2] => { results := [.lit (.bool true)], args := [d1, d2] }
  | _ => none }
def fnExactAreFreeRow : OpenClaim := { program := "ytmdpmnjnpnjppaagreat", sum := "a35eaac721a282f0e9e4033d6a7e0d6c584c603d208cf12a0a4013c206826a14", func := "loop.example/g01285/laws.FnExactAreFree", spec := "fnExactAreFree", unfollowed := true, recurses := true, plainKeys := false, apart := false }
def FnExactAreFreeSaid : Prop := fnExactAreFreeRow.holds Tryz.pinned (OpenSpec.ofChange fnExactAreFreeSpec)

/-- ITS FALSE NEIGHBOUR: 'it returns false'. Refute it at one input. -/
def fnExactAreFreeWrong : ChangeSpec := { name := "fnExactAreFree", fn := fun _ => fun
  | [d1, d2] => { results := [.lit (.bool false)], args := [d1, d2] }
  | _ => none }
def FnExactAreFreeWrongFalsely : Prop := fnExactAreFreeRow.holds Tryz.pinned (OpenSpec.ofChange fnExactAreFreeWrong)

/-- 'laws.FnExactGeneratedBasis': WHATEVER THE INPUT: true; the input reads as it did. -/
def fnExactGeneratedBasisSpec : ChangeSpec := { name := "fnExactGeneratedBasis", fn := fun _ => fun
  | [d1, d2] => { results := [.lit (.bool true)], args := [d1, d2] }
  | _ => none }
def fnExactGeneratedBasisRow : OpenClaim := { program := "ytmdpmnjnpnjppaagreat", sum := "a35eaac721a282f0e9e4033d6a7e0d6c584c603d208cf12a0a4013c206826a14", func := "loop.example/g01285/laws.FnExactGeneratedBasis", spec := "fnExactGeneratedBasis", unfollowed := true, recurses := true, plainKeys := false, apart := false }
def FnExactGeneratedBasisSaid : Prop := fnExactGeneratedBasisRow.holds Tryz.pinned (OpenSpec.ofChange fnExactGeneratedBasisSpec)

/-- ITS FALSE NEIGHBOUR: 'it returns false'. Refute it at one input. -/
def fnExactGeneratedBasisWrong : ChangeSpec := { name := "fnExactGeneratedBasis", fn := fun _ => fun
  | [d1, d2] => { results := [.lit (.bool false)], args := [d1, d2] }
  | _ => none }
def FnExactGeneratedBasisWrongFalsely : Prop := fnExactGeneratedBasisRow.holds Tryz.pinned (OpenSpec.ofChange fnExactGeneratedBasisWrong)

/-- 'laws.FnExactMirrorProduct': WHATEVER THE INPUT: true; the input reads as it did. -/
def fnExactMirrorProductSpec : ChangeSpec := { name := "fnExactMirrorProduct", fn := fun _ => fun
  | [d] => { results := [.lit (.bool true)], args := [d] }
  | _ => none }
def fnExactMirrorProductRow : OpenClaim := { program := "ytmdpmnjnpnjppaagreat", sum := "a35eaac721a282f0e9e4033d6a7e0d6c584c603d208cf12a0a4013c206826a14", func := "loop.example/g01285/laws.FnExactMirrorProduct", spec := "fnExactMirrorProduct", inPlace := ["internal/bytealg.Compare"], unfollowed := true, recurses := true, plainKeys := false, apart := false }
def FnExactMirrorProductSaid : Prop := fnExactMirrorProductRow.holds Tryz.pinned (OpenSpec.ofChange fnExactMirrorProductSpec)

/-- ITS FALSE NEIGHBOUR: 'it returns false'. Refute it at one input. -/
def fnExactMirrorProductWrong : ChangeSpec := { name := "fnExactMirrorProduct", fn := fun _ => fun
  | [d] => { results := [.lit (.bool false)], args := [d] }
  | _ => none }
def FnExactMirrorProductWrongFalsely : Prop := fnExactMirrorProductRow.holds Tryz.pinned (OpenSpec.ofChange fnExactMirrorProductWrong)

/-- 'laws.FnExactInvariantDimension': WHATEVER THE INPUT: true; the input reads as it did. -/
def fnExactInvariantDimensionSpec : ChangeSpec := { name := "fnExactInvariantDimension", fn := fun _ => fun
  | [d1, d2] => { results := [.lit (.bool true)], args := [d1, d2] }
  | _ => none }
def fnExactInvariantDimensionRow : OpenClaim := { program := "ytmdpmnjnpnjppaagreat", sum := "a35eaac721a282f0e9e4033d6a7e0d6c584c603d208cf12a0a4013c206826a14", func := "loop.example/g01285/laws.FnExactInvariantDimension", spec := "fnExactInvariantDimension", inPlace := ["internal/bytealg.Compare"], unfollowed := true, recurses := true, plainKeys := false, apart := false }
def FnExactInvariantDimensionSaid : Prop := fnExactInvariantDimensionRow.holds Tryz.pinned (OpenSpec.ofChange fnExactInvariantDimensionSpec)

/-- ITS FALSE NEIGHBOUR: 'it returns false'. Refute it at one input. -/
def fnExactInvariantDimensionWrong : ChangeSpec := { name := "fnExactInvariantDimension", fn := fun _ => fun
  | [d1, d2] => { results := [.lit (.bool false)], args := [d1, d2] }
  | _ => none }
def FnExactInvariantDimensionWrongFalsely : Prop := fnExactInvariantDimensionRow.holds Tryz.pinned (OpenSpec.ofChange fnExactInvariantDimensionWrong)

/-- 'laws.FnExactInvariantNumbers': WHATEVER THE INPUT: true; the input reads as it did. -/
def fnExactInvariantNumbersSpec : ChangeSpec := { name := "fnExactInvariantNumbers", fn := fun _ => fun
  | [d1, d2] => { results := [.lit (.bool true)], args := [d1, d2] }
  | _ => none }
def fnExactInvariantNumbersRow : OpenClaim := { program := "ytmdpmnjnpnjppaagreat", sum := "a35eaac721a282f0e9e4033d6a7e0d6c584c603d208cf12a0a4013c206826a14", func := "loop.example/g01285/laws.FnExactInvariantNumbers", spec := "fnExactInvariantNumbers", inPlace := ["internal/bytealg.Compare"], unfollowed := true, recurses := true, plainKeys := false, apart := false }
def FnExactInvariantNumbersSaid : Prop := fnExactInvariantNumbersRow.holds Tryz.pinned (OpenSpec.ofChange fnExactInvariantNumbersSpec)

/-- ITS FALSE NEIGHBOUR: 'it returns false'. Refute it at one input. -/
def fnExactInvariantNumbersWrong : ChangeSpec := { name := "fnExactInvariantNumbers", fn := fun _ => fun
  | [d1, d2] => { results := [.lit (.bool false)], args := [d1, d2] }
  | _ => none }
def FnExactInvariantNumbersWrongFalsely : Prop := fnExactInvariantNumbersRow.holds Tryz.pinned (OpenSpec.ofChange fnExactInvariantNumbersWrong)

/-- 'laws.FnExactHilbertSeries': WHATEVER THE INPUT: true; the input reads as it did. -/
def fnExactHilbertSeriesSpec : ChangeSpec := { name := "fnExactHilbertSeries", fn := fun _ => fun
  | [d1, d2] => { results := [.lit (.bool true)], args := [d1, d2] }
  | _ => none }
def fnExactHilbertSeriesRow : OpenClaim := { program := "ytmdpmnjnpnjppaagreat", sum := "a35eaac721a282f0e9e4033d6a7e0d6c584c603d208cf12a0a4013c206826a14", func := "loop.example/g01285/laws.FnExactHilbertSeries", spec := "fnExactHilbertSeries", inPlace := ["internal/bytealg.Compare"], unfollowed := true, recurses := true, plainKeys := false, apart := false }
def FnExactHilbertSeriesSaid : Prop := fnExactHilbertSeriesRow.holds Tryz.pinned (OpenSpec.ofChange fnExactHilbertSeriesSpec)

/-- ITS FALSE NEIGHBOUR: 'it returns false'. Refute it at one input. -/
def fnExactHilbertSeriesWrong : ChangeSpec := { name := "fnExactHilbertSeries", fn := fun _ => fun
  | [d1, d2] => { results := [.lit (.bool false)], args := [d1, d2] }
  | _ => none }
def FnExactHilbertSeriesWrongFalsely : Prop := fnExactHilbertSeriesRow.holds Tryz.pinned (OpenSpec.ofChange fnExactHilbertSeriesWrong)

/-- 'laws.FnExactCoinvariantNumber': WHATEVER THE INPUT: true; the input reads as it did. -/
def fnExactCoinvariantNumberSpec : ChangeSpec := { name := "fnExactCoinvariantNumber", fn := fun _ => fun
  | [d1, d2] => { results := [.lit (.bool true)], args := [d1, d2] }
  | _ => none }
def fnExactCoinvariantNumberRow : OpenClaim := { program := "ytmdpmnjnpnjppaagreat", sum := "a35eaac721a282f0e9e4033d6a7e0d6c584c603d208cf12a0a4013c206826a14", func := "loop.example/g01285/laws.FnExactCoinvariantNumber", spec := "fnExactCoinvariantNumber", inPlace := ["internal/bytealg.Compare"], unfollowed := true, recurses := true, plainKeys := false, apart := false }
def FnExactCoinvariantNumberSaid : Prop := fnExactCoinvariantNumberRow.holds Tryz.pinned (OpenSpec.ofChange fnExactCoinvariantNumberSpec)

/-- ITS FALSE NEIGHBOUR: 'it returns false'. Refute it at one input. -/
def fnExactCoinvariantNumberWrong : ChangeSpec := { name := "fnExactCoinvariantNumber", fn := fun _ => fun
  | [d1, d2] => { results := [.lit (.bool false)], args := [d1, d2] }
  | _ => none }
def FnExactCoinvariantNumberWrongFalsely : Prop := fnExactCoinvariantNumberRow.holds Tryz.pinned (OpenSpec.ofChange fnExactCoinvariantNumberWrong)

/-- 'laws.FnExactInvariantBasis': WHATEVER THE INPUT: true; the input reads as it did. -/
def fnExactInvariantBasisSpec : ChangeSpec := { name := "fnExactInvariantBasis", fn := fun _ => fun
  | [d1, d2] => { results := [.lit (.bool true)], args := [d1, d2] }
  | _ => none }
def fnExactInvariantBasisRow : OpenClaim := { program := "ytmdpmnjnpnjppaagreat", sum := "a35eaac721a282f0e9e4033d6a7e0d6c584c603d208cf12a0a4013c206826a14", func := "loop.example/g01285/laws.FnExactInvariantBasis", spec := "fnExactInvariantBasis", inPlace := ["internal/bytealg.Compare"], unfollowed := true, recurses := true, plainKeys := false, apart := false }
def FnExactInvariantBasisSaid : Prop := fnExactInvariantBasisRow.holds Tryz.pinned (OpenSpec.ofChange fnExactInvariantBasisSpec)

/-- ITS FALSE NEIGHBOUR: 'it returns false'. Refute it at one input. -/
def fnExactInvariantBasisWrong : ChangeSpec := { name := "fnExactInvariantBasis", fn := fun _ => fun
  | [d1, d2] => { results := [.lit (.bool false)], args := [d1, d2] }
  | _ => none }
def FnExactInvariantBasisWrongFalsely : Prop := fnExactInvariantBasisRow.holds Tryz.pinned (OpenSpec.ofChange fnExactInvariantBasisWrong)

/-- 'laws.FnExactNeededNumbers': WHATEVER THE INPUT: true; the input reads as it did. -/
def fnExactNeededNumbersSpec : ChangeSpec := { name := "fnExactNeededNumbers", fn := fun _ => fun
  | [d1, d2] => { results := [.lit (.bool true)], args := [d1, d2] }
  | _ => none }
def fnExactNeededNumbersRow : OpenClaim := { program := "ytmdpmnjnpnjppaagreat", sum := "a35eaac721a282f0e9e4033d6a7e0d6c584c603d208cf12a0a4013c206826a14", func := "loop.example/g01285/laws.FnExactNeededNumbers", spec := "fnExactNeededNumbers", inPlace := ["internal/bytealg.Compare"], unfollowed := true, recurses := true, plainKeys := false, apart := false }
def FnExactNeededNumbersSaid : Prop := fnExactNeededNumbersRow.holds Tryz.pinned (OpenSpec.ofChange fnExactNeededNumbersSpec)

/-- ITS FALSE NEIGHBOUR: 'it returns false'. Refute it at one input. -/
def fnExactNeededNumbersWrong : ChangeSpec := { name := "fnExactNeededNumbers", fn := fun _ => fun
  | [d1, d2] => { results := [.lit (.bool false)], args := [d1, d2] }
  | _ => none }
def FnExactNeededNumbersWrongFalsely : Prop := fnExactNeededNumbersRow.holds Tryz.pinned (OpenSpec.ofChange fnExactNeededNumbersWrong)

/-- 'laws.FnExactGeneratorsOf': WHATEVER THE INPUT: true; the input reads as it did. -/
def fnExactGeneratorsOfSpec : ChangeSpec := { name := "fnExactGeneratorsOf", fn := fun _ => fun
  | [d1, d2] => { results := [.lit (.bool true)], args := [d1, d2] }
  | _ => none }
def fnExactGeneratorsOfRow : OpenClaim := { program := "ytmdpmnjnpnjppaagreat", sum := "a35eaac721a282f0e9e4033d6a7e0d6c584c603d208cf12a0a4013c206826a14", func := "loop.example/g01285/laws.FnExactGeneratorsOf", spec := "fnExactGeneratorsOf", inPlace := ["internal/bytealg.Compare"], unfollowed := true, recurses := true, plainKeys := false, apart := false }
def FnExactGeneratorsOfSaid : Prop := fnExactGeneratorsOfRow.holds Tryz.pinned (OpenSpec.ofChange fnExactGeneratorsOfSpec)

/-- ITS FALSE NEIGHBOUR: 'it returns false'. Refute it at one input. -/
def fnExactGeneratorsOfWrong : ChangeSpec := { name := "fnExactGeneratorsOf", fn := fun _ => fun
  | [d1, d2] => { results := [.lit (.bool false)], args := [d1, d2] }
  | _ => none }
def FnExactGeneratorsOfWrongFalsely : Prop := fnExactGeneratorsOfRow.holds Tryz.pinned (OpenSpec.ofChange fnExactGeneratorsOfWrong)

/-- 'laws.FnExactSecondaryNumber': WHATEVER THE INPUT: true; the input reads as it did. -/
def fnExactSecondaryNumberSpec : ChangeSpec := { name := "fnExactSecondaryNumber", fn := fun _ => fun
  | [d1, d2] => { results := [.lit (.bool true)], args := [d1, d2] }
  | _ => none }
def fnExactSecondaryNumberRow : OpenClaim := { program := "ytmdpmnjnpnjppaagreat", sum := "a35eaac721a282f0e9e4033d6a7e0d6c584c603d208cf12a0a4013c206826a14", func := "loop.example/g01285/laws.FnExactSecondaryNumber", spec := "fnExactSecondaryNumber", inPlace := ["internal/bytealg.Compare"], unfollowed := true, recurses := true, plainKeys := false, apart := false }
def FnExactSecondaryNumberSaid : Prop := fnExactSecondaryNumberRow.holds Tryz.pinned (OpenSpec.ofChange fnExactSecondaryNumberSpec)

/-- ITS FALSE NEIGHBOUR: 'it returns false'. Refute it at one input. -/
def fnExactSecondaryNumberWrong : ChangeSpec := { name := "fnExactSecondaryNumber", fn := fun _ => fun
  | [d1, d2] => { results := [.lit (.bool false)], args := [d1, d2] }
  | _ => none }
def FnExactSecondaryNumberWrongFalsely : Prop := fnExactSecondaryNumberRow.holds Tryz.pinned (OpenSpec.ofChange fnExactSecondaryNumberWrong)

/-- 'laws.FnExactIsGenerating': WHATEVER THE INPUT: true; the input reads as it did. -/
def fnExactIsGeneratingSpec : ChangeSpec := { name := "fnExactIsGenerating", fn := fun _ => fun
  | [d1, d2, d3] => { results := [.lit (.bool true)], args := [d1, d2, d3] }
  | _ => none }
def fnExactIsGeneratingRow : OpenClaim := { program := "ytmdpmnjnpnjppaagreat", sum := "a35eaac721a282f0e9e4033d6a7e0d6c584c603d208cf12a0a4013c206826a14", func := "loop.example/g01285/laws.FnExactIsGenerating", spec := "fnExactIsGenerating", inPlace := ["internal/bytealg.Compare"], unfollowed := true, recurses := true, plainKeys := false, apart := false }
def FnExactIsGeneratingSaid : Prop := fnExactIsGeneratingRow.holds Tryz.pinned (OpenSpec.ofChange fnExactIsGeneratingSpec)

/-- ITS FALSE NEIGHBOUR: 'it returns false'. Refute it at one input. -/
def fnExactIsGeneratingWrong : ChangeSpec := { name := "fnExactIsGenerating", fn := fun _ => fun
  | [d1, d2, d3] => { results := [.lit (.bool false)], args := [d1, d2, d3] }
  | _ => none }
def FnExactIsGeneratingWrongFalsely : Prop := fnExactIsGeneratingRow.holds Tryz.pinned (OpenSpec.ofChange fnExactIsGeneratingWrong)

/-- 'laws.FnExactSecondaryDegrees': WHATEVER THE INPUT: true; the input reads as it did. -/
def fnExactSecondaryDegreesSpec : ChangeSpec := { name := "fnExactSecondaryDegrees", fn := fun _ => fun
  | [d1, d2] => { results := [.lit (.bool true)], args := [d1, d2] }
  | _ => none }
def fnExactSecondaryDegreesRow : OpenClaim := { program := "ytmdpmnjnpnjppaagreat", sum := "a35eaac721a282f0e9e4033d6a7e0d6c584c603d208cf12a0a4013c206826a14", func := "loop.example/g01285/laws.FnExactSecondaryDegrees", spec := "fnExactSecondaryDegrees", inPlace := ["internal/bytealg.Compare"], unfollowed := true, recurses := true, plainKeys := false, apart := false }
def FnExactSecondaryDegreesSaid : Prop := fnExactSecondaryDegreesRow.holds Tryz.pinned (OpenSpec.ofChange fnExactSecondaryDegreesSpec)

/-- ITS FALSE NEIGHBOUR: 'it returns false'. Refute it at one input. -/
def fnExactSecondaryDegreesWrong : ChangeSpec := { name := "fnExactSecondaryDegrees", fn := fun _ => fun
  | [d1, d2] => { results := [.lit (.bool false)], args := [d1, d2] }
  | _ => none }
def FnExactSecondaryDegreesWrongFalsely : Prop := fnExactSecondaryDegreesRow.holds Tryz.pinned (OpenSpec.ofChange fnExactSecondaryDegreesWrong)

/-- 'laws.FnExactSecondaryInvariants': WHATEVER THE INPUT: true; the input reads as it did. -/
def fnExactSecondaryInvariantsSpec : ChangeSpec := { name := "fnExactSecondaryInvariants", fn := fun _ => fun
  | [d1, d2, d3] => { results := [.lit (.bool true)], args := [d1, d2, d3] }
  | _ => none }
def fnExactSecondaryInvariantsRow : OpenClaim := { program := "ytmdpmnjnpnjppaagreat", sum := "a35eaac721a282f0e9e4033d6a7e0d6c584c603d208cf12a0a4013c206826a14", func := "loop.example/g01285/laws.FnExactSecondaryInvariants", spec := "fnExactSecondaryInvariants", inPlace := ["internal/bytealg.Compare"], unfollowed := true, recurses := true, plainKeys := false, apart := false }
def FnExactSecondaryInvariantsSaid : Prop := fnExactSecondaryInvariantsRow.holds Tryz.pinned (OpenSpec.ofChange fnExactSecondaryInvariantsSpec)

/-- ITS FALSE NEIGHBOUR: 'it returns false'. Refute it at one input. -/
def fnExactSecondaryInvariantsWrong : ChangeSpec := { name := "fnExactSecondaryInvariants", fn := fun _ => fun
  | [d1, d2, d3] => { results := [.lit (.bool false)], args := [d1, d2, d3] }
  | _ => none }
def FnExactSecondaryInvariantsWrongFalsely : Prop := fnExactSecondaryInvariantsRow.holds Tryz.pinned (OpenSpec.ofChange fnExactSecondaryInvariantsWrong)

/-- 'laws.FnExactAllSecondaries': WHATEVER THE INPUT: true; the input reads as it did. -/
def fnExactAllSecondariesSpec : ChangeSpec := { name := "fnExactAllSecondaries", fn := fun _ => fun
  | [d1, d2] => { results := [.lit (.bool true)], args := [d1, d2] }
  | _ => none }
def fnExactAllSecondariesRow : OpenClaim := { program := "ytmdpmnjnpnjppaagreat", sum := "a35eaac721a282f0e9e4033d6a7e0d6c584c603d208cf12a0a4013c206826a14", func := "loop.example/g01285/laws.FnExactAllSecondaries", spec := "fnExactAllSecondaries", inPlace := ["internal/bytealg.Compare"], unfollowed := true, recurses := true, plainKeys := false, apart := false }
def FnExactAllSecondariesSaid : Prop := fnExactAllSecondariesRow.holds Tryz.pinned (OpenSpec.ofChange fnExactAllSecondariesSpec)

/-- ITS FALSE NEIGHBOUR: 'it returns false'. Refute it at one input. -/
def fnExactAllSecondariesWrong : ChangeSpec := { name := "fnExactAllSecondaries", fn := fun _ => fun
  | [d1, d2] => { results := [.lit (.bool false)], args := [d1, d2] }
  | _ => none }
def FnExactAllSecondariesWrongFalsely : Prop := fnExactAllSecondariesRow.holds Tryz.pinned (OpenSpec.ofChange fnExactAllSecondariesWrong)

/- THE SECOND FORM. 'bulk': how many values and letters a reading holds, each counted each time it is reached (what is shared counts as often as it is met; a slice's spare places count too). A statement '..UptoSaid' is the law's where the arguments, and the package variables that the reading takes, are together of bulk at most 1048576: NARROWER than '..Said'. Prove '..Said' where nothing that the law and all that it calls make is longer than what came in: it says more and counts as full. Else prove '..UptoSaid'. A law counts once. -/
mutual
def uptoBulk {H : Type} : DataW H → Nat
  | .lit (.string bytes) => bytes.length + 1
  | .lit _ => 1
  | .nil => 1
  | .ptr d => uptoBulk d + 1
  | .slice elems spare => uptoBulkAll elems + uptoBulkAll spare + 1
  | .agg parts => uptoBulkAll parts + 1
  | .iface _ d => uptoBulk d + 1
  | .map entries => uptoBulkEntries entries + 1
  | .held _ => 1
def uptoBulkAll {H : Type} : List (DataW H) → Nat
  | [] => 0
  | d :: r => uptoBulk d + uptoBulkAll r
def uptoBulkEntries {H : Type} : List (Lit × DataW H) → Nat
  | [] => 0
  | x :: r => uptoBulkEntry x + uptoBulkEntries r
def uptoBulkEntry {H : Type} : Lit × DataW H → Nat
  | (.string bytes, d) => bytes.length + uptoBulk d + 1
  | (_, d) => uptoBulk d + 1
 end
def uptoSmall : (H : Type) → List (DataW H) → Bool := fun _ ds => decide (uptoBulkAll ds ≤ 1048576)
def OpenSpec.upto (s : _root_.Go.ChangeSpec) : _root_.Go.OpenSpec := { _root_.Go.OpenSpec.ofChange s with cond := some uptoSmall }

/-- 'laws.FnExactIsMultiple', WHERE WHAT IT READS IS OF BULK AT MOST 1048576: true; the input reads as it did. -/
def fnExactIsMultipleUptoRow : OpenClaim := { program := "ytmdpmnjnpnjppaagreat", sum := "a35eaac721a282f0e9e4033d6a7e0d6c584c603d208cf12a0a4013c206826a14", func := "loop.example/g01285/laws.FnExactIsMultiple", spec := "fnExactIsMultiple", unfollowed := true, recurses := true, plainKeys := false, apart := false, narrowed := true }
def FnExactIsMultipleUptoSaid : Prop := fnExactIsMultipleUptoRow.holds Tryz.pinned (OpenSpec.upto fnExactIsMultipleSpec)

/-- 'laws.FnExactRestNumber', WHERE WHAT IT READS IS OF BULK AT MOST 1048576: true; the input reads as it did. -/
def fnExactRestNumberUptoRow : OpenClaim := { program := "ytmdpmnjnpnjppaagreat", sum := "a35eaac721a282f0e9e4033d6a7e0d6c584c603d208cf12a0a4013c206826a14", func := "loop.example/g01285/laws.FnExactRestNumber", spec := "fnExactRestNumber", unfollowed := true, recurses := true, plainKeys := false, apart := false, narrowed := true }
def FnExactRestNumberUptoSaid : Prop := fnExactRestNumberUptoRow.holds Tryz.pinned (OpenSpec.upto fnExactRestNumberSpec)

/-- 'laws.FnExactAreParameters', WHERE WHAT IT READS IS OF BULK AT MOST 1048576: true; the input reads as it did. -/
def fnExactAreParametersUptoRow : OpenClaim := { program := "ytmdpmnjnpnjppaagreat", sum := "a35eaac721a282f0e9e4033d6a7e0d6c584c603d208cf12a0a4013c206826a14", func := "loop.example/g01285/laws.FnExactAreParameters", spec := "fnExactAreParameters", unfollowed := true, recurses := true, plainKeys := false, apart := false, narrowed := true }
def FnExactAreParametersUptoSaid : Prop := fnExactAreParametersUptoRow.holds Tryz.pinned (OpenSpec.upto fnExactAreParametersSpec)

/-- 'laws.FnExactIsGenerated', WHERE WHAT IT READS IS OF BULK AT MOST 1048576: true; the input reads as it did. -/
def fnExactIsGeneratedUptoRow : OpenClaim := { program := "ytmdpmnjnpnjppaagreat", sum := "a35eaac721a282f0e9e4033d6a7e0d6c584c603d208cf12a0a4013c206826a14", func := "loop.example/g01285/laws.FnExactIsGenerated", spec := "fnExactIsGenerated", unfollowed := true, recurses := true, plainKeys := false, apart := false, narrowed := true }
def FnExactIsGeneratedUptoSaid : Prop := fnExactIsGeneratedUptoRow.holds Tryz.pinned (OpenSpec.upto fnExactIsGeneratedSpec)

/-- 'laws.FnExactRestNumbers', WHERE WHAT IT READS IS OF BULK AT MOST 1048576: true; the input reads as it did. -/
def fnExactRestNumbersUptoRow : OpenClaim := { program := "ytmdpmnjnpnjppaagreat", sum := "a35eaac721a282f0e9e4033d6a7e0d6c584c603d208cf12a0a4013c206826a14", func := "loop.example/g01285/laws.FnExactRestNumbers", spec := "fnExactRestNumbers", unfollowed := true, recurses := true, plainKeys := false, apart := false, narrowed := true }
def FnExactRestNumbersUptoSaid : Prop := fnExactRestNumbersUptoRow.holds Tryz.pinned (OpenSpec.upto fnExactRestNumbersSpec)

/-- 'laws.FnExactAreFree', WHERE WHAT IT READS IS OF BULK AT MOST 1048576: true; the input reads as it did. -/
def fnExactAreFreeUptoRow : OpenClaim := { program := "ytmdpmnjnpnjppaagreat", sum := "a35eaac721a282f0e9e4033d6a7e0d6c584c603d208cf12a0a4013c206826a14", func := "loop.example/g01285/laws.FnExactAreFree", spec := "fnExactAreFree", unfollowed := true, recurses := true, plainKeys := false, apart := false, narrowed := true }
def FnExactAreFreeUptoSaid : Prop := fnExactAreFreeUptoRow.holds Tryz.pinned (OpenSpec.upto fnExactAreFreeSpec)

/-- 'laws.FnExactGeneratedBasis', WHERE WHAT IT READS IS OF BULK AT MOST 1048576: true; the input reads as it did. -/
def fnExactGeneratedBasisUptoRow : OpenClaim := { program := "ytmdpmnjnpnjppaagreat", sum := "a35eaac721a282f0e9e4033d6a7e0d6c584c603d208cf12a0a4013c206826a14", func := "loop.example/g01285/laws.FnExactGeneratedBasis", spec := "fnExactGeneratedBasis", unfollowed := true, recurses := true, plainKeys := false, apart := false, narrowed := true }
def FnExactGeneratedBasisUptoSaid : Prop := fnExactGeneratedBasisUptoRow.holds Tryz.pinned (OpenSpec.upto fnExactGeneratedBasisSpec)

/-- 'laws.FnExactMirrorProduct', WHERE WHAT IT READS IS OF BULK AT MOST 1048576: true; the input reads as it did. -/
def fnExactMirrorProductUptoRow : OpenClaim := { program := "ytmdpmnjnpnjppaagreat", sum := "a35eaac721a282f0e9e4033d6a7e0d6c584c603d208cf12a0a4013c206826a14", func := "loop.example/g01285/laws.FnExactMirrorProduct", spec := "fnExactMirrorProduct", inPlace := ["internal/bytealg.Compare"], unfollowed := true, recurses := true, plainKeys := false, apart := false, narrowed := true }
def FnExactMirrorProductUptoSaid : Prop := fnExactMirrorProductUptoRow.holds Tryz.pinned (OpenSpec.upto fnExactMirrorProductSpec)

/-- 'laws.FnExactInvariantDimension', WHERE WHAT IT READS IS OF BULK AT MOST 1048576: true; the input reads as it did. -/
def fnExactInvariantDimensionUptoRow : OpenClaim := { program := "ytmdpmnjnpnjppaagreat", sum := "a35eaac721a282f0e9e4033d6a7e0d6c584c603d208cf12a0a4013c206826a14", func := "loop.example/g01285/laws.FnExactInvariantDimension", spec := "fnExactInvariantDimension", inPlace := ["internal/bytealg.Compare"], unfollowed := true, recurses := true, plainKeys := false, apart := false, narrowed := true }
def FnExactInvariantDimensionUptoSaid : Prop := fnExactInvariantDimensionUptoRow.holds Tryz.pinned (OpenSpec.upto fnExactInvariantDimensionSpec)

/-- 'laws.FnExactInvariantNumbers', WHERE WHAT IT READS IS OF BULK AT MOST 1048576: true; the input reads as it did. -/
def fnExactInvariantNumbersUptoRow : OpenClaim := { program := "ytmdpmnjnpnjppaagreat", sum := "a35eaac721a282f0e9e4033d6a7e0d6c584c603d208cf12a0a4013c206826a14", func := "loop.example/g01285/laws.FnExactInvariantNumbers", spec := "fnExactInvariantNumbers", inPlace := ["internal/bytealg.Compare"], unfollowed := true, recurses := true, plainKeys := false, apart := false, narrowed := true }
def FnExactInvariantNumbersUptoSaid : Prop := fnExactInvariantNumbersUptoRow.holds Tryz.pinned (OpenSpec.upto fnExactInvariantNumbersSpec)

/-- 'laws.FnExactHilbertSeries', WHERE WHAT IT READS IS OF BULK AT MOST 1048576: true; the input reads as it did. -/
def fnExactHilbertSeriesUptoRow : OpenClaim := { program := "ytmdpmnjnpnjppaagreat", sum := "a35eaac721a282f0e9e4033d6a7e0d6c584c603d208cf12a0a4013c206826a14", func := "loop.example/g01285/laws.FnExactHilbertSeries", spec := "fnExactHilbertSeries", inPlace := ["internal/bytealg.Compare"], unfollowed := true, recurses := true, plainKeys := false, apart := false, narrowed := true }
def FnExactHilbertSeriesUptoSaid : Prop := fnExactHilbertSeriesUptoRow.holds Tryz.pinned (OpenSpec.upto fnExactHilbertSeriesSpec)

/-- 'laws.FnExactCoinvariantNumber', WHERE WHAT IT READS IS OF BULK AT MOST 1048576: true; the input reads as it did. -/
def fnExactCoinvariantNumberUptoRow : OpenClaim := { program := "ytmdpmnjnpnjppaagreat", sum := "a35eaac721a282f0e9e4033d6a7e0d6c584c603d208cf12a0a4013c206826a14", func := "loop.example/g01285/laws.FnExactCoinvariantNumber", spec := "fnExactCoinvariantNumber", inPlace := ["internal/bytealg.Compare"], unfollowed := true, recurses := true, plainKeys := false, apart := false, narrowed := true }
def FnExactCoinvariantNumberUptoSaid : Prop := fnExactCoinvariantNumberUptoRow.holds Tryz.pinned (OpenSpec.upto fnExactCoinvariantNumberSpec)

/-- 'laws.FnExactInvariantBasis', WHERE WHAT IT READS IS OF BULK AT MOST 1048576: true; the input reads as it did. -/
def fnExactInvariantBasisUptoRow : OpenClaim := { program := "ytmdpmnjnpnjppaagreat", sum := "a35eaac721a282f0e9e4033d6a7e0d6c584c603d208cf12a0a4013c206826a14", func := "loop.example/g01285/laws.FnExactInvariantBasis", spec := "fnExactInvariantBasis", inPlace := ["internal/bytealg.Compare"], unfollowed := true, recurses := true, plainKeys := false, apart := false, narrowed := true }
def FnExactInvariantBasisUptoSaid : Prop := fnExactInvariantBasisUptoRow.holds Tryz.pinned (OpenSpec.upto fnExactInvariantBasisSpec)

/-- 'laws.FnExactNeededNumbers', WHERE WHAT IT READS IS OF BULK AT MOST 1048576: true; the input reads as it did. -/
def fnExactNeededNumbersUptoRow : OpenClaim := { program := "ytmdpmnjnpnjppaagreat", sum := "a35eaac721a282f0e9e4033d6a7e0d6c584c603d208cf12a0a4013c206826a14", func := "loop.example/g01285/laws.FnExactNeededNumbers", spec := "fnExactNeededNumbers", inPlace := ["internal/bytealg.Compare"], unfollowed := true, recurses := true, plainKeys := false, apart := false, narrowed := true }
def FnExactNeededNumbersUptoSaid : Prop := fnExactNeededNumbersUptoRow.holds Tryz.pinned (OpenSpec.upto fnExactNeededNumbersSpec)

/-- 'laws.FnExactGeneratorsOf', WHERE WHAT IT READS IS OF BULK AT MOST 1048576: true; the input reads as it did. -/
def fnExactGeneratorsOfUptoRow : OpenClaim := { program := "ytmdpmnjnpnjppaagreat", sum := "a35eaac721a282f0e9e4033d6a7e0d6c584c603d208cf12a0a4013c206826a14", func := "loop.example/g01285/laws.FnExactGeneratorsOf", spec := "fnExactGeneratorsOf", inPlace := ["internal/bytealg.Compare"], unfollowed := true, recurses := true, plainKeys := false, apart := false, narrowed := true }
def FnExactGeneratorsOfUptoSaid : Prop := fnExactGeneratorsOfUptoRow.holds Tryz.pinned (OpenSpec.upto fnExactGeneratorsOfSpec)

/-- 'laws.FnExactSecondaryNumber', WHERE WHAT IT READS IS OF BULK AT MOST 1048576: true; the input reads as it did. -/
def fnExactSecondaryNumberUptoRow : OpenClaim := { program := "ytmdpmnjnpnjppaagreat", sum := "a35eaac721a282f0e9e4033d6a7e0d6c584c603d208cf12a0a4013c206826a14", func := "loop.example/g01285/laws.FnExactSecondaryNumber", spec := "fnExactSecondaryNumber", inPlace := ["internal/bytealg.Compare"], unfollowed := true, recurses := true, plainKeys := false, apart := false, narrowed := true }
def FnExactSecondaryNumberUptoSaid : Prop := fnExactSecondaryNumberUptoRow.holds Tryz.pinned (OpenSpec.upto fnExactSecondaryNumberSpec)

/-- 'laws.FnExactIsGenerating', WHERE WHAT IT READS IS OF BULK AT MOST 1048576: true; the input reads as it did. -/
def fnExactIsGeneratingUptoRow : OpenClaim := { program := "ytmdpmnjnpnjppaagreat", sum := "a35eaac721a282f0e9e4033d6a7e0d6c584c603d208cf12a0a4013c206826a14", func := "loop.example/g01285/laws.FnExactIsGenerating", spec := "fnExactIsGenerating", inPlace := ["internal/bytealg.Compare"], unfollowed := true, recurses := true, plainKeys := false, apart := false, narrowed := true }
def FnExactIsGeneratingUptoSaid : Prop := fnExactIsGeneratingUptoRow.holds Tryz.pinned (OpenSpec.upto fnExactIsGeneratingSpec)

/-- 'laws.FnExactSecondaryDegrees', WHERE WHAT IT READS IS OF BULK AT MOST 1048576: true; the input reads as it did. -/
def fnExactSecondaryDegreesUptoRow : OpenClaim := { program := "ytmdpmnjnpnjppaagreat", sum := "a35eaac721a282f0e9e4033d6a7e0d6c584c603d208cf12a0a4013c206826a14", func := "loop.example/g01285/laws.FnExactSecondaryDegrees", spec := "fnExactSecondaryDegrees", inPlace := ["internal/bytealg.Compare"], unfollowed := true, recurses := true, plainKeys := false, apart := false, narrowed := true }
def FnExactSecondaryDegreesUptoSaid : Prop := fnExactSecondaryDegreesUptoRow.holds Tryz.pinned (OpenSpec.upto fnExactSecondaryDegreesSpec)

/-- 'laws.FnExactSecondaryInvariants', WHERE WHAT IT READS IS OF BULK AT MOST 1048576: true; the input reads as it did. -/
def fnExactSecondaryInvariantsUptoRow : OpenClaim := { program := "ytmdpmnjnpnjppaagreat", sum := "a35eaac721a282f0e9e4033d6a7e0d6c584c603d208cf12a0a4013c206826a14", func := "loop.example/g01285/laws.FnExactSecondaryInvariants", spec := "fnExactSecondaryInvariants", inPlace := ["internal/bytealg.Compare"], unfollowed := true, recurses := true, plainKeys := false, apart := false, narrowed := true }
def FnExactSecondaryInvariantsUptoSaid : Prop := fnExactSecondaryInvariantsUptoRow.holds Tryz.pinned (OpenSpec.upto fnExactSecondaryInvariantsSpec)

/-- 'laws.FnExactAllSecondaries', WHERE WHAT IT READS IS OF BULK AT MOST 1048576: true; the input reads as it did. -/
def fnExactAllSecondariesUptoRow : OpenClaim := { program := "ytmdpmnjnpnjppaagreat", sum := "a35eaac721a282f0e9e4033d6a7e0d6c584c603d208cf12a0a4013c206826a14", func := "loop.example/g01285/laws.FnExactAllSecondaries", spec := "fnExactAllSecondaries", inPlace := ["internal/bytealg.Compare"], unfollowed := true, recurses := true, plainKeys := false, apart := false, narrowed := true }
def FnExactAllSecondariesUptoSaid : Prop := fnExactAllSecondariesUptoRow.holds Tryz.pinned (OpenSpec.upto fnExactAllSecondariesSpec)

end Rows
end Go.Proofs.YtmdpmnjnpnjppaaGreat
