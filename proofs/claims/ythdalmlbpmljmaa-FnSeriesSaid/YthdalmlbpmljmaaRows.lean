/-
  No cell of these rows narrows 'for every input' (looked for: loops, veiled, ifaces, maps, wideKeys, modest, calm, conditions, laid).
  DERIVED. THE GIVEN ROWS OF THIS SEAT. 12 by the template 'for every input the law returns true; each argument reads behind the call as it read before'; 0 by the template 'total and deterministic' (their statements: YthdalmlbpmljmaaTotals.lean).
  GIVEN WITH THE SEED: the statements are not yours to turn. If you find one false, say at which input.
  Laid BY PROGRAM, IN A SANDBOX (cutbox-rows.mjs): the forced cells as the released guide's own fill.sh prints them over the translation 0827218d1969eeb3… (all of the seat's roots in one cut). By AI agents, Wed Nov 11 2026. No macro, syntax, notation, axiom, sorry.
-/
import Derived.Test.YthdalmlbpmljmaaChecked
import GoSem.Claim
import GoSem.ClaimJoined
import GoSem.ClaimMapViews
import Derived.JoinedTies
import Derived.KernelRfl
namespace Go.Proofs.Ythdalmlbpmljmaa
/- THE CELL 'sum', in the pinned program and in every row, IS THE sha256 OF THE DUMP (.gsa) THAT YthdalmlbpmljmaaProg.lean LOADS. Nothing in Lean hashes anything: it is a label: what it is worth is what the hold of that sum in a sandbox is worth. -/
noncomputable def Try.pinned : Pinned := { name := "ythdalmlbpmljmaa", sum := "0827218d1969eeb35d583817f3eff68b8ebbfbc20182c785e8a0b5ae55ce3919", checked := Try.checked }
namespace Rows
def none {H : Type} : Left H := { results := [], args := [] }

/-- 'laws.FnExactNumeratorOf': WHATEVER THE INPUT: true; the input reads as it did. -/
def fnExactNumeratorOfSpec : ChangeSpec := { name := "fnExactNumeratorOf", fn := fun _ => fun
  | [d1, d2] => { results := [.lit (.bool true)], args := [d1, d2] }
  | _ => none }
def fnExactNumeratorOfRow : OpenClaim := { program := "ythdalmlbpmljmaa", sum := "0827218d1969eeb35d583817f3eff68b8ebbfbc20182c785e8a0b5ae55ce3919", func := "loop.example/g01285/laws.FnExactNumeratorOf", spec := "fnExactNumeratorOf", plainKeys := false, apart := false }
def FnExactNumeratorOfSaid : Prop := fnExactNumeratorOfRow.holds Try.pinned (OpenSpec.ofChange fnExactNumeratorOfSpec)

/-- ITS FALSE NEIGHBOUR: 'it returns false'. Refute it at one input. -/
def fnExactNumeratorOfWrong : ChangeSpec := { name := "fnExactNumeratorOf", fn := fun _ => fun
  | [d1, d2] => { results := [.lit (.bool false)], args := [d1, d2] }
  | _ => none }
def FnExactNumeratorOfWrongFalsely : Prop := fnExactNumeratorOfRow.holds Try.pinned (OpenSpec.ofChange fnExactNumeratorOfWrong)

/-- 'laws.FnExactCharacteristicOf': WHATEVER THE INPUT: true; the input reads as it did. -/
def fnExactCharacteristicOfSpec : ChangeSpec := { name := "fnExactCharacteristicOf", fn := fun _ => fun
  | [d1, d2, d3] => { results := [.lit (.bool true)], args := [d1, d2, d3] }
  | _ => none }
def fnExactCharacteristicOfRow : OpenClaim := { program := "ythdalmlbpmljmaa", sum := "0827218d1969eeb35d583817f3eff68b8ebbfbc20182c785e8a0b5ae55ce3919", func := "loop.example/g01285/laws.FnExactCharacteristicOf", spec := "fnExactCharacteristicOf", unfollowed := true, recurses := true, plainKeys := false, apart := false }
def FnExactCharacteristicOfSaid : Prop := fnExactCharacteristicOfRow.holds Try.pinned (OpenSpec.ofChange fnExactCharacteristicOfSpec)

/-- ITS FALSE NEIGHBOUR: 'it returns false'. Refute it at one input. -/
def fnExactCharacteristicOfWrong : ChangeSpec := { name := "fnExactCharacteristicOf", fn := fun _ => fun
  | [d1, d2, d3] => { results := [.lit (.bool false)], args := [d1, d2, d3] }
  | _ => none }
def FnExactCharacteristicOfWrongFalsely : Prop := fnExactCharacteristicOfRow.holds Try.pinned (OpenSpec.ofChange fnExactCharacteristicOfWrong)

/-- 'laws.FnExactRowOfPoly': WHATEVER THE INPUT: true; the input reads as it did. -/
def fnExactRowOfPolySpec : ChangeSpec := { name := "fnExactRowOfPoly", fn := fun _ => fun
  | [d1, d2] => { results := [.lit (.bool true)], args := [d1, d2] }
  | _ => none }
def fnExactRowOfPolyRow : OpenClaim := { program := "ythdalmlbpmljmaa", sum := "0827218d1969eeb35d583817f3eff68b8ebbfbc20182c785e8a0b5ae55ce3919", func := "loop.example/g01285/laws.FnExactRowOfPoly", spec := "fnExactRowOfPoly", plainKeys := false, apart := false }
def FnExactRowOfPolySaid : Prop := fnExactRowOfPolyRow.holds Try.pinned (OpenSpec.ofChange fnExactRowOfPolySpec)

/-- ITS FALSE NEIGHBOUR: 'it returns false'. Refute it at one input. -/
def fnExactRowOfPolyWrong : ChangeSpec := { name := "fnExactRowOfPoly", fn := fun _ => fun
  | [d1, d2] => { results := [.lit (.bool false)], args := [d1, d2] }
  | _ => none }
def FnExactRowOfPolyWrongFalsely : Prop := fnExactRowOfPolyRow.holds Try.pinned (OpenSpec.ofChange fnExactRowOfPolyWrong)

/-- 'laws.FnSeries': WHATEVER THE INPUT: true; the input reads as it did. -/
def fnSeriesSpec : ChangeSpec := { name := "fnSeries", fn := fun _ => fun
  | [d] => { results := [.lit (.bool true)], args := [d] }
  | _ => none }
def fnSeriesRow : OpenClaim := { program := "ythdalmlbpmljmaa", sum := "0827218d1969eeb35d583817f3eff68b8ebbfbc20182c785e8a0b5ae55ce3919", func := "loop.example/g01285/laws.FnSeries", spec := "fnSeries", plainKeys := false, apart := false }
def FnSeriesSaid : Prop := fnSeriesRow.holds Try.pinned (OpenSpec.ofChange fnSeriesSpec)

/-- ITS FALSE NEIGHBOUR: 'it returns false'. Refute it at one input. -/
def fnSeriesWrong : ChangeSpec := { name := "fnSeries", fn := fun _ => fun
  | [d] => { results := [.lit (.bool false)], args := [d] }
  | _ => none }
def FnSeriesWrongFalsely : Prop := fnSeriesRow.holds Try.pinned (OpenSpec.ofChange fnSeriesWrong)

/-- 'laws.FnExactFreeNumber': WHATEVER THE INPUT: true; the input reads as it did. -/
def fnExactFreeNumberSpec : ChangeSpec := { name := "fnExactFreeNumber", fn := fun _ => fun
  | [d1, d2] => { results := [.lit (.bool true)], args := [d1, d2] }
  | _ => none }
def fnExactFreeNumberRow : OpenClaim := { program := "ythdalmlbpmljmaa", sum := "0827218d1969eeb35d583817f3eff68b8ebbfbc20182c785e8a0b5ae55ce3919", func := "loop.example/g01285/laws.FnExactFreeNumber", spec := "fnExactFreeNumber", recurses := true, plainKeys := false, apart := false }
def FnExactFreeNumberSaid : Prop := fnExactFreeNumberRow.holds Try.pinned (OpenSpec.ofChange fnExactFreeNumberSpec)

/-- ITS FALSE NEIGHBOUR: 'it returns false'. Refute it at one input. -/
def fnExactFreeNumberWrong : ChangeSpec := { name := "fnExactFreeNumber", fn := fun _ => fun
  | [d1, d2] => { results := [.lit (.bool false)], args := [d1, d2] }
  | _ => none }
def FnExactFreeNumberWrongFalsely : Prop := fnExactFreeNumberRow.holds Try.pinned (OpenSpec.ofChange fnExactFreeNumberWrong)

/-- 'laws.FnExactProductExponents': WHATEVER THE INPUT: true; the input reads as it did. -/
def fnExactProductExponentsSpec : ChangeSpec := { name := "fnExactProductExponents", fn := fun _ => fun
  | [d1, d2] => { results := [.lit (.bool true)], args := [d1, d2] }
  | _ => none }
def fnExactProductExponentsRow : OpenClaim := { program := "ythdalmlbpmljmaa", sum := "0827218d1969eeb35d583817f3eff68b8ebbfbc20182c785e8a0b5ae55ce3919", func := "loop.example/g01285/laws.FnExactProductExponents", spec := "fnExactProductExponents", recurses := true, plainKeys := false, apart := false }
def FnExactProductExponentsSaid : Prop := fnExactProductExponentsRow.holds Try.pinned (OpenSpec.ofChange fnExactProductExponentsSpec)

/-- ITS FALSE NEIGHBOUR: 'it returns false'. Refute it at one input. -/
def fnExactProductExponentsWrong : ChangeSpec := { name := "fnExactProductExponents", fn := fun _ => fun
  | [d1, d2] => { results := [.lit (.bool false)], args := [d1, d2] }
  | _ => none }
def FnExactProductExponentsWrongFalsely : Prop := fnExactProductExponentsRow.holds Try.pinned (OpenSpec.ofChange fnExactProductExponentsWrong)

/-- 'laws.FnExactCycleType': WHATEVER THE INPUT: true; the input reads as it did. -/
def fnExactCycleTypeSpec : ChangeSpec := { name := "fnExactCycleType", fn := fun _ => fun
  | [d] => { results := [.lit (.bool true)], args := [d] }
  | _ => none }
def fnExactCycleTypeRow : OpenClaim := { program := "ythdalmlbpmljmaa", sum := "0827218d1969eeb35d583817f3eff68b8ebbfbc20182c785e8a0b5ae55ce3919", func := "loop.example/g01285/laws.FnExactCycleType", spec := "fnExactCycleType", recurses := true, plainKeys := false, apart := false }
def FnExactCycleTypeSaid : Prop := fnExactCycleTypeRow.holds Try.pinned (OpenSpec.ofChange fnExactCycleTypeSpec)

/-- ITS FALSE NEIGHBOUR: 'it returns false'. Refute it at one input. -/
def fnExactCycleTypeWrong : ChangeSpec := { name := "fnExactCycleType", fn := fun _ => fun
  | [d] => { results := [.lit (.bool false)], args := [d] }
  | _ => none }
def FnExactCycleTypeWrongFalsely : Prop := fnExactCycleTypeRow.holds Try.pinned (OpenSpec.ofChange fnExactCycleTypeWrong)

/-- 'laws.FnExactMolienSeries': WHATEVER THE INPUT: true; the input reads as it did. -/
def fnExactMolienSeriesSpec : ChangeSpec := { name := "fnExactMolienSeries", fn := fun _ => fun
  | [d1, d2] => { results := [.lit (.bool true)], args := [d1, d2] }
  | _ => none }
def fnExactMolienSeriesRow : OpenClaim := { program := "ythdalmlbpmljmaa", sum := "0827218d1969eeb35d583817f3eff68b8ebbfbc20182c785e8a0b5ae55ce3919", func := "loop.example/g01285/laws.FnExactMolienSeries", spec := "fnExactMolienSeries", inPlace := ["internal/bytealg.Compare"], unfollowed := true, recurses := true, plainKeys := false, apart := false }
def FnExactMolienSeriesSaid : Prop := fnExactMolienSeriesRow.holds Try.pinned (OpenSpec.ofChange fnExactMolienSeriesSpec)

/-- ITS FALSE NEIGHBOUR: 'it returns false'. Refute it at one input. -/
def fnExactMolienSeriesWrong : ChangeSpec := { name := "fnExactMolienSeries", fn := fun _ => fun
  | [d1, d2] => { results := [.lit (.bool false)], args := [d1, d2] }
  | _ => none }
def FnExactMolienSeriesWrongFalsely : Prop := fnExactMolienSeriesRow.holds Try.pinned (OpenSpec.ofChange fnExactMolienSeriesWrong)

/-- 'laws.FnExactPolyOfRow': WHATEVER THE INPUT: true; the input reads as it did. -/
def fnExactPolyOfRowSpec : ChangeSpec := { name := "fnExactPolyOfRow", fn := fun _ => fun
  | [d1, d2, d3, d4] => { results := [.lit (.bool true)], args := [d1, d2, d3, d4] }
  | _ => none }
def fnExactPolyOfRowRow : OpenClaim := { program := "ythdalmlbpmljmaa", sum := "0827218d1969eeb35d583817f3eff68b8ebbfbc20182c785e8a0b5ae55ce3919", func := "loop.example/g01285/laws.FnExactPolyOfRow", spec := "fnExactPolyOfRow", unfollowed := true, recurses := true, plainKeys := false, apart := false }
def FnExactPolyOfRowSaid : Prop := fnExactPolyOfRowRow.holds Try.pinned (OpenSpec.ofChange fnExactPolyOfRowSpec)

/-- ITS FALSE NEIGHBOUR: 'it returns false'. Refute it at one input. -/
def fnExactPolyOfRowWrong : ChangeSpec := { name := "fnExactPolyOfRow", fn := fun _ => fun
  | [d1, d2, d3, d4] => { results := [.lit (.bool false)], args := [d1, d2, d3, d4] }
  | _ => none }
def FnExactPolyOfRowWrongFalsely : Prop := fnExactPolyOfRowRow.holds Try.pinned (OpenSpec.ofChange fnExactPolyOfRowWrong)

/-- 'laws.FnExactCountingSeries': WHATEVER THE INPUT: true; the input reads as it did. -/
def fnExactCountingSeriesSpec : ChangeSpec := { name := "fnExactCountingSeries", fn := fun _ => fun
  | [d1, d2] => { results := [.lit (.bool true)], args := [d1, d2] }
  | _ => none }
def fnExactCountingSeriesRow : OpenClaim := { program := "ythdalmlbpmljmaa", sum := "0827218d1969eeb35d583817f3eff68b8ebbfbc20182c785e8a0b5ae55ce3919", func := "loop.example/g01285/laws.FnExactCountingSeries", spec := "fnExactCountingSeries", recurses := true, plainKeys := false, apart := false }
def FnExactCountingSeriesSaid : Prop := fnExactCountingSeriesRow.holds Try.pinned (OpenSpec.ofChange fnExactCountingSeriesSpec)

/-- ITS FALSE NEIGHBOUR: 'it returns false'. Refute it at one input. -/
def fnExactCountingSeriesWrong : ChangeSpec := { name := "fnExactCountingSeries", fn := fun _ => fun
  | [d1, d2] => { results := [.lit (.bool false)], args := [d1, d2] }
  | _ => none }
def FnExactCountingSeriesWrongFalsely : Prop := fnExactCountingSeriesRow.holds Try.pinned (OpenSpec.ofChange fnExactCountingSeriesWrong)

/-- 'laws.FnPermutationSeries': WHATEVER THE INPUT: true; the input reads as it did. -/
def fnPermutationSeriesSpec : ChangeSpec := { name := "fnPermutationSeries", fn := fun _ => fun
  | [d] => { results := [.lit (.bool true)], args := [d] }
  | _ => none }
def fnPermutationSeriesRow : OpenClaim := { program := "ythdalmlbpmljmaa", sum := "0827218d1969eeb35d583817f3eff68b8ebbfbc20182c785e8a0b5ae55ce3919", func := "loop.example/g01285/laws.FnPermutationSeries", spec := "fnPermutationSeries", recurses := true, plainKeys := false, apart := false }
def FnPermutationSeriesSaid : Prop := fnPermutationSeriesRow.holds Try.pinned (OpenSpec.ofChange fnPermutationSeriesSpec)

/-- ITS FALSE NEIGHBOUR: 'it returns false'. Refute it at one input. -/
def fnPermutationSeriesWrong : ChangeSpec := { name := "fnPermutationSeries", fn := fun _ => fun
  | [d] => { results := [.lit (.bool false)], args := [d] }
  | _ => none }
def FnPermutationSeriesWrongFalsely : Prop := fnPermutationSeriesRow.holds Try.pinned (OpenSpec.ofChange fnPermutationSeriesWrong)

/-- 'laws.FnExactDicksonInvariant': WHATEVER THE INPUT: true; the input reads as it did. -/
def fnExactDicksonInvariantSpec : ChangeSpec := { name := "fnExactDicksonInvariant", fn := fun _ => fun
  | [d1, d2, d3] => { results := [.lit (.bool true)], args := [d1, d2, d3] }
  | _ => none }
def fnExactDicksonInvariantRow : OpenClaim := { program := "ythdalmlbpmljmaa", sum := "0827218d1969eeb35d583817f3eff68b8ebbfbc20182c785e8a0b5ae55ce3919", func := "loop.example/g01285/laws.FnExactDicksonInvariant", spec := "fnExactDicksonInvariant", unfollowed := true, recurses := true, plainKeys := false, apart := false }
def FnExactDicksonInvariantSaid : Prop := fnExactDicksonInvariantRow.holds Try.pinned (OpenSpec.ofChange fnExactDicksonInvariantSpec)

/-- ITS FALSE NEIGHBOUR: 'it returns false'. Refute it at one input. -/
def fnExactDicksonInvariantWrong : ChangeSpec := { name := "fnExactDicksonInvariant", fn := fun _ => fun
  | [d1, d2, d3] => { results := [.lit (.bool false)], args := [d1, d2, d3] }
  | _ => none }
def FnExactDicksonInvariantWrongFalsely : Prop := fnExactDicksonInvariantRow.holds Try.pinned (OpenSpec.ofChange fnExactDicksonInvariantWrong)

/- THE SECOND FORM. 'bulk': how many values and letters a reading holds, each counted each time it is reached (what is shared counts as often as it is met; a slice's spare places count too). A statement '..UptoSaid' is the law's where the arguments, and the package variables that the reading takes, are together of bulk at most 1048576: NARROWER than '..Said'. Prove '..Said' where nothing that the law and all that it calls make is longer than what came in: it says more and counts as full. Else prove '..UptoSaid'. A law counts once. -/
mutual
def uptoBulk {H : Type} : DataW H → Nat
  | .lit (.string bytes) => bytes.length + 1
  | .lit _ => 1
  | .nil => 1
  | .ptr d => uptoBulk d + 1
  | .slice elems spare => uptoBulkAll elems + uptoBulkAll spare + 1
  | .agg parts => uptoBulkAll parts + 1
  | .iface _ d => uptoBulk d + 1
  | .map entries => uptoBulkEntries entries + 1
  | .held _ => 1
def uptoBulkAll {H : Type} : List (DataW H) → Nat
  | [] => 0
  | d :: r => uptoBulk d + uptoBulkAll r
def uptoBulkEntries {H : Type} : List (Lit × DataW H) → Nat
  | [] => 0
  | x :: r => uptoBulkEntry x + uptoBulkEntries r
def uptoBulkEntry {H : Type} : Lit × DataW H → Nat
  | (.string bytes, d) => bytes.length + uptoBulk d + 1
  | (_, d) => uptoBulk d + 1
 end
def uptoSmall : (H : Type) → List (DataW H) → Bool := fun _ ds => decide (uptoBulkAll ds ≤ 1048576)
def OpenSpec.upto (s : _root_.Go.ChangeSpec) : _root_.Go.OpenSpec := { _root_.Go.OpenSpec.ofChange s with cond := some uptoSmall }

/-- 'laws.FnExactNumeratorOf', WHERE WHAT IT READS IS OF BULK AT MOST 1048576: true; the input reads as it did. -/
def fnExactNumeratorOfUptoRow : OpenClaim := { program := "ythdalmlbpmljmaa", sum := "0827218d1969eeb35d583817f3eff68b8ebbfbc20182c785e8a0b5ae55ce3919", func := "loop.example/g01285/laws.FnExactNumeratorOf", spec := "fnExactNumeratorOf", plainKeys := false, apart := false, narrowed := true }
def FnExactNumeratorOfUptoSaid : Prop := fnExactNumeratorOfUptoRow.holds Try.pinned (OpenSpec.upto fnExactNumeratorOfSpec)

/-- 'laws.FnExactCharacteristicOf', WHERE WHAT IT READS IS OF BULK AT MOST 1048576: true; the input reads as it did. -/
def fnExactCharacteristicOfUptoRow : OpenClaim := { program := "ythdalmlbpmljmaa", sum := "0827218d1969eeb35d583817f3eff68b8ebbfbc20182c785e8a0b5ae55ce3919", func := "loop.example/g01285/laws.FnExactCharacteristicOf", spec := "fnExactCharacteristicOf", unfollowed := true, recurses := true, plainKeys := false, apart := false, narrowed := true }
def FnExactCharacteristicOfUptoSaid : Prop := fnExactCharacteristicOfUptoRow.holds Try.pinned (OpenSpec.upto fnExactCharacteristicOfSpec)

/-- 'laws.FnExactRowOfPoly', WHERE WHAT IT READS IS OF BULK AT MOST 1048576: true; the input reads as it did. -/
def fnExactRowOfPolyUptoRow : OpenClaim := { program := "ythdalmlbpmljmaa", sum := "0827218d1969eeb35d583817f3eff68b8ebbfbc20182c785e8a0b5ae55ce3919", func := "loop.example/g01285/laws.FnExactRowOfPoly", spec := "fnExactRowOfPoly", plainKeys := false, apart := false, narrowed := true }
def FnExactRowOfPolyUptoSaid : Prop := fnExactRowOfPolyUptoRow.holds Try.pinned (OpenSpec.upto fnExactRowOfPolySpec)

/-- 'laws.FnSeries', WHERE WHAT IT READS IS OF BULK AT MOST 1048576: true; the input reads as it did. -/
def fnSeriesUptoRow : OpenClaim := { program := "ythdalmlbpmljmaa", sum := "0827218d1969eeb35d583817f3eff68b8ebbfbc20182c785e8a0b5ae55ce3919", func := "loop.example/g01285/laws.FnSeries", spec := "fnSeries", plainKeys := false, apart := false, narrowed := true }
def FnSeriesUptoSaid : Prop := fnSeriesUptoRow.holds Try.pinned (OpenSpec.upto fnSeriesSpec)

/-- 'laws.FnExactFreeNumber', WHERE WHAT IT READS IS OF BULK AT MOST 1048576: true; the input reads as it did. -/
def fnExactFreeNumberUptoRow : OpenClaim := { program := "ythdalmlbpmljmaa", sum := "0827218d1969eeb35d583817f3eff68b8ebbfbc20182c785e8a0b5ae55ce3919", func := "loop.example/g01285/laws.FnExactFreeNumber", spec := "fnExactFreeNumber", recurses := true, plainKeys := false, apart := false, narrowed := true }
def FnExactFreeNumberUptoSaid : Prop := fnExactFreeNumberUptoRow.holds Try.pinned (OpenSpec.upto fnExactFreeNumberSpec)

/-- 'laws.FnExactProductExponents', WHERE WHAT IT READS IS OF BULK AT MOST 1048576: true; the input reads as it did. -/
def fnExactProductExponentsUptoRow : OpenClaim := { program := "ythdalmlbpmljmaa", sum := "0827218d1969eeb35d583817f3eff68b8ebbfbc20182c785e8a0b5ae55ce3919", func := "loop.example/g01285/laws.FnExactProductExponents", spec := "fnExactProductExponents", recurses := true, plainKeys := false, apart := false, narrowed := true }
def FnExactProductExponentsUptoSaid : Prop := fnExactProductExponentsUptoRow.holds Try.pinned (OpenSpec.upto fnExactProductExponentsSpec)

/-- 'laws.FnExactCycleType', WHERE WHAT IT READS IS OF BULK AT MOST 1048576: true; the input reads as it did. -/
def fnExactCycleTypeUptoRow : OpenClaim := { program := "ythdalmlbpmljmaa", sum := "0827218d1969eeb35d583817f3eff68b8ebbfbc20182c785e8a0b5ae55ce3919", func := "loop.example/g01285/laws.FnExactCycleType", spec := "fnExactCycleType", recurses := true, plainKeys := false, apart := false, narrowed := true }
def FnExactCycleTypeUptoSaid : Prop := fnExactCycleTypeUptoRow.holds Try.pinned (OpenSpec.upto fnExactCycleTypeSpec)

/-- 'laws.FnExactMolienSeries', WHERE WHAT IT READS IS OF BULK AT MOST 1048576: true; the input reads as it did. -/
def fnExactMolienSeriesUptoRow : OpenClaim := { program := "ythdalmlbpmljmaa", sum := "0827218d1969eeb35d583817f3eff68b8ebbfbc20182c785e8a0b5ae55ce3919", func := "loop.example/g01285/laws.FnExactMolienSeries", spec := "fnExactMolienSeries", inPlace := ["internal/bytealg.Compare"], unfollowed := true, recurses := true, plainKeys := false, apart := false, narrowed := true }
def FnExactMolienSeriesUptoSaid : Prop := fnExactMolienSeriesUptoRow.holds Try.pinned (OpenSpec.upto fnExactMolienSeriesSpec)

/-- 'laws.FnExactPolyOfRow', WHERE WHAT IT READS IS OF BULK AT MOST 1048576: true; the input reads as it did. -/
def fnExactPolyOfRowUptoRow : OpenClaim := { program := "ythdalmlbpmljmaa", sum := "0827218d1969eeb35d583817f3eff68b8ebbfbc20182c785e8a0b5ae55ce3919", func := "loop.example/g01285/laws.FnExactPolyOfRow", spec := "fnExactPolyOfRow", unfollowed := true, recurses := true, plainKeys := false, apart := false, narrowed := true }
def FnExactPolyOfRowUptoSaid : Prop := fnExactPolyOfRowUptoRow.holds Try.pinned (OpenSpec.upto fnExactPolyOfRowSpec)

/-- 'laws.FnExactCountingSeries', WHERE WHAT IT READS IS OF BULK AT MOST 1048576: true; the input reads as it did. -/
def fnExactCountingSeriesUptoRow : OpenClaim := { program := "ythdalmlbpmljmaa", sum := "0827218d1969eeb35d583817f3eff68b8ebbfbc20182c785e8a0b5ae55ce3919", func := "loop.example/g01285/laws.FnExactCountingSeries", spec := "fnExactCountingSeries", recurses := true, plainKeys := false, apart := false, narrowed := true }
def FnExactCountingSeriesUptoSaid : Prop := fnExactCountingSeriesUptoRow.holds Try.pinned (OpenSpec.upto fnExactCountingSeriesSpec)

/-- 'laws.FnPermutationSeries', WHERE WHAT IT READS IS OF BULK AT MOST 1048576: true; the input reads as it did. -/
def fnPermutationSeriesUptoRow : OpenClaim := { program := "ythdalmlbpmljmaa", sum := "0827218d1969eeb35d583817f3eff68b8ebbfbc20182c785e8a0b5ae55ce3919", func := "loop.example/g01285/laws.FnPermutationSeries", spec := "fnPermutationSeries", recurses := true, plainKeys := false, apart := false, narrowed := true }
def FnPermutationSeriesUptoSaid : Prop := fnPermutationSeriesUptoRow.holds Try.pinned (OpenSpec.upto fnPermutationSeriesSpec)

/-- 'laws.FnExactDicksonInvariant', WHERE WHAT IT READS IS OF BULK AT MOST 1048576: true; the input reads as it did. -/
def fnExactDicksonInvariantUptoRow : OpenClaim := { program := "ythdalmlbpmljmaa", sum := "0827218d1969eeb35d583817f3eff68b8ebbfbc20182c785e8a0b5ae55ce3919", func := "loop.example/g01285/laws.FnExactDicksonInvariant", spec := "fnExactDicksonInvariant", unfollowed := true, recurses := true, plainKeys := false, apart := false, narrowed := true }
def FnExactDicksonInvariantUptoSaid : Prop := fnExactDicksonInvariantUptoRow.holds Try.pinned (OpenSpec.upto fnExactDicksonInvariantSpec)

end Rows
end Go.Proofs.Ythdalmlbpmljmaa
