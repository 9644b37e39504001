/-
  No cell of these rows narrows 'for every input' (looked for: loops, veiled, ifaces, maps, wideKeys, modest, calm, conditions, laid).
  DERIVED. THE GIVEN ROWS OF THIS SEAT. 3 by the template 'for every input the law returns true; each argument reads behind the call as it read before'; 0 by the template 'total and deterministic' (their statements: YtpegpdcdcfcgdaaTotals.lean).
  GIVEN WITH THE SEED: the statements are not yours to turn. If you find one false, say at which input.
  Laid BY PROGRAM, IN A SANDBOX (cutbox-rows.mjs): the forced cells as the released guide's own fill.sh prints them over the translation edd9f325686ad0f2… (all of the seat's roots in one cut). By AI agents, Wed Nov 11 2026. No macro, syntax, notation, axiom, sorry.
-/
import Derived.Test.YtpegpdcdcfcgdaaChecked
import GoSem.Claim
import GoSem.ClaimJoined
import GoSem.ClaimMapViews
import Derived.JoinedTies
import Derived.KernelRfl
namespace Go.Proofs.Ytpegpdcdcfcgdaa
/- THE CELL 'sum', in the pinned program and in every row, IS THE sha256 OF THE DUMP (.gsa) THAT YtpegpdcdcfcgdaaProg.lean LOADS. Nothing in Lean hashes anything: it is a label: what it is worth is what the hold of that sum in a sandbox is worth. -/
noncomputable def Try.pinned : Pinned := { name := "ytpegpdcdcfcgdaa", sum := "edd9f325686ad0f2098f47c0467ae61f6b28193fe27f51e7284dab33be0d7d88", checked := Try.checked }
namespace Rows
def none {H : Type} : Left H := { results := [], args := [] }

/-- 'laws.FnExactCycleType': WHATEVER THE INPUT: true; the input reads as it did. -/
def fnExactCycleTypeSpec : ChangeSpec := { name := "fnExactCycleType", fn := fun _ => fun
  | [d] => { results := [.lit (.bool true)], args := [d] }
  | _ => none }
def fnExactCycleTypeRow : OpenClaim := { program := "ytpegpdcdcfcgdaa", sum := "edd9f325686ad0f2098f47c0467ae61f6b28193fe27f51e7284dab33be0d7d88", func := "loop.example/g01285/laws.FnExactCycleType", spec := "fnExactCycleType", recurses := true, apart := false }
def FnExactCycleTypeSaid : Prop := fnExactCycleTypeRow.holds Try.pinned (OpenSpec.ofChange fnExactCycleTypeSpec)

/-- ITS FALSE NEIGHBOUR: 'it returns false'. Refute it at one input. -/
def fnExactCycleTypeWrong : ChangeSpec := { name := "fnExactCycleType", fn := fun _ => fun
  | [d] => { results := [.lit (.bool false)], args := [d] }
  | _ => none }
def FnExactCycleTypeWrongFalsely : Prop := fnExactCycleTypeRow.holds Try.pinned (OpenSpec.ofChange fnExactCycleTypeWrong)

/-- 'laws.FnExactCountingSeries': WHATEVER THE INPUT: true; the input reads as it did. -/
def fnExactCountingSeriesSpec : ChangeSpec := { name := "fnExactCountingSeries", fn := fun _ => fun
  | [d1, d2] => { results := [.lit (.bool true)], args := [d1, d2] }
  | _ => none }
def fnExactCountingSeriesRow : OpenClaim := { program := "ytpegpdcdcfcgdaa", sum := "edd9f325686ad0f2098f47c0467ae61f6b28193fe27f51e7284dab33be0d7d88", func := "loop.example/g01285/laws.FnExactCountingSeries", spec := "fnExactCountingSeries", recurses := true, apart := false }
def FnExactCountingSeriesSaid : Prop := fnExactCountingSeriesRow.holds Try.pinned (OpenSpec.ofChange fnExactCountingSeriesSpec)

/-- ITS FALSE NEIGHBOUR: 'it returns false'. Refute it at one input. -/
def fnExactCountingSeriesWrong : ChangeSpec := { name := "fnExactCountingSeries", fn := fun _ => fun
  | [d1, d2] => { results := [.lit (.bool false)], args := [d1, d2] }
  | _ => none }
def FnExactCountingSeriesWrongFalsely : Prop := fnExactCountingSeriesRow.holds Try.pinned (OpenSpec.ofChange fnExactCountingSeriesWrong)

/-- 'laws.FnPermutationSeries': WHATEVER THE INPUT: true; the input reads as it did. -/
def fnPermutationSeriesSpec : ChangeSpec := { name := "fnPermutationSeries", fn := fun _ => fun
  | [d] => { results := [.lit (.bool true)], args := [d] }
  | _ => none }
def fnPermutationSeriesRow : OpenClaim := { program := "ytpegpdcdcfcgdaa", sum := "edd9f325686ad0f2098f47c0467ae61f6b28193fe27f51e7284dab33be0d7d88", func := "loop.example/g01285/laws.FnPermutationSeries", spec := "fnPermutationSeries", recurses := true, apart := false }
def FnPermutationSeriesSaid : Prop := fnPermutationSeriesRow.holds Try.pinned (OpenSpec.ofChange fnPermutationSeriesSpec)

/-- ITS FALSE NEIGHBOUR: 'it returns false'. Refute it at one input. -/
def fnPermutationSeriesWrong : ChangeSpec := { name := "fnPermutationSeries", fn := fun _ => fun
  | [d] => { results := [.lit (.bool false)], args := [d] }
  | _ => none }
def FnPermutationSeriesWrongFalsely : Prop := fnPermutationSeriesRow.holds Try.pinned (OpenSpec.ofChange fnPermutationSeriesWrong)

/- THE SECOND FORM. 'bulk': how many values and letters a reading holds, each counted each time it is reached (what is shared counts as often as it is met; a slice's spare places count too). A statement '..UptoSaid' is the law's where the arguments, and the package variables that the reading takes, are together of bulk at most 1048576: NARROWER than '..Said'. Prove '..Said' where nothing that the law and all that it calls make is longer than what came in: it says more and counts as full. Else prove '..UptoSaid'. A law counts once. -/
mutual
def uptoBulk {H : Type} : DataW H → Nat
  | .lit (.string bytes) => bytes.length + 1
  | .lit _ => 1
  | .nil => 1
  | .ptr d => uptoBulk d + 1
  | .slice elems spare => uptoBulkAll elems + uptoBulkAll spare + 1
  | .agg parts => uptoBulkAll parts + 1
  | .iface _ d => uptoBulk d + 1
  | .map entries => uptoBulkEntries entries + 1
  | .held _ => 1
def uptoBulkAll {H : Type} : List (DataW H) → Nat
  | [] => 0
  | d :: r => uptoBulk d + uptoBulkAll r
def uptoBulkEntries {H : Type} : List (Lit × DataW H) → Nat
  | [] => 0
  | x :: r => uptoBulkEntry x + uptoBulkEntries r
def uptoBulkEntry {H : Type} : Lit × DataW H → Nat
  | (.string bytes, d) => bytes.length + uptoBulk d + 1
  | (_, d) => uptoBulk d + 1
 end
def uptoSmall : (H : Type) → List (DataW H) → Bool := fun _ ds => decide (uptoBulkAll ds ≤ 1048576)
def OpenSpec.upto (s : _root_.Go.ChangeSpec) : _root_.Go.OpenSpec := { _root_.Go.OpenSpec.ofChange s with cond := some uptoSmall }

/-- 'laws.FnExactCycleType', WHERE WHAT IT READS IS OF BULK AT MOST 1048576: true; the input reads as it did. -/
def fnExactCycleTypeUptoRow : OpenClaim := { program := "ytpegpdcdcfcgdaa", sum := "edd9f325686ad0f2098f47c0467ae61f6b28193fe27f51e7284dab33be0d7d88", func := "loop.example/g01285/laws.FnExactCycleType", spec := "fnExactCycleType", recurses := true, apart := false, narrowed := true }
def FnExactCycleTypeUptoSaid : Prop := fnExactCycleTypeUptoRow.holds Try.pinned (OpenSpec.upto fnExactCycleTypeSpec)

/-- 'laws.FnExactCountingSeries', WHERE WHAT IT READS IS OF BULK AT MOST 1048576: true; the input reads as it did. -/
def fnExactCountingSeriesUptoRow : OpenClaim := { program := "ytpegpdcdcfcgdaa", sum := "edd9f325686ad0f2098f47c0467ae61f6b28193fe27f51e7284dab33be0d7d88", func := "loop.example/g01285/laws.FnExactCountingSeries", spec := "fnExactCountingSeries", recurses := true, apart := false, narrowed := true }
def FnExactCountingSeriesUptoSaid : Prop := fnExactCountingSeriesUptoRow.holds Try.pinned (OpenSpec.upto fnExactCountingSeriesSpec)

/-- 'laws.FnPermutationSeries', WHERE WHAT IT READS IS OF BULK AT MOST 1048576: true; the input reads as it did. -/
def fnPermutationSeriesUptoRow : OpenClaim := { program := "ytpegpdcdcfcgdaa", sum := "edd9f325686ad0f2098f47c0467ae61f6b28193fe27f51e7284dab33be0d7d88", func := "loop.example/g01285/laws.FnPermutationSeries", spec := "fnPermutationSeries", recurses := true, apart := false, narrowed := true }
def FnPermutationSeriesUptoSaid : Prop := fnPermutationSeriesUptoRow.holds Try.pinned (OpenSpec.upto fnPermutationSeriesSpec)

end Rows
end Go.Proofs.Ytpegpdcdcfcgdaa
