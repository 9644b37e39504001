/-
  No cell of these rows narrows 'for every input' (looked for: loops, veiled, ifaces, maps, wideKeys, modest, calm, conditions, laid).
  DERIVED. THE GIVEN ROWS OF THIS SEAT. 6 by the template 'for every input the law returns true; each argument reads behind the call as it read before'; 0 by the template 'total and deterministic' (their statements: YtdnpenpfadfehaaTotals.lean).
  GIVEN WITH THE SEED: the statements are not yours to turn. If you find one false, say at which input.
  Laid BY PROGRAM, IN A SANDBOX (cutbox-rows.mjs): the forced cells as the released guide's own fill.sh prints them over the translation d8f09d5335e71a0b… (all of the seat's roots in one cut). By AI agents, Wed Nov 11 2026. No macro, syntax, notation, axiom, sorry.
-/
import Derived.Test.YtdnpenpfadfehaaChecked
import GoSem.Claim
import GoSem.ClaimJoined
import GoSem.ClaimMapViews
import Derived.JoinedTies
import Derived.KernelRfl
namespace Go.Proofs.Ytdnpenpfadfehaa
/- THE CELL 'sum', in the pinned program and in every row, IS THE sha256 OF THE DUMP (.gsa) THAT YtdnpenpfadfehaaProg.lean LOADS. Nothing in Lean hashes anything: it is a label: what it is worth is what the hold of that sum in a sandbox is worth. -/
noncomputable def Try.pinned : Pinned := { name := "ytdnpenpfadfehaa", sum := "d8f09d5335e71a0b4fb6a8a4a3b1532db66c96e717a1c9bc8b36bba24b2d8f0a", checked := Try.checked }
namespace Rows
def none {H : Type} : Left H := { results := [], args := [] }

/-- 'laws.FnExactShiftSeries': WHATEVER THE INPUT: true; the input reads as it did. -/
def fnExactShiftSeriesSpec : ChangeSpec := { name := "fnExactShiftSeries", fn := fun _ => fun
  | [d1, d2] => { results := [.lit (.bool true)], args := [d1, d2] }
  | _ => none }
def fnExactShiftSeriesRow : OpenClaim := { program := "ytdnpenpfadfehaa", sum := "d8f09d5335e71a0b4fb6a8a4a3b1532db66c96e717a1c9bc8b36bba24b2d8f0a", func := "loop.example/g01285/laws.FnExactShiftSeries", spec := "fnExactShiftSeries", apart := false }
def FnExactShiftSeriesSaid : Prop := fnExactShiftSeriesRow.holds Try.pinned (OpenSpec.ofChange fnExactShiftSeriesSpec)

/-- ITS FALSE NEIGHBOUR: 'it returns false'. Refute it at one input. -/
def fnExactShiftSeriesWrong : ChangeSpec := { name := "fnExactShiftSeries", fn := fun _ => fun
  | [d1, d2] => { results := [.lit (.bool false)], args := [d1, d2] }
  | _ => none }
def FnExactShiftSeriesWrongFalsely : Prop := fnExactShiftSeriesRow.holds Try.pinned (OpenSpec.ofChange fnExactShiftSeriesWrong)

/-- 'laws.FnExactMultiplySeries': WHATEVER THE INPUT: true; the input reads as it did. -/
def fnExactMultiplySeriesSpec : ChangeSpec := { name := "fnExactMultiplySeries", fn := fun _ => fun
  | [d1, d2] => { results := [.lit (.bool true)], args := [d1, d2] }
  | _ => none }
def fnExactMultiplySeriesRow : OpenClaim := { program := "ytdnpenpfadfehaa", sum := "d8f09d5335e71a0b4fb6a8a4a3b1532db66c96e717a1c9bc8b36bba24b2d8f0a", func := "loop.example/g01285/laws.FnExactMultiplySeries", spec := "fnExactMultiplySeries", apart := false }
def FnExactMultiplySeriesSaid : Prop := fnExactMultiplySeriesRow.holds Try.pinned (OpenSpec.ofChange fnExactMultiplySeriesSpec)

/-- ITS FALSE NEIGHBOUR: 'it returns false'. Refute it at one input. -/
def fnExactMultiplySeriesWrong : ChangeSpec := { name := "fnExactMultiplySeries", fn := fun _ => fun
  | [d1, d2] => { results := [.lit (.bool false)], args := [d1, d2] }
  | _ => none }
def FnExactMultiplySeriesWrongFalsely : Prop := fnExactMultiplySeriesRow.holds Try.pinned (OpenSpec.ofChange fnExactMultiplySeriesWrong)

/-- 'laws.FnExactSeriesOfDegrees': WHATEVER THE INPUT: true; the input reads as it did. -/
def fnExactSeriesOfDegreesSpec : ChangeSpec := { name := "fnExactSeriesOfDegrees", fn := fun _ => fun
  | [d1, d2] => { results := [.lit (.bool true)], args := [d1, d2] }
  | _ => none }
def fnExactSeriesOfDegreesRow : OpenClaim := { program := "ytdnpenpfadfehaa", sum := "d8f09d5335e71a0b4fb6a8a4a3b1532db66c96e717a1c9bc8b36bba24b2d8f0a", func := "loop.example/g01285/laws.FnExactSeriesOfDegrees", spec := "fnExactSeriesOfDegrees", apart := false }
def FnExactSeriesOfDegreesSaid : Prop := fnExactSeriesOfDegreesRow.holds Try.pinned (OpenSpec.ofChange fnExactSeriesOfDegreesSpec)

/-- ITS FALSE NEIGHBOUR: 'it returns false'. Refute it at one input. -/
def fnExactSeriesOfDegreesWrong : ChangeSpec := { name := "fnExactSeriesOfDegrees", fn := fun _ => fun
  | [d1, d2] => { results := [.lit (.bool false)], args := [d1, d2] }
  | _ => none }
def FnExactSeriesOfDegreesWrongFalsely : Prop := fnExactSeriesOfDegreesRow.holds Try.pinned (OpenSpec.ofChange fnExactSeriesOfDegreesWrong)

/-- 'laws.FnExactNumeratorOf': WHATEVER THE INPUT: true; the input reads as it did. -/
def fnExactNumeratorOfSpec : ChangeSpec := { name := "fnExactNumeratorOf", fn := fun _ => fun
  | [d1, d2] => { results := [.lit (.bool true)], args := [d1, d2] }
  | _ => none }
def fnExactNumeratorOfRow : OpenClaim := { program := "ytdnpenpfadfehaa", sum := "d8f09d5335e71a0b4fb6a8a4a3b1532db66c96e717a1c9bc8b36bba24b2d8f0a", func := "loop.example/g01285/laws.FnExactNumeratorOf", spec := "fnExactNumeratorOf", apart := false }
def FnExactNumeratorOfSaid : Prop := fnExactNumeratorOfRow.holds Try.pinned (OpenSpec.ofChange fnExactNumeratorOfSpec)

/-- ITS FALSE NEIGHBOUR: 'it returns false'. Refute it at one input. -/
def fnExactNumeratorOfWrong : ChangeSpec := { name := "fnExactNumeratorOf", fn := fun _ => fun
  | [d1, d2] => { results := [.lit (.bool false)], args := [d1, d2] }
  | _ => none }
def FnExactNumeratorOfWrongFalsely : Prop := fnExactNumeratorOfRow.holds Try.pinned (OpenSpec.ofChange fnExactNumeratorOfWrong)

/-- 'laws.FnExactCharacteristicOf': WHATEVER THE INPUT: true; the input reads as it did. -/
def fnExactCharacteristicOfSpec : ChangeSpec := { name := "fnExactCharacteristicOf", fn := fun _ => fun
  | [d1, d2, d3] => { results := [.lit (.bool true)], args := [d1, d2, d3] }
  | _ => none }
def fnExactCharacteristicOfRow : OpenClaim := { program := "ytdnpenpfadfehaa", sum := "d8f09d5335e71a0b4fb6a8a4a3b1532db66c96e717a1c9bc8b36bba24b2d8f0a", func := "loop.example/g01285/laws.FnExactCharacteristicOf", spec := "fnExactCharacteristicOf", unfollowed := true, recurses := true, apart := false }
def FnExactCharacteristicOfSaid : Prop := fnExactCharacteristicOfRow.holds Try.pinned (OpenSpec.ofChange fnExactCharacteristicOfSpec)

/-- ITS FALSE NEIGHBOUR: 'it returns false'. Refute it at one input. -/
def fnExactCharacteristicOfWrong : ChangeSpec := { name := "fnExactCharacteristicOf", fn := fun _ => fun
  | [d1, d2, d3] => { results := [.lit (.bool false)], args := [d1, d2, d3] }
  | _ => none }
def FnExactCharacteristicOfWrongFalsely : Prop := fnExactCharacteristicOfRow.holds Try.pinned (OpenSpec.ofChange fnExactCharacteristicOfWrong)

/-- 'laws.FnExactRowOfPoly': WHATEVER THE INPUT: true; the input reads as it did. -/
def fnExactRowOfPolySpec : ChangeSpec := { name := "fnExactRowOfPoly", fn := fun _ => fun
  | [d1, d2] => { results := [.lit (.bool true)], args := [d1, d2] }
  | _ => none }
def fnExactRowOfPolyRow : OpenClaim := { program := "ytdnpenpfadfehaa", sum := "d8f09d5335e71a0b4fb6a8a4a3b1532db66c96e717a1c9bc8b36bba24b2d8f0a", func := "loop.example/g01285/laws.FnExactRowOfPoly", spec := "fnExactRowOfPoly", apart := false }
def FnExactRowOfPolySaid : Prop := fnExactRowOfPolyRow.holds Try.pinned (OpenSpec.ofChange fnExactRowOfPolySpec)

/-- ITS FALSE NEIGHBOUR: 'it returns false'. Refute it at one input. -/
def fnExactRowOfPolyWrong : ChangeSpec := { name := "fnExactRowOfPoly", fn := fun _ => fun
  | [d1, d2] => { results := [.lit (.bool false)], args := [d1, d2] }
  | _ => none }
def FnExactRowOfPolyWrongFalsely : Prop := fnExactRowOfPolyRow.holds Try.pinned (OpenSpec.ofChange fnExactRowOfPolyWrong)

/- THE SECOND FORM. 'bulk': how many values and letters a reading holds, each counted each time it is reached (what is shared counts as often as it is met; a slice's spare places count too). A statement '..UptoSaid' is the law's where the arguments, and the package variables that the reading takes, are together of bulk at most 1048576: NARROWER than '..Said'. Prove '..Said' where nothing that the law and all that it calls make is longer than what came in: it says more and counts as full. Else prove '..UptoSaid'. A law counts once. -/
mutual
def uptoBulk {H : Type} : DataW H → Nat
  | .lit (.string bytes) => bytes.length + 1
  | .lit _ => 1
  | .nil => 1
  | .ptr d => uptoBulk d + 1
  | .slice elems spare => uptoBulkAll elems + uptoBulkAll spare + 1
  | .agg parts => uptoBulkAll parts + 1
  | .iface _ d => uptoBulk d + 1
  | .map entries => uptoBulkEntries entries + 1
  | .held _ => 1
def uptoBulkAll {H : Type} : List (DataW H) → Nat
  | [] => 0
  | d :: r => uptoBulk d + uptoBulkAll r
def uptoBulkEntries {H : Type} : List (Lit × DataW H) → Nat
  | [] => 0
  | x :: r => uptoBulkEntry x + uptoBulkEntries r
def uptoBulkEntry {H : Type} : Lit × DataW H → Nat
  | (.string bytes, d) => bytes.length + uptoBulk d + 1
  | (_, d) => uptoBulk d + 1
 end
def uptoSmall : (H : Type) → List (DataW H) → Bool := fun _ ds => decide (uptoBulkAll ds ≤ 1048576)
def OpenSpec.upto (s : _root_.Go.ChangeSpec) : _root_.Go.OpenSpec := { _root_.Go.OpenSpec.ofChange s with cond := some uptoSmall }

/-- 'laws.FnExactShiftSeries', WHERE WHAT IT READS IS OF BULK AT MOST 1048576: true; the input reads as it did. -/
def fnExactShiftSeriesUptoRow : OpenClaim := { program := "ytdnpenpfadfehaa", sum := "d8f09d5335e71a0b4fb6a8a4a3b1532db66c96e717a1c9bc8b36bba24b2d8f0a", func := "loop.example/g01285/laws.FnExactShiftSeries", spec := "fnExactShiftSeries", apart := false, narrowed := true }
def FnExactShiftSeriesUptoSaid : Prop := fnExactShiftSeriesUptoRow.holds Try.pinned (OpenSpec.upto fnExactShiftSeriesSpec)

/-- 'laws.FnExactMultiplySeries', WHERE WHAT IT READS IS OF BULK AT MOST 1048576: true; the input reads as it did. -/
def fnExactMultiplySeriesUptoRow : OpenClaim := { program := "ytdnpenpfadfehaa", sum := "d8f09d5335e71a0b4fb6a8a4a3b1532db66c96e717a1c9bc8b36bba24b2d8f0a", func := "loop.example/g01285/laws.FnExactMultiplySeries", spec := "fnExactMultiplySeries", apart := false, narrowed := true }
def FnExactMultiplySeriesUptoSaid : Prop := fnExactMultiplySeriesUptoRow.holds Try.pinned (OpenSpec.upto fnExactMultiplySeriesSpec)

/-- 'laws.FnExactSeriesOfDegrees', WHERE WHAT IT READS IS OF BULK AT MOST 1048576: true; the input reads as it did. -/
def fnExactSeriesOfDegreesUptoRow : OpenClaim := { program := "ytdnpenpfadfehaa", sum := "d8f09d5335e71a0b4fb6a8a4a3b1532db66c96e717a1c9bc8b36bba24b2d8f0a", func := "loop.example/g01285/laws.FnExactSeriesOfDegrees", spec := "fnExactSeriesOfDegrees", apart := false, narrowed := true }
def FnExactSeriesOfDegreesUptoSaid : Prop := fnExactSeriesOfDegreesUptoRow.holds Try.pinned (OpenSpec.upto fnExactSeriesOfDegreesSpec)

/-- 'laws.FnExactNumeratorOf', WHERE WHAT IT READS IS OF BULK AT MOST 1048576: true; the input reads as it did. -/
def fnExactNumeratorOfUptoRow : OpenClaim := { program := "ytdnpenpfadfehaa", sum := "d8f09d5335e71a0b4fb6a8a4a3b1532db66c96e717a1c9bc8b36bba24b2d8f0a", func := "loop.example/g01285/laws.FnExactNumeratorOf", spec := "fnExactNumeratorOf", apart := false, narrowed := true }
def FnExactNumeratorOfUptoSaid : Prop := fnExactNumeratorOfUptoRow.holds Try.pinned (OpenSpec.upto fnExactNumeratorOfSpec)

/-- 'laws.FnExactCharacteristicOf', WHERE WHAT IT READS IS OF BULK AT MOST 1048576: true; the input reads as it did. -/
def fnExactCharacteristicOfUptoRow : OpenClaim := { program := "ytdnpenpfadfehaa", sum := "d8f09d5335e71a0b4fb6a8a4a3b1532db66c96e717a1c9bc8b36bba24b2d8f0a", func := "loop.example/g01285/laws.FnExactCharacteristicOf", spec := "fnExactCharacteristicOf", unfollowed := true, recurses := true, apart := false, narrowed := true }
def FnExactCharacteristicOfUptoSaid : Prop := fnExactCharacteristicOfUptoRow.holds Try.pinned (OpenSpec.upto fnExactCharacteristicOfSpec)

/-- 'laws.FnExactRowOfPoly', WHERE WHAT IT READS IS OF BULK AT MOST 1048576: true; the input reads as it did. -/
def fnExactRowOfPolyUptoRow : OpenClaim := { program := "ytdnpenpfadfehaa", sum := "d8f09d5335e71a0b4fb6a8a4a3b1532db66c96e717a1c9bc8b36bba24b2d8f0a", func := "loop.example/g01285/laws.FnExactRowOfPoly", spec := "fnExactRowOfPoly", apart := false, narrowed := true }
def FnExactRowOfPolyUptoSaid : Prop := fnExactRowOfPolyUptoRow.holds Try.pinned (OpenSpec.upto fnExactRowOfPolySpec)

end Rows
end Go.Proofs.Ytdnpenpfadfehaa
