/- What is to be proved of the plain functions that the law uses: for all arguments the law's function is true. -/
import Derived.Test.YtpegpdcdcfcgdaaEFnExactCountingSeriesx9
import Derived.Test.YtpegpdcdcfcgdaaXOpen
namespace Go.Proofs.Ytpegpdcdcfcgdaa.Pure
open Go.RowKit Go.Proofs.Ytpegpdcdcfcgdaa.EFnExactCountingSeries Go.Proofs.YtpegpdcdcfcgdaaW.PrintWords Go.Proofs.YtpegpdcdcfcgdaaW.PrintLast Go.Proofs.YtpegpdcdcfcgdaaX

def good2 (n : Int) : Prop := (Lit.int .i64 n).wf = true
theorem opens2 : Opens Try.prog 2 (Kd.int .i64) good2 := opens_int Try.underlying2 (by kernel_rfl)
def good22 (l : List Int) : Prop := l.length ≤ 9223372036854775807 ∧ ∀ y ∈ l, good2 y
theorem opens22 : Opens Try.prog 22 (Kd.slice 2 (Kd.int .i64)) good22 := opens_slice Try.underlying22 (by kernel_rfl) opens2
def good29 (l : List (List Int)) : Prop := l.length ≤ 9223372036854775807 ∧ ∀ y ∈ l, good22 y
theorem opens29 : Opens Try.prog 29 (Kd.slice 22 (Kd.slice 2 (Kd.int .i64))) good29 := opens_slice Try.underlying29 (by kernel_rfl) opens22
def laws_FnExactCountingSeries.Pure : Prop := ∀ (z0_0 : List (List Int)) (z1_0 : Int), good29 z0_0 → good2 z1_0 → ∃ k, laws_FnExactCountingSeries.f k z0_0 z1_0 = some true
end Go.Proofs.Ytpegpdcdcfcgdaa.Pure
