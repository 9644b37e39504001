/- What is to be proved of the plain functions that the law uses: for all arguments the law's function is true. -/
import Derived.Test.YtdnpenpfadfehaaEFnExactRowOfPolyx11
import Derived.Test.YtdnpenpfadfehaaXOpen
namespace Go.Proofs.Ytdnpenpfadfehaa.Pure
open Go.RowKit Go.Proofs.Ytdnpenpfadfehaa.EFnExactRowOfPoly Go.Proofs.YtdnpenpfadfehaaW.PrintWords Go.Proofs.YtdnpenpfadfehaaW.PrintLast Go.Proofs.YtdnpenpfadfehaaX

def good2 (n : Int) : Prop := (Lit.int .i64 n).wf = true
theorem opens2 : Opens Try.prog 2 (Kd.int .i64) good2 := opens_int Try.underlying2 (by kernel_rfl)
def good5 (n : Int) : Prop := (Lit.int .u8 n).wf = true
theorem opens5 : Opens Try.prog 5 (Kd.int .u8) good5 := opens_int Try.underlying5 (by kernel_rfl)
def good30 (y : S30) : Prop := good5 y.f0 ∧ good5 y.f1 ∧ good5 y.f2
theorem opens30 : Opens Try.prog 30 k30 good30 := opens_iso (fun x : S30 => (x.f0, x.f1, x.f2)) (fun p => ⟨p.1, p.2.1, p.2.2⟩) (fun _ => rfl) (opens_array3 Try.underlying30 (by kernel_rfl) opens5)
def good77 (y : S77) : Prop := good30 y.f0 ∧ good2 y.f1
theorem opens77 : Opens Try.prog 77 k77 good77 := opens_iso (fun x : S77 => (x.f0, x.f1)) (fun p => ⟨p.1, p.2⟩) (fun _ => rfl) (opens_struct2 Try.underlying77 (by kernel_rfl) (by kernel_rfl) (by kernel_rfl) opens30 opens2)
def good36 (l : List S77) : Prop := l.length ≤ 9223372036854775807 ∧ ∀ y ∈ l, good77 y
theorem opens36 : Opens Try.prog 36 (Kd.slice 77 k77) good36 := opens_slice Try.underlying36 (by kernel_rfl) opens77
def good38 (y : Int × Int × (List S77)) : Prop := good2 y.1 ∧ good2 y.2.1 ∧ good36 y.2.2
theorem opens38 : Opens Try.prog 38 (Kd.pair (Kd.int .i64) (Kd.pair (Kd.int .i64) (Kd.slice 77 k77))) good38 := opens_struct3 Try.underlying38 (by kernel_rfl) (by kernel_rfl) (by kernel_rfl) (by kernel_rfl) opens2 opens2 opens36
def laws_FnExactRowOfPoly.Pure : Prop := ∀ (z0_0 : Int) (z0_1 : Int) (z0_2 : List S77) (z1_0 : Int), good2 z0_0 → good2 z0_1 → good36 z0_2 → good2 z1_0 → ∃ k, laws_FnExactRowOfPoly.f k z0_0 z0_1 z0_2 z1_0 = some true
end Go.Proofs.Ytdnpenpfadfehaa.Pure
