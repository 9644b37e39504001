/- What is to be proved of the plain functions that the law uses: for all arguments the law's function is true. -/
import Derived.Test.YtpeihdjefpnoaaaEFnExactFreeNumberx13
import Derived.Test.YtpeihdjefpnoaaaXOpen
namespace Go.Proofs.Ytpeihdjefpnoaaa.Pure
open Go.RowKit Go.Proofs.Ytpeihdjefpnoaaa.EFnExactFreeNumber Go.Proofs.YtpeihdjefpnoaaaW.PrintWords Go.Proofs.YtpeihdjefpnoaaaW.PrintLast Go.Proofs.YtpeihdjefpnoaaaX

def good2 (n : Int) : Prop := (Lit.int .i64 n).wf = true
theorem opens2 : Opens Try.prog 2 (Kd.int .i64) good2 := opens_int Try.underlying2 (by kernel_rfl)
def good5 (n : Int) : Prop := (Lit.int .u8 n).wf = true
theorem opens5 : Opens Try.prog 5 (Kd.int .u8) good5 := opens_int Try.underlying5 (by kernel_rfl)
def good63 (y : S63) : Prop := good5 y.f0 ∧ good5 y.f1 ∧ good5 y.f2
theorem opens63 : Opens Try.prog 63 k63 good63 := opens_iso (fun x : S63 => (x.f0, x.f1, x.f2)) (fun p => ⟨p.1, p.2.1, p.2.2⟩) (fun _ => rfl) (opens_array3 Try.underlying63 (by kernel_rfl) opens5)
def good70 (y : S70) : Prop := good63 y.f0 ∧ good2 y.f1
theorem opens70 : Opens Try.prog 70 k70 good70 := opens_iso (fun x : S70 => (x.f0, x.f1)) (fun p => ⟨p.1, p.2⟩) (fun _ => rfl) (opens_struct2 Try.underlying70 (by kernel_rfl) (by kernel_rfl) (by kernel_rfl) opens63 opens2)
def good37 (l : List S70) : Prop := l.length ≤ 9223372036854775807 ∧ ∀ y ∈ l, good70 y
theorem opens37 : Opens Try.prog 37 (Kd.slice 70 k70) good37 := opens_slice Try.underlying37 (by kernel_rfl) opens70
def good39 (y : S39) : Prop := good2 y.f0 ∧ good2 y.f1 ∧ good37 y.f2
theorem opens39 : Opens Try.prog 39 k39 good39 := opens_iso (fun x : S39 => (x.f0, x.f1, x.f2)) (fun p => ⟨p.1, p.2.1, p.2.2⟩) (fun _ => rfl) (opens_struct3 Try.underlying39 (by kernel_rfl) (by kernel_rfl) (by kernel_rfl) (by kernel_rfl) opens2 opens2 opens37)
def good22 (l : List S39) : Prop := l.length ≤ 9223372036854775807 ∧ ∀ y ∈ l, good39 y
theorem opens22 : Opens Try.prog 22 (Kd.slice 39 k39) good22 := opens_slice Try.underlying22 (by kernel_rfl) opens39
def laws_FnExactFreeNumber.Pure : Prop := ∀ (z0_0 : List S39) (z1_0 : Int), good22 z0_0 → good2 z1_0 → ∃ k, laws_FnExactFreeNumber.f k z0_0 z1_0 = some true
end Go.Proofs.Ytpeihdjefpnoaaa.Pure
