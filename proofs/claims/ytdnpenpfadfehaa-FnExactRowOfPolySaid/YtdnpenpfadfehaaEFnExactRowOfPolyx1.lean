/- The functions that the law uses, as plain functions, and that the code comes to what they say. -/
import Derived.Test.YtdnpenpfadfehaaEFnExactRowOfPolyx0
namespace Go.Proofs.Ytdnpenpfadfehaa.EFnExactRowOfPoly
open Go.RowKit Go.Proofs.YtdnpenpfadfehaaW.PrintWords Go.Proofs.YtdnpenpfadfehaaW.PrintLast Go.Proofs.YtdnpenpfadfehaaW.PrintMore Go.Proofs.YtdnpenpfadfehaaX
attribute [local go_sem] max2_int min2_int max_two min_two max_three min_three max_four min_four   -- for this text's walks alone
set_option linter.unusedVariables false
set_option linter.unusedSimpArgs false

theorem eqA67 (d : Nat) (w : World) (x0 y0 : Int) (x1 y1 : Int) (x2 y2 : Int) :
    (Op.equalIn (d + 2) 67 (.agg #[.int .u8 x0, .int .u8 x1, .int .u8 x2]) (.agg #[.int .u8 y0, .int .u8 y1, .int .u8 y2])).run Try.prog w = .ok (x0 == y0 && (x1 == y1 && (x2 == y2))) w := by
  refine eqArr_of (n := 1) Try.underlying67 (fun _ => by kernel_rfl) ?_
  refine eqe_cons (by go_simp; rfl) (by go_simp; rfl) (by go_simp) ?_
  refine eqe_cons (by go_simp; rfl) (by go_simp; rfl) (by go_simp) ?_
  exact eqe_last (by go_simp; rfl) (by go_simp; rfl) (by go_simp)
end Go.Proofs.Ytdnpenpfadfehaa.EFnExactRowOfPoly
