/- The law on IsReflection gives true. -/
import Derived.Test.YtkoifikjfnbcpaaEvPT
import Derived.Test.YtkoifikjfnbcpaaEvL7
import Derived.Test.YtkoifikjfnbcpaaEvMD
set_option linter.unusedVariables false
set_option linter.unusedSimpArgs false
namespace Go.Proofs.YtkoifikjfnbcpaaEv
open Go Go.RowKit

theorem law7_one : KOne Try.prog 7 ⟨[.v i64, .v i64, .v mat], [.bool], false, false, 0, fun x => bif okA [.v i64, .v i64, .v mat] x then some (true, ()) else none⟩ :=
  ok7 _ _ _ (.cons k16 (.cons k42 (.cons k43 .nil))) _ fun x y h => by
    obtain ⟨p, n, g, _⟩ := x
    cases hx : okA [.v i64, .v i64, .v mat] (p, n, g, ()) with
    | false => rw [hx] at h; cases h
    | true =>
      rw [hx] at h; injection h with h; subst h
      refine ⟨0, ?_⟩
      simp only [okA, Bool.and_eq_true] at hx
      have hg : okM g = true := hx.2.2.1
      obtain ⟨b, c, e1, e2⟩ := same42 (p := p) (n := n) hg
      have c16 : cf16 (g, ()) = some (g, ()) := rfl
      simp only [fn7, c16, e1, e2, decide_true, Bool.not_true, cond_false, beq_self_eq_true]

end Go.Proofs.YtkoifikjfnbcpaaEv
