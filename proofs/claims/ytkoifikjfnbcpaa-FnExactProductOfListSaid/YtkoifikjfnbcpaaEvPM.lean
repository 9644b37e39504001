/- The program's add: as the reference's. -/
import Derived.Test.YtkoifikjfnbcpaaEvPL
set_option linter.unusedVariables false
set_option linter.unusedSimpArgs false
namespace Go.Proofs.YtkoifikjfnbcpaaEv
open Go Go.RowKit Go.Proofs

theorem add_same {p v k : Int} {a r : List term.den} (h1 : 0 < p) (h2 : p ≤ 1000000) (ha : CanT p a) (hr : CanT p r) : sumP p v (logK k r (logK 1 a [])) = (p, v, plusP p k a r, ()) := by
  have ok : ∀ q ∈ lkeys (logK k r (logK 1 a [])), okX q := fun q hq => by
    rcases logK_keys.1 q hq with h | ⟨t, ht, rfl⟩
    · rcases logK_keys.1 q h with h | ⟨t, ht, rfl⟩
      · cases h
      · exact (ha.ok t ht).1
    · exact (hr.ok t ht).1
  obtain ⟨s1, s2⟩ := sumP_can (v := v) h1 h2 ok
  obtain ⟨q1, q2⟩ := plusP_can (k := k) h1 ha hr
  have : (sumP p v (logK k r (logK 1 a []))).2.2.1 = plusP p k a r := can_unique s1 q1 fun e => by
    rw [s2 e, q2 e]
    show mgI _ e % p = _
    rw [logK_get hr, logK_get ha, show mgI [] e = 0 from rfl]
    congr 1; omega
  show (p, v, (sumP p v (logK k r (logK 1 a []))).2.2.1, ()) = _
  rw [this]

end Go.Proofs.YtkoifikjfnbcpaaEv
