/- Terms laid into a map. -/
import Derived.Test.YtkoifikjfnbcpaaEvPK
import Derived.Test.YtkoifikjfnbcpaaEvFp
set_option linter.unusedVariables false
set_option linter.unusedSimpArgs false
namespace Go.Proofs.YtkoifikjfnbcpaaEv
open Go Go.RowKit Go.Proofs

def nT (t : term.den) : Int := t.2.1
abbrev Lg : Type := List (ex.den × i64.den)
def mgI (m : Lg) (e : ex.den) : Int := mget ex i64 m e
theorem mgI_cons {x : ex.den} {y : Int} {m : Lg} {e : ex.den} : mgI ((x, y) :: m) e = if x = e then y else mgI m e := by
  unfold mgI
  by_cases h : x = e
  · subst h; rw [if_pos rfl]; exact mget_hit keyT_ex
  · rw [if_neg h]; exact mget_miss keyT_ex h
/-- k times the numbers of r laid by. -/
def logK (k : Int) : List term.den → Lg → Lg
  | [], m => m
  | t :: r, m => logK k r ((t.1, mgI m t.1 + k * nT t) :: m)
theorem logK_get {p k : Int} : ∀ {r : List term.den} {m : Lg}, CanT p r → ∀ e, mgI (logK k r m) e = mgI m e + k * coT r e
  | [], m, _, e => by show mgI m e = mgI m e + k * 0; omega
  | t :: r, m, h, e => by
    show mgI (logK k r _) e = _
    rw [logK_get h.tail e, mgI_cons]
    show _ = mgI m e + k * (if t.1 = e then t.2.1 else coT r e)
    by_cases q : t.1 = e
    · subst q; rw [if_pos rfl, if_pos rfl, coT_head h]; show _ + k * 0 = _; rw [Int.mul_zero, Int.add_zero]; rfl
    · rw [if_neg q, if_neg q]
theorem lkeys_cons {x : ex.den} {y : Int} {m : Lg} : (∀ q ∈ lkeys ((x, y) :: m), q = x ∨ q ∈ lkeys m) ∧ (lkeys ((x, y) :: m)).length ≤ (lkeys m).length + 1 := by
  refine ⟨fun q hq => ?_, ?_⟩
  · obtain ⟨z, hz, rfl⟩ := lkeys_mem.1 hq
    rcases List.mem_cons.1 hz with rfl | hz
    · exact .inl rfl
    · exact .inr (lkeys_mem.2 ⟨z, hz, rfl⟩)
  · simp only [lkeys]
    cases (lkeys m).any (fun k => ex.eqd x k) <;> simp
theorem logK_keys {k : Int} : ∀ {r : List term.den} {m : Lg}, (∀ q ∈ lkeys (logK k r m), q ∈ lkeys m ∨ ∃ t ∈ r, t.1 = q) ∧ (lkeys (logK k r m)).length ≤ (lkeys m).length + r.length
  | [], m => ⟨fun q h => .inl h, Nat.le_refl _⟩
  | t :: r, m => by
    obtain ⟨a, b⟩ := logK_keys (k := k) (r := r) (m := (t.1, mgI m t.1 + k * nT t) :: m)
    obtain ⟨c, d⟩ := lkeys_cons (x := t.1) (y := mgI m t.1 + k * nT t) (m := m)
    refine ⟨fun q h => ?_, ?_⟩
    · rcases a q h with h | ⟨s, hs, e⟩
      · rcases c q h with h | h
        · exact .inr ⟨t, .head _, h.symm⟩
        · exact .inl h
      · exact .inr ⟨s, .tail _ hs, e⟩
    · refine Nat.le_trans b ?_
      simp only [List.length_cons]; omega

end Go.Proofs.YtkoifikjfnbcpaaEv
