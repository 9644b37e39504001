/- Rows reduced one by one, in whatever order they are kept: the same reduced list. -/
import Derived.Test.YtkoifikjfnbcpaaEvPC
import Derived.Test.YtkoifikjfnbcpaaEvME
import Derived.Test.YtkoifikjfnbcpaaEvLinA
set_option linter.unusedVariables false
set_option linter.unusedSimpArgs false
namespace Go.Proofs.YtkoifikjfnbcpaaEv
open Go Go.RowKit

section
variable {p : Int} {m : Nat}

theorem fold_perm (hP : isP p = true) : ∀ {rows a b : List (List Int)}, a.Perm b → RR p m b → (∀ r ∈ rows, Can p m r) → (rows.foldl (takeL p) a).Perm (rows.foldl (stepR p) b)
  | [], a, b, h, _, _ => h
  | r :: rs, a, b, h, rr, hc => by
    have := isP_pos hP
    exact fold_perm (rows := rs) hP (take_perm (by omega) h rr (hc r (.head _))) (stepR_RR hP rr (hc r (.head _))) fun x hx => hc x (.tail _ hx)

theorem ldI_of {r : List Int} (h : ld r < r.length) : ldI r = (ld r : Int) := by unfold ldI; rw [if_neg (by omega)]

theorem RR.lds {out : List (List Int)} (rr : RR p m out) : out.Pairwise fun a b => ldI a < ldI b := by
  refine rr.ord.imp_of_mem fun {a b} ha hb h => ?_
  rw [ldI_of (by rw [(rr.can a ha).len]; exact rr.lt a ha), ldI_of (by rw [(rr.can b hb).len]; exact rr.lt b hb)]
  have := h.1; omega

/-- Sorted by where the rows begin: the reduced list. -/
theorem sort_ech (hP : isP p = true) {rows : List (List Int)} (hc : ∀ r ∈ rows, Can p m r) : sortK ldI (rows.foldl (takeL p) []) = ech p rows ∧ ((rows.foldl (takeL p) []).map ldI).Nodup := by
  have hp : (rows.foldl (takeL p) []).Perm (ech p rows) := fold_perm hP (.refl _) .nil hc
  have rr := ech_RR hP hc
  have hn : ((rows.foldl (takeL p) []).map ldI).Nodup := by
    refine (hp.map ldI).nodup_iff.2 ?_
    rw [List.nodup_iff_pairwise_ne, List.pairwise_map]
    exact rr.lds.imp fun h => by omega
  exact ⟨(sortK_unique hp.symm (rr.lds.imp fun h => by omega) hn).symm, hn⟩

theorem take_mem (hP : isP p = true) {rows : List (List Int)} (hc : ∀ r ∈ rows, Can p m r) : ∀ o ∈ rows.foldl (takeL p) [], Can p m o ∧ ld o < m := fun o ho => by
  have hp : (rows.foldl (takeL p) []).Perm (ech p rows) := fold_perm hP (.refl _) .nil hc
  have rr := ech_RR hP hc
  have := hp.mem_iff.1 ho
  exact ⟨rr.can o this, rr.lt o this⟩

theorem takes_len : ∀ {rows out : List (List Int)}, (rows.foldl (takeL p) out).length ≤ out.length + rows.length
  | [], out => by simp
  | r :: rs, out => by
    have := takes_len (rows := rs) (out := takeL p out r)
    have := takeL_len (p := p) (out := out) (r := r)
    simp only [List.foldl_cons, List.length_cons]; omega

end
end Go.Proofs.YtkoifikjfnbcpaaEv
