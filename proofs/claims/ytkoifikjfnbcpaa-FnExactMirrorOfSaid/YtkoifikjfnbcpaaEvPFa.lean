/- The test of a matrix. -/
import Derived.Test.YtkoifikjfnbcpaaEvPE
set_option linter.unusedVariables false
set_option linter.unusedSimpArgs false
namespace Go.Proofs.YtkoifikjfnbcpaaEv
open Go Go.RowKit

noncomputable def cf58 : Args [.v i64, .v i64, .v mat] → Option R58 := fn58 cf82 cf73 cf129 6
theorem k58 : KOne Try.prog 58 ⟨[.v i64, .v i64, .v mat], [.bool], false, false, 0, cf58⟩ := ok58 _ _ _ (.cons k82 (.cons k73 (.cons k129 .nil))) cf58 fun x y h => ⟨6, h⟩
theorem g58_ok {p n : Int} {g : Mat} (hg : okM g = true) : cf58 (p, n, g, ()) = some (matB p n g, ()) := by
  simp only [cf58, fn58]
  rw [show cf82 (p, ()) = some (isP p, ()) from rfl, show cf73 (n, (1 : Int), (3 : Int), ()) = some (inR n, ()) from rfl]
  simp only
  unfold matB
  cases hP : isP p with
  | false => rfl
  | true =>
    cases hR : inR n with
    | false => rfl
    | true =>
      simp only [Bool.not_true, cond_false, Bool.true_and]
      rw [show ru58_4 cf82 cf73 cf129 6 = fun s kx => iter (fun s k => st58_4 cf82 cf73 cf129 (2 + 4) s k kx) (2 + 4) s from rfl]
      simp only
      rw [loop58 hg]
      cases hr : rngB p n g with
      | false => rfl
      | true =>
        simp only [cond_true]
        obtain ⟨M, hM⟩ := g129_ok hg hP (inR_cases hR) hr
        rw [hM]
        rfl

def c61 (p n : Int) (l : List Mat) : Option (Bool × Unit) := if l.length ≤ 1000000 ∧ l.all okM = true then some (l.all (matB p n) && (isP p && inR n), ()) else none
def cf61 : Args [.v i64, .v i64, .v (.slice 27 mat)] → Option R61 := fun x => c61 x.1 x.2.1 x.2.2.1
theorem all_split {l : List Mat} {f : Mat → Bool} {i : Nat} (hi : i < l.length) : (l.drop i).all f = (f l[i] && (l.drop (i + 1)).all f) := by
  rw [List.drop_eq_getElem_cons hi, List.all_cons]
theorem run61 {p n : Int} {l : List Mat} (hl : l.length ≤ 1000000) (ho : l.all okM = true) : fn61 cf131 cf87 cf82 (l.length + 1) (p, n, l, ()) = some (l.all (matB p n) && (isP p && inR n), ()) := by
  simp (disch := omega) only [fn61, dln_t, cond_true, ru61_2]
  have main : ∀ (k i F : Nat), i + k = l.length → k < F → iter (fun s k => st61_2 cf131 cf87 cf82 (l.length + 1) s k (fun s' => match s' with | ((t0, _), (t1, _), (t9, _), (t10, _), (t11, _), _) => (match (cf82 (t0, ())) with | some r14 => (bif r14.1 then (match (cf87 (t1, ())) with | some r15 => (some ((bif true then r15.1 else false), ())) | none => none) else (some (false, ()))) | none => none))) F ((p, ()), ((n, ()), ((l, ()), (((l.length : Nat) : Int), ()), (((i : Nat) : Int), ()), ()))) =
      some ((l.drop i).all (matB p n) && (isP p && inR n), ()) := by
    intro k
    induction k with
    | zero =>
      intro i F hi hF
      obtain ⟨F, rfl⟩ : ∃ f, F = f + 1 := ⟨F - 1, by omega⟩
      rw [iter_succ]
      simp (disch := omega) only [st61_2, dlt_f, cond_false]
      rw [List.drop_eq_nil_of_le (by omega)]
      simp only [List.all_nil, Bool.true_and]
      rw [show cf82 (p, ()) = some (isP p, ()) from rfl, show cf87 (n, ()) = some (inR n, ()) from rfl]
      cases isP p <;> rfl
    | succ k ih =>
      intro i F hi hF
      obtain ⟨F, rfl⟩ : ∃ f, F = f + 1 := ⟨F - 1, by omega⟩
      have hil : i < l.length := by omega
      have e : l.getD i (Ty.dflt (.arr 3 (.arr 3 (.int .u8)))) = l[i] := by simp [List.getD_eq_getElem?_getD, List.getElem?_eq_getElem hil]
      have g1 := g131_ok (p := p) (n := n) (List.all_eq_true.1 ho _ (List.getElem_mem hil))
      rw [iter_succ, all_split hil]
      have ih := ih (i + 1) F (by omega) (by omega)
      generalize iter _ F = G at ih ⊢
      simp (disch := omega) only [st61_2, dlt_t, cond_true, ib_t, ofn, tn_cast, e, g1]
      cases matB p n l[i] with
      | false => rfl
      | true =>
        simp (disch := omega) only [Bool.not_true, cond_false, w6_id, Bool.true_and]
        exact ih
  exact main l.length 0 (l.length + 1) (by omega) (by omega)
theorem k61 : KOne Try.prog 61 ⟨[.v i64, .v i64, .v (.slice 27 mat)], [.bool], false, false, 0, cf61⟩ := ok61 _ _ _ (.cons k131 (.cons k87 (.cons k86 .nil))) cf61 fun x y h => by
  obtain ⟨p, n, l, _⟩ := x
  simp only [cf61, c61] at h
  split at h
  · rename_i hc
    injection h with h; subst h
    exact ⟨_, run61 hc.1 hc.2⟩
  · cases h
theorem g61_ok {p n : Int} {g : Mat} (hg : okM g = true) : cf61 (p, n, [g], ()) = some (matB p n g, ()) := by
  have : cf61 (p, n, [g], ()) = some ([g].all (matB p n) && (isP p && inR n), ()) := if_pos ⟨by simp, by simp [hg]⟩
  rw [this]
  simp only [List.all_cons, List.all_nil, Bool.and_true]
  unfold matB
  cases isP p <;> cases inR n <;> simp

theorem g19_ok {l : List Int} {k : Int} (hl : l.length ≤ 1000000) (hk : 0 ≤ k ∧ k ≤ 1000000000000) : cf19 (l, k, ()) = some (marks k l.length, k + l.length, ()) := if_pos ⟨hl, hk.1, hk.2⟩
theorem g20_ok {n : Nat} {k : Int} (hl : n ≤ 1000000) (hk : 0 ≤ k ∧ k ≤ 1000000000000) : cf20 (marks k n, k, ()) = some (k + n, ()) := by
  have hm := marks_len n k
  have : cf20 (marks k n, k, ()) = some (k + ((marks k n).length : Int), ()) := if_pos ⟨by rw [hm]; exact hl, hk.1, hk.2, by rw [hm]⟩
  rw [this, hm]

theorem matB_inv {p n : Int} {g : Mat} (h : matB p n g = true) : (2 ≤ p ∧ p ≤ 13) ∧ (n = 1 ∨ n = 2 ∨ n = 3) := by
  simp only [matB, Bool.and_eq_true] at h
  exact ⟨isP_pos h.1, inR_cases h.2.1⟩
end Go.Proofs.YtkoifikjfnbcpaaEv
