/- PolyOfRow: the law's text comes to true. -/
import Derived.Test.YtkoifikjfnbcpaaEvPYb
set_option linter.unusedVariables false
set_option linter.unusedSimpArgs false
namespace Go.Proofs.YtkoifikjfnbcpaaEv
open Go Go.RowKit Go.Proofs

theorem isP_r {p : Int} (h : isP p = true) : 2 ≤ p ∧ p ≤ 13 := by
  simp only [isP, Bool.or_eq_true, decide_eq_true_eq] at h; omega

theorem g85_ok {p d n : Int} {m : List ex.den} {r : List Int} (e84 : cf84 (d, n, ()) = some (m, ())) (hl : m.length = r.length) (hm : m.length ≤ 100) : cf85 (p, d, n, r, ()) = some ((p, d, rowT m r, ()), ()) := by
  simp only [cf85, fn85]
  rw [e84]
  show ru85_3 cf84 cf97 200 ((r, ()), (_, ((m, ()), ((p, d, [], ()), (((0 : Int), ()), ()))))) _ = _
  exact run85 (z := Ty.dflt poly) m r [] [] [] 200 rfl hl (by omega) (by simpa using (by omega : m.length ≤ 1000)) (Nat.le_refl _)
theorem g90_ok {p d n : Int} {m : List ex.den} {r : List Int} (hp : 0 < p ∧ p ≤ 1000000) (e88 : cf88 (d, n, ()) = some (m, ())) (hs : m.Pairwise (fun a b => keyX a < keyX b)) (ho : ∀ e ∈ m, okX e) (hr : ∀ x ∈ r, 0 ≤ x ∧ x < p) (hl : m.length = r.length) (hm : m.length ≤ 100) : cf90 (p, d, n, r, ()) = some ((p, d, rowT m r, ()), ()) := by
  simp only [cf90, fn90]
  rw [e88]
  show (bif decide (m.length ≤ 9223372036854775807) then ru90_3 cf103 cf88 200 ((p, ()), ((d, ()), ((r, ()), (_, ([], ((m, ()), (((m.length : Int), ()), (((0 : Int), ()), ())))))))) _ else none) = _
  rw [dln_t (by omega), cond_true]
  refine (run90 (z := Ty.dflt poly) (M := m.length) m r [] [] [] 200 rfl hl (by omega) rfl (by omega)).trans ?_
  have k2 := (rowL_keys (m := m) (r := r) (l := [])).2
  have g := g103_ok (p := p) (v := d) (m := rowL m r []) hp (by
    have : (lkeys ([] : Lg)).length = 0 := rfl
    omega)
  rw [row_same hp.1 hp.2 hs ho hr hl] at g
  rw [g]

noncomputable def cf36 : G36 := fn36 cf82 cf73 cf84 cf83 cf85 0
theorem k36 : KOne Try.prog 36 ⟨[.v i64, .v i64, .v i64, .v (.slice 2 i64)], [poly, i64], true, false, 0, cf36⟩ := ok36 _ _ _ _ _ (.cons k82 (.cons k73 (.cons k84 (.cons k83 (.cons k85 .nil))))) cf36 fun x y h => ⟨0, h⟩
noncomputable def cf38 : G38 := fn38 cf82 cf87 cf68 cf88 cf89 cf90 cf91 0
theorem k38 : KOne Try.prog 38 ⟨[.v i64, .v i64, .v i64, .v (.slice 2 i64)], [poly, i64], true, false, 0, cf38⟩ := ok38 _ _ _ _ _ _ _ (.cons k86 (.cons k87 (.cons k68 (.cons k88 (.cons k89 (.cons k90 (.cons k91 .nil))))))) cf38 fun x y h => ⟨0, h⟩

theorem same36 (p d n : Int) (r : List Int) (hr : r.length ≤ 1100000) : ∃ (q v : Int) (L : List term.den) (c : Int), L.length ≤ 1000000 ∧ cf36 (p, d, n, r, ()) = some ((q, v, L, ()), c, ()) ∧ cf38 (p, d, n, r, ()) = some ((q, v, L, ()), c, ()) := by
  simp only [cf36, cf38, fn36, fn38]
  rw [show cf82 (p, ()) = some (isP p, ()) from rfl, show cf87 (d, ()) = some (decide (1 ≤ d) && decide (d ≤ 3), ()) from rfl, g68,
    show cf73 (d, (1 : Int), (3 : Int), ()) = some (decide (1 ≤ d) && decide (d ≤ 3), ()) from rfl, show cf73 (n, (0 : Int), (12 : Int), ()) = some (decide (0 ≤ n) && decide (n ≤ 12), ()) from rfl]
  cases hP : isP p with
  | false => exact ⟨0, 0, [], 2, by simp, rfl, rfl⟩
  | true =>
    have hp := isP_r hP
    simp only [Bool.not_true, cond_false]
    cases hd : (decide (1 ≤ d) && decide (d ≤ 3)) with
    | false => exact ⟨0, 0, [], 2, by simp, rfl, rfl⟩
    | true =>
      cases hn : (decide (0 ≤ n) && decide (n ≤ 12)) with
      | false => exact ⟨0, 0, [], 2, by simp, rfl, rfl⟩
      | true =>
        simp only [Bool.and_eq_true, decide_eq_true_eq] at hd hn
        obtain ⟨m, e88, e84, hs, ho, hm⟩ := mons_ok hd hn
        simp only [Bool.not_true, cond_false]
        rw [e84, e88]
        have e83 : cf83 (p, (m.length : Int), r, ()) = some (r.all (inF p) && decide ((r.length : Int) = m.length), ()) := if_pos ⟨hr, by show (1 : Int) ≤ p; omega, by show p ≤ (1000000 : Int); omega⟩
        have e89 : cf89 (p, r, ()) = some (r.all (inF p), ()) := if_pos hr
        simp only [ofn]
        rw [dln_t (show m.length ≤ 9223372036854775807 by omega), dln_t (show r.length ≤ 9223372036854775807 by omega), e83, e89]
        simp only [cond_true]
        by_cases hl : r.length = m.length
        · have hl' : (r.length : Int) = m.length := by rw [hl]
          rw [deq_t hl']
          simp only [Bool.and_true, Bool.not_true, cond_false]
          cases hf : r.all (inF p) with
          | false => exact ⟨0, 0, [], 2, by simp, rfl, rfl⟩
          | true =>
            have hr' : ∀ x ∈ r, 0 ≤ x ∧ x < p := fun x hx => by
              have := List.all_eq_true.1 hf x hx
              simp only [inF, Bool.and_eq_true, decide_eq_true_eq] at this; omega
            have hr6 : r.length ≤ 1000000 := by omega
            have e91 : cf91 (r, ()) = some (r, ()) := if_pos hr6
            have e85 := g85_ok (p := p) (d := d) (n := n) e84 hl.symm hm
            have e90 := g90_ok (p := p) (d := d) (n := n) (by omega) e88 hs ho hr' hl.symm hm
            simp only [Bool.not_true, cond_false]
            rw [e85, e91]
            refine ⟨p, d, rowT m r, 0, Nat.le_trans rowT_len (by omega), rfl, ?_⟩
            show (match cf90 (p, d, n, r, ()) with | some r20 => _ | none => none) = _
            rw [e90]
        · have hl' : (r.length : Int) ≠ m.length := fun q => hl (by omega)
          rw [deq_f hl']
          exact ⟨0, 0, [], 2, by simp, by rw [Bool.and_false]; rfl, rfl⟩

theorem law6_one : KOne Try.prog 6 ⟨[.v i64, .v i64, .v i64, .v (.slice 2 i64)], [.bool], false, false, 0, fun x => bif okA [.v i64, .v i64, .v i64, .v (.slice 2 i64)] x then some (true, ()) else none⟩ :=
  ok6 _ _ _ _ _ _ _ _ (.cons k39 (.cons k40 (.cons k41 (.cons k19b (.cons k18b (.cons k38 (.cons k36 (.cons k37 .nil)))))))) _ fun x y h => by
    obtain ⟨p, d, n, r, _⟩ := x
    change List Int at r
    cases hx : okA [.v i64, .v i64, .v i64, .v (.slice 2 i64)] (p, d, n, r, ()) with
    | false => simp only [hx, cond_false] at h; cases h
    | true =>
      simp only [hx, cond_true] at h
      injection h with h; subst h
      refine ⟨0, ?_⟩
      simp only [okA, okV, Bool.and_true, Bool.and_eq_true, decide_eq_true_eq] at hx
      have hlen : r.length ≤ 9223372036854775807 := hx.2.2.2.1
      clear hx
      simp only [fn6, ofn]
      rw [dln_t hlen, cond_true]
      by_cases hbig : (1048576 : Int) < r.length
      · rw [dlt_t hbig, cond_true]
      · rw [dlt_f (by omega), cond_false]
        have hr : r.length ≤ 1100000 := by omega
        obtain ⟨q, v, L, c, hl, e1, e2⟩ := same36 p d n r hr
        have c37 := g37_ok hr
        have c39 := g39_ok (p := q) (v := v) hl
        have c40 := g40_ok (p := q) (v := v) (k := 1) hl (by omega)
        have c41 := g41_ok (p := q) (v := v) (k := 1) (n := L.length) hl (by omega)
        have c18 := g18b_ok hr
        have c19 := g19b_ok (k := 1) hr (by omega)
        simp (disch := omega) only [c37, e1, e2, c39, c40, c41, c18, c19, Bool.not_true, cond_false, deq_t, decide_true, dlt_f]

end Go.Proofs.YtkoifikjfnbcpaaEv
