/- Dickson invariants: the reference's way, and the law. -/
import Derived.Test.YtkoifikjfnbcpaaEvPWa
set_option linter.unusedVariables false
set_option linter.unusedSimpArgs false
namespace Go.Proofs.YtkoifikjfnbcpaaEv
open Go Go.RowKit Go.Proofs

theorem dig44 {p a8 a9 v : Int} {n : Nat} {z : poly.den} {L : List poly.den} (hp : 2 ≤ p ∧ p ≤ 13) (hn : n ≤ 3) (hv : 0 ≤ v ∧ v ≤ 13) {F0 F : Nat} (hF : n < F) {g82 : G82} {g73 : G73} {g97 : G97} {g99 : G99} {g100 : G100} {g96 : G96} {kx : ShVal sh44_20 → Option R44} :
    iter (fun s k => st44_20 g82 g73 g97 g99 g100 cf98 g96 F0 s k kx) F ((p, ()), (((n : Int), ()), ((z.1, z.2.1, z.2.2.1, ()), ((a8, ()), ((a9, ()), ((L, ()), ((v, ()), ((p, (n : Int), [], ()), ((v, ()), (((0 : Int), ()), ())))))))))) =
      kx ((p, ()), (((n : Int), ()), ((z.1, z.2.1, z.2.2.1, ()), ((a8, ()), ((a9, ()), ((L, ()), ((v, ()), ((p, (n : Int), formD p n v, ()), ((rsK p v n, ()), (((n : Int), ()), ())))))))))) := by
  have key := iter_run (step := fun s k => st44_20 g82 g73 g97 g99 g100 cf98 g96 F0 s k kx) (r := kx ((p, ()), (((n : Int), ()), ((z.1, z.2.1, z.2.2.1, ()), ((a8, ()), ((a9, ()), ((L, ()), ((v, ()), ((p, (n : Int), formD p n v, ()), ((rsK p v n, ()), (((n : Int), ()), ()))))))))))) n F
    (fun i => ((p, ()), (((n : Int), ()), ((z.1, z.2.1, z.2.2.1, ()), ((a8, ()), ((a9, ()), ((L, ()), ((v, ()), ((p, (n : Int), linP p (digF p v) i, ()), ((rsK p v i, ()), (((i : Int), ()), ()))))))))))) hF (fun i hi k => ?_) (fun k => ?_)
  · exact key
  · have r := rsK_rng (p := p) (v := v) (by omega) hv (k := i)
    have wi : w6 ((i : Int) + 1) = ((i + 1 : Nat) : Int) := by rw [w6_i (by omega) (by omega)]; rfl
    have i3 : ib (i : Int) ((3 : Nat) : Int) = true := ib_t (by omega) (by omega)
    have e1 : Int.tmod (rsK p v i) p = digF p v i := Int.tmod_eq_emod_of_nonneg r.1
    have e2 : w6 (Int.tdiv (rsK p v i) p) = rsK p v (i + 1) := by
      have r2 := rsK_rng (p := p) (v := v) (by omega) hv (k := i + 1)
      rw [Int.tdiv_eq_ediv_of_nonneg r.1]
      exact w6_i (x := rsK p v (i + 1)) (by omega) (by omega)
    have dr : 0 ≤ digF p v i ∧ digF p v i < p := md_rng (by omega)
    have hcan := linP_can (f := digF p v) (p := p) (by omega) (k := i) (by omega)
    have hlen := can_len hcan.1 (linP_deg (f := digF p v) (p := p) (k := i) (by omega) (by omega)) (by omega)
    by_cases q : digF p v i = 0
    · rw [linP_skip (by omega) (by omega) (by rw [q]; simp)]
      generalize linP p (digF p v) i = M at *
      simp (disch := omega) only [st44_20, dlt_t, cond_true, ofn, tn_cast, i3, deq_f, Bool.not_false, e1, q, decide_true, Bool.not_true, cond_false, e2, wi]
    · have g98 : cf98 ((p, (n : Int), linP p (digF p v) i, ()), leX i, digF p v i, ()) = some ((p, (n : Int), linP p (digF p v) (i + 1), ()), ()) := g98_ok ⟨by omega, by omega, hcan.1, (leX_ok (by omega)).1, by omega, by omega, by omega⟩
      generalize linP p (digF p v) i = M at *
      simp (disch := omega) only [st44_20, dlt_t, cond_true, ofn, tn_cast, i3, deq_f, Bool.not_false, e1, e2, wi]
      show (match cf98 ((p, (n : Int), M, ()), leX i, digF p v i, ()) with | some r72 => _ | none => none) = _
      rw [g98]
  · simp (disch := omega) only [st44_20, dlt_f, cond_false]
    rfl

theorem next44 {p a8 a9 : Int} {n s : Nat} {z : poly.den} {cs : List (List term.den)} (hp : 2 ≤ p ∧ p ≤ 13) (hn : n ≤ 3) (hs : s ≤ 12) (h : DI p s cs) {F0 F : Nat} (hF : cs.length + 1 < F) {g82 : G82} {g73 : G73} {g98 : G98} {g96 : G96} {kx : ShVal sh44_29 → Option R44} :
    iter (fun s k => st44_29 g82 g73 cf97 cf99 cf100 g98 g96 F0 s k kx) F ((p, ()), (((n : Int), ()), ((z.1, z.2.1, z.2.2.1, ()), ((a8, ()), ((a9, ()), ((cs.map (pol p n), ()), (((s : Int), ()), ((p, (n : Int), formD p n s, ()), (([], ()), (((0 : Int), ()), ())))))))))) =
      kx ((p, ()), (((n : Int), ()), ((z.1, z.2.1, z.2.2.1, ()), ((a8, ()), ((a9, ()), ((cs.map (pol p n), ()), (((s : Int), ()), ((p, (n : Int), formD p n s, ()), (((nextP p cs (formD p n s)).map (pol p n), ()), ((((cs.length + 1 : Nat) : Int), ()), ())))))))))) := by
  have hlen := h.len
  obtain ⟨f1, f2⟩ := formD_can (p := p) (v := (s : Int)) (by omega) hn
  have key := iter_run (step := fun s k => st44_29 g82 g73 cf97 cf99 cf100 g98 g96 F0 s k kx) (r := kx ((p, ()), (((n : Int), ()), ((z.1, z.2.1, z.2.2.1, ()), ((a8, ()), ((a9, ()), ((cs.map (pol p n), ()), (((s : Int), ()), ((p, (n : Int), formD p n s, ()), (((nextP p cs (formD p n s)).map (pol p n), ()), ((((cs.length + 1 : Nat) : Int), ()), ())))))))))))
    (cs.length + 1) F (fun j => ((p, ()), (((n : Int), ()), ((z.1, z.2.1, z.2.2.1, ()), ((a8, ()), ((a9, ()), ((cs.map (pol p n), ()), (((s : Int), ()), ((p, (n : Int), formD p n s, ()), ((((List.range j).map fun j => plusP p 1 (timesP p (cs.getD j []) (formD p n s)) (if j = 0 then [] else cs.getD (j - 1) [])).map (pol p n), ()), (((j : Int), ()), ()))))))))))) hF (fun j hj k => ?_) (fun k => ?_)
  · exact key
  · have lm : (cs.map (pol p n)).length = cs.length := by simp
    have gc : ∀ i d, i < cs.length → (cs.map (pol p n)).getD i d = pol p n (cs.getD i []) := fun i d hi => by simp [List.getD_eq_getElem?_getD, List.getElem?_eq_getElem hi]
    obtain ⟨t1, t2⟩ := h.all (by omega) j
    obtain ⟨v1, _⟩ := timesP_can (a := cs.getD j []) (p := p) (by omega) (small t1 t2 (by omega)) (small f1 f2 (by omega))
    have v2 := timesP_deg (p := p) (by omega) t1 f1 t2 f2 (by omega) (by omega)
    have l3 := can_len v1 v2 (by omega)
    have wi : w6 ((j : Int) + 1) = ((j + 1 : Nat) : Int) := by rw [w6_i (by omega) (by omega)]; rfl
    have g97 : cf97 (p, (n : Int), ()) = some ((p, (n : Int), [], ()), ()) := rfl
    have es : (List.range (j + 1)).map (fun j => plusP p 1 (timesP p (cs.getD j []) (formD p n s)) (if j = 0 then [] else cs.getD (j - 1) [])) = (List.range j).map (fun j => plusP p 1 (timesP p (cs.getD j []) (formD p n s)) (if j = 0 then [] else cs.getD (j - 1) [])) ++ [plusP p 1 (timesP p (cs.getD j []) (formD p n s)) (if j = 0 then [] else cs.getD (j - 1) [])] := by simp [List.range_succ]
    rw [es, List.map_append]
    have lo : (((List.range j).map fun j => plusP p 1 (timesP p (cs.getD j []) (formD p n s)) (if j = 0 then [] else cs.getD (j - 1) [])).map (pol p n)).length = j := by simp
    generalize ((List.range j).map fun j => plusP p 1 (timesP p (cs.getD j []) (formD p n s)) (if j = 0 then [] else cs.getD (j - 1) [])).map (pol p n) = O at *
    by_cases q : j < cs.length
    · obtain ⟨w1, w2⟩ := h.fits (n := n) (by omega) hn hs (j := j) (by omega)
      have gm : cf99 (pol p n (cs.getD j []), (p, (n : Int), formD p n s, ()), ()) = some (pol p n (timesP p (cs.getD j []) (formD p n s)), true, ()) := by
        have := g99_ok (v := (n : Int)) (p := p) (a := cs.getD j []) (b := formD p n s) ⟨by omega, t1, f1, w2, f2.mono (by omega)⟩
        rw [show timesO p (cs.getD j []) (formD p n s) = timesP p (cs.getD j []) (formD p n s) by simp only [timesO, w1, cond_true], w1] at this
        exact this
      by_cases z0 : j = 0
      · subst z0
        rw [if_pos rfl]
        have e2 : plusP p 1 (timesP p (cs.getD 0 []) (formD p n s)) [] = timesP p (cs.getD 0 []) (formD p n s) := rfl
        rw [e2]
        simp (disch := first | omega | assumption) only [st44_29, dln_t, lm, cond_true, ofn, dle_t, g97, dlt_t, ib_t, tn_cast, gc, gm, dlt_f, cond_false, grow_t, lo, List.length_singleton, wi]
        rfl
      · rw [if_neg z0]
        obtain ⟨c1, c2⟩ := h.all (by omega) (j - 1)
        have l1 := can_len c1 c2 (by omega)
        have ha := g100_ok (v := (n : Int)) (v' := (n : Int)) (k := 1) (by omega) v1 c1 (by omega) (by omega) (by omega)
        have wj : w6 ((j : Int) - 1) = ((j - 1 : Nat) : Int) := by rw [w6_i (by omega) (by omega)]; omega
        have gj := gc (j - 1) (Ty.dflt poly) (by omega)
        simp (disch := first | omega | assumption) only [st44_29, dln_t, lm, cond_true, ofn, dle_t, g97, dlt_t, ib_t, tn_cast, gc, gm, wj]
        simp (disch := first | omega | assumption) only [ha, grow_t, lo, List.length_singleton, wi, cond_true]
        rfl
    · have e1 : cs.getD j [] = [] := getD_out (by omega)
      have z0 : j ≠ 0 := by omega
      rw [if_neg z0, e1]
      obtain ⟨c1, c2⟩ := h.all (by omega) (j - 1)
      have l1 := can_len c1 c2 (by omega)
      have ha := g100_ok (v := (n : Int)) (v' := (n : Int)) (k := 1) (p := p) (by omega) can_nil c1 (by omega) (by simp) (by omega)
      have wj : w6 ((j : Int) - 1) = ((j - 1 : Nat) : Int) := by rw [w6_i (by omega) (by omega)]; omega
      have gj := gc (j - 1) (Ty.dflt poly) (by omega)
      have et : timesP p [] (formD p n s) = [] := rfl
      rw [et]
      simp (disch := first | omega | assumption) only [st44_29, dln_t, lm, cond_true, ofn, dle_t, g97, dlt_f, cond_false, dlt_t, ib_t, tn_cast, wj]
      rw [show (List.map (pol p n) cs).getD (j - 1) (Ty.dflt poly) = pol p n (cs.getD (j - 1) []) from gj] 
      simp (disch := first | omega | assumption) only [ha, grow_t, lo, List.length_singleton, wi, cond_true]
      rfl
  · have lm : (cs.map (pol p n)).length = cs.length := by simp
    have e : nextP p cs (formD p n s) = (List.range (cs.length + 1)).map fun j => plusP p 1 (timesP p (cs.getD j []) (formD p n s)) (if j = 0 then [] else cs.getD (j - 1) []) := rfl
    rw [e]
    generalize ((List.range (cs.length + 1)).map fun j => plusP p 1 (timesP p (cs.getD j []) (formD p n s)) (if j = 0 then [] else cs.getD (j - 1) [])).map (pol p n) = O at *
    simp (disch := first | omega | assumption) only [st44_29, dln_t, lm, cond_true, ofn, dle_f, cond_false]

theorem run44 {p a9 : Int} {n m : Nat} {z : poly.den} (hp : 2 ≤ p ∧ p ≤ 13) (hn : n ≤ 3) (hm : m ≤ 13) {F0 : Nat} (hF0 : 20 ≤ F0) {F : Nat} (hF : m < F) {kx : ShVal sh44_16 → Option R44} :
    iter (fun s k => st44_16 cf82 cf73 cf97 cf99 cf100 cf98 cf96 F0 s k kx) F ((p, ()), (((n : Int), ()), ((z.1, z.2.1, z.2.2.1, ()), (((m : Int), ()), ((a9, ()), (([pol p n (oneP p e0 1)], ()), (((0 : Int), ()), ()))))))) =
      kx ((p, ()), (((n : Int), ()), ((z.1, z.2.1, z.2.2.1, ()), (((m : Int), ()), ((a9, ()), (((dl p n m).map (pol p n), ()), (((m : Int), ()), ()))))))) := by
  have key := iter_run (step := fun s k => st44_16 cf82 cf73 cf97 cf99 cf100 cf98 cf96 F0 s k kx) (r := kx ((p, ()), (((n : Int), ()), ((z.1, z.2.1, z.2.2.1, ()), (((m : Int), ()), ((a9, ()), (((dl p n m).map (pol p n), ()), (((m : Int), ()), ())))))))) m F
    (fun s => ((p, ()), (((n : Int), ()), ((z.1, z.2.1, z.2.2.1, ()), (((m : Int), ()), ((a9, ()), (((dl p n s).map (pol p n), ()), (((s : Int), ()), ())))))))) hF (fun s hs k => ?_) (fun k => ?_)
  · exact key
  · have h := dl_DI (p := p) (n := n) (by omega) hn (s := s) (by omega)
    have hlen := h.len
    have en : dl p n (s + 1) = nextP p (dl p n s) (formD p n s) := rfl
    rw [en]
    generalize dl p n s = cs at *
    have wi : w6 ((s : Int) + 1) = ((s + 1 : Nat) : Int) := by rw [w6_i (by omega) (by omega)]; rfl
    have g97 : cf97 (p, (n : Int), ()) = some ((p, (n : Int), [], ()), ()) := rfl
    simp (disch := omega) only [st44_16, dlt_t, cond_true, g97, ru44_20]
    rw [dig44 hp hn (by omega) (by omega)]
    simp only [ru44_29]
    rw [next44 hp hn (by omega) h (by omega)]
    simp only [wi]
  · simp (disch := omega) only [st44_16, dlt_f, cond_false]

theorem pw44a {p i2 a9 : Int} {n : Nat} {z : poly.den} (hp : 2 ≤ p ∧ p ≤ 13) (hn : n ≤ 3) {F0 F : Nat} (hF : n < F) {g82 : G82} {g73 : G73} {g97 : G97} {g99 : G99} {g100 : G100} {g98 : G98} {g96 : G96} {kx : ShVal sh44_5 → Option R44} :
    iter (fun s k => st44_5 g82 g73 g97 g99 g100 g98 g96 F0 s k kx) F ((p, ()), (((n : Int), ()), ((i2, ()), ((z.1, z.2.1, z.2.2.1, ()), (((1 : Int), ()), ((a9, ()), (((0 : Int), ()), ()))))))) =
      kx ((p, ()), (((n : Int), ()), ((i2, ()), ((z.1, z.2.1, z.2.2.1, ()), ((pwI p n, ()), ((a9, ()), (((n : Int), ()), ()))))))) := by
  have key := iter_run (step := fun s k => st44_5 g82 g73 g97 g99 g100 g98 g96 F0 s k kx) (r := kx ((p, ()), (((n : Int), ()), ((i2, ()), ((z.1, z.2.1, z.2.2.1, ()), ((pwI p n, ()), ((a9, ()), (((n : Int), ()), ())))))))) n F
    (fun i => ((p, ()), (((n : Int), ()), ((i2, ()), ((z.1, z.2.1, z.2.2.1, ()), ((pwI p i, ()), ((a9, ()), (((i : Int), ()), ())))))))) hF (fun i hi k => ?_) (fun k => ?_)
  · exact key
  · have h2 := pwI_rng hp (k := i + 1) (by omega)
    have wi : w6 ((i : Int) + 1) = ((i + 1 : Nat) : Int) := by rw [w6_i (by omega) (by omega)]; rfl
    have e : pwI p (i + 1) = pwI p i * p := rfl
    rw [e] at h2 ⊢
    have wk : w6 (pwI p i * p) = pwI p i * p := w6_i (by omega) (by omega)
    simp (disch := omega) only [st44_5, dlt_t, cond_true, wk, wi]
  · simp (disch := omega) only [st44_5, dlt_f, cond_false]
theorem pw44b {p a8 : Int} {n m : Nat} {z : poly.den} (hp : 2 ≤ p ∧ p ≤ 13) (hn : m ≤ 3) {F0 F : Nat} (hF : m < F) {g82 : G82} {g73 : G73} {g97 : G97} {g99 : G99} {g100 : G100} {g98 : G98} {g96 : G96} {kx : ShVal sh44_11 → Option R44} :
    iter (fun s k => st44_11 g82 g73 g97 g99 g100 g98 g96 F0 s k kx) F ((p, ()), (((n : Int), ()), (((m : Int), ()), ((z.1, z.2.1, z.2.2.1, ()), ((a8, ()), (((1 : Int), ()), (((0 : Int), ()), ()))))))) =
      kx ((p, ()), (((n : Int), ()), (((m : Int), ()), ((z.1, z.2.1, z.2.2.1, ()), ((a8, ()), ((pwI p m, ()), (((m : Int), ()), ()))))))) := by
  have key := iter_run (step := fun s k => st44_11 g82 g73 g97 g99 g100 g98 g96 F0 s k kx) (r := kx ((p, ()), (((n : Int), ()), (((m : Int), ()), ((z.1, z.2.1, z.2.2.1, ()), ((a8, ()), ((pwI p m, ()), (((m : Int), ()), ())))))))) m F
    (fun i => ((p, ()), (((n : Int), ()), (((m : Int), ()), ((z.1, z.2.1, z.2.2.1, ()), ((a8, ()), ((pwI p i, ()), (((i : Int), ()), ())))))))) hF (fun i hi k => ?_) (fun k => ?_)
  · exact key
  · have h2 := pwI_rng hp (k := i + 1) (by omega)
    have wi : w6 ((i : Int) + 1) = ((i + 1 : Nat) : Int) := by rw [w6_i (by omega) (by omega)]; rfl
    have e : pwI p (i + 1) = pwI p i * p := rfl
    rw [e] at h2 ⊢
    have wk : w6 (pwI p i * p) = pwI p i * p := w6_i (by omega) (by omega)
    simp (disch := omega) only [st44_11, dlt_t, cond_true, wk, wi]
  · simp (disch := omega) only [st44_11, dlt_f, cond_false]

noncomputable def cf44 : G44 := fn44 cf82 cf73 cf97 cf99 cf100 cf98 cf96 20
theorem k44 : KOne Try.prog 44 ⟨[.v i64, .v i64, .v i64], [poly, i64], true, false, 0, cf44⟩ := ok44 _ _ _ _ _ _ _ (.cons k82 (.cons k73 (.cons k97 (.cons k99 (.cons k100 (.cons k98 (.cons k96 .nil))))))) cf44 fun x y h => ⟨20, h⟩
noncomputable def cf45 : G45 := fn45 cf82 cf87 cf103 cf104 cf105 cf106 cf102 cf101 20
theorem k45 : KOne Try.prog 45 ⟨[.v i64, .v i64, .v i64], [poly, i64], true, false, 0, cf45⟩ := ok45 _ _ _ _ _ _ _ _ (.cons k86 (.cons k87 (.cons k103 (.cons k104 (.cons k105 (.cons k106 (.cons k102 (.cons k101 .nil)))))))) cf45 fun x y h => ⟨20, h⟩

/-- What both give. -/
theorem same44 (p n i : Int) (h0 : kwf .i64 n = true) : ∃ (q v : Int) (L : List term.den) (c : Int), L.length ≤ 1000000 ∧ cf44 (p, n, i, ()) = some ((q, v, L, ()), c, ()) ∧ cf45 (p, n, i, ()) = some ((q, v, L, ()), c, ()) := by
  have c82 : cf82 (p, ()) = some (isP p, ()) := rfl
  have c73a : cf73 (n, (1 : Int), (3 : Int), ()) = some (decide (1 ≤ n) && decide (n ≤ 3), ()) := rfl
  have c87 : cf87 (n, ()) = some (decide (1 ≤ n) && decide (n ≤ 3), ()) := rfl
  simp only [cf44, cf45, fn44, fn45, c82, c73a, c87]
  cases hP : isP p with
  | false => exact ⟨0, 0, [], 2, by simp, rfl, rfl⟩
  | true =>
    have hp := isP_pos hP
    cases hn : (decide (1 ≤ n) && decide (n ≤ 3)) with
    | false => exact ⟨0, 0, [], 2, by simp, rfl, rfl⟩
    | true =>
      simp only [Bool.and_eq_true, decide_eq_true_eq] at hn
      obtain ⟨k, rfl⟩ := Int.eq_ofNat_of_zero_le (show 0 ≤ n by omega)
      have wn : w6 ((k : Int) - 1) = (k : Int) - 1 := w6_i (by omega) (by omega)
      have c73b : cf73 (i, (0 : Int), w6 ((k : Int) - 1), ()) = some (decide (0 ≤ i) && decide (i ≤ (k : Int) - 1), ()) := by rw [wn]; rfl
      simp only [c73b, Bool.not_true, cond_false]
      by_cases hi0 : 0 ≤ i
      · by_cases hi1 : i ≤ (k : Int) - 1
        · obtain ⟨m, rfl⟩ := Int.eq_ofNat_of_zero_le hi0
          have g1 := g101_ok (p := p) (m := k) (by omega) (by omega)
          have g2 := g101_ok (p := p) (m := m) (by omega) (by omega)
          have hk3 : k ≤ 3 := by omega
          have hmk : m ≤ k := by omega
          have r1 := pwI_rng hp (k := k) hk3
          have r2 := pwI_rng hp (k := m) (by omega)
          have r3 := pwI_mono hp hk3 hmk
          rw [decide_eq_true hi0, decide_eq_true hi1, dlt_f (by omega), dle_f (by omega)]
          simp only [Bool.and_self, Bool.not_true, cond_false, g1, ru44_5]
          rw [pw44a (z := Ty.dflt poly) hp hk3 (by omega)]
          simp only
          by_cases hb : (13 : Int) < pwI p k
          · rw [dlt_t hb]; exact ⟨0, 0, [], 3, by simp, rfl, rfl⟩
          · rw [dlt_f (by omega)]
            simp only [cond_false, ru44_11]
            rw [pw44b (z := Ty.dflt poly) hp (by omega) (by omega)]
            obtain ⟨M, hM⟩ := Int.eq_ofNat_of_zero_le (show 0 ≤ pwI p k by omega)
            obtain ⟨I, hI⟩ := Int.eq_ofNat_of_zero_le (show 0 ≤ pwI p m by omega)
            rw [hM] at r1 r3 hb ⊢
            rw [hI] at r2 r3 g2 ⊢
            have hd := dl_DI (p := p) (n := k) (by omega) hk3 (s := M) (by omega)
            have lm : ((dl p k M).map (pol p k)).length = M + 1 := by rw [List.length_map, hd.len]
            have g96 : cf96 (p, (k : Int), e0, (1 : Int), ()) = some ((p, (k : Int), oneP p e0 1, ()), ()) := g96_ok (by omega) okX_e0 (by omega)
            have g102 : cf102 (p, (k : Int), (1 : Int), ()) = some ((p, (k : Int), oneP p e0 1, ()), ()) := g102_ok (by omega)
            have gI : ∀ d, ((dl p k M).map (pol p k)).getD I d = pol p k ((dl p k M).getD I []) := fun d => by
              have : I < (dl p k M).length := by rw [hd.len]; omega
              simp [List.getD_eq_getElem?_getD, List.getElem?_eq_getElem this]
            obtain ⟨t1, t2⟩ := hd.all (by omega) I
            have ll := can_len t1 t2 (by omega)
            refine ⟨p, k, (dl p k M).getD I [], 0, by omega, ?_, ?_⟩
            · show (match cf96 (p, (k : Int), e0, (1 : Int), ()) with | some r38 => _ | none => none) = _
              rw [g96]
              refine (run44 (p := p) (n := k) (m := M) (z := Ty.dflt poly) hp hk3 (by omega) (by omega) (by omega)).trans ?_
              show (bif ib (I : Int) ((((dl p k M).map (pol p k)).length : Nat) : Int) then _ else none) = _
              rw [lm, ib_t (by omega) (by omega), cond_true]
              simp only [tn_cast, gI]
            · rw [g102]
              refine (run45 (p := p) (n := k) (m := M) (z := Ty.dflt poly) hp hk3 (by omega) (by omega) (by omega)).trans ?_
              show (match cf101 (p, (m : Int), ()) with | some r31 => _ | none => none) = _
              rw [g2]
              show (bif ib (I : Int) ((((dl p k M).map (pol p k)).length : Nat) : Int) then _ else none) = _
              rw [lm, ib_t (by omega) (by omega), cond_true]
              simp only [tn_cast, gI]
        · rw [decide_eq_false hi1, Bool.and_false, dlt_f (by omega), dle_t (by omega)]
          exact ⟨0, 0, [], 2, by simp, rfl, rfl⟩
      · rw [decide_eq_false hi0, Bool.false_and, dlt_t (by omega)]
        exact ⟨0, 0, [], 2, by simp, rfl, rfl⟩

theorem law8_one : KOne Try.prog 8 ⟨[.v i64, .v i64, .v i64], [.bool], false, false, 0, fun x => bif okA [.v i64, .v i64, .v i64] x then some (true, ()) else none⟩ :=
  ok8 _ _ _ _ _ (.cons k44 (.cons k39 (.cons k40 (.cons k41 (.cons k45 .nil))))) _ fun x y h => by
    obtain ⟨p, n, i, _⟩ := x
    cases hx : okA [.v i64, .v i64, .v i64] (p, n, i, ()) with
    | false => simp only [hx, cond_false] at h; cases h
    | true =>
      simp only [hx, cond_true] at h
      injection h with h; subst h
      refine ⟨0, ?_⟩
      simp only [okA, Bool.and_true, Bool.and_eq_true] at hx
      obtain ⟨q, v, L, c, hl, e1, e2⟩ := same44 p n i hx.2.1
      have c39 := g39_ok (p := q) (v := v) hl
      have c40 := g40_ok (p := q) (v := v) (k := 1) hl (by omega)
      have c41 := g41_ok (p := q) (v := v) (k := 1) (n := L.length) hl (by omega)
      simp (disch := omega) only [fn8, e1, e2, c39, c40, c41, Bool.not_true, cond_false, deq_t, decide_true, dlt_f]

end Go.Proofs.YtkoifikjfnbcpaaEv
