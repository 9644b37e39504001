/- The form of a reflection: the program and the reference say the same, and the law gives true. -/
import Derived.Test.YtkoifikjfnbcpaaEvPV
import Derived.Test.YtkoifikjfnbcpaaEvP9
import Derived.Test.YtkoifikjfnbcpaaEvL11
set_option linter.unusedVariables false
set_option linter.unusedSimpArgs false
namespace Go.Proofs.YtkoifikjfnbcpaaEv
open Go Go.RowKit Go.Proofs

theorem putP_mod {p x : Int} {ts : List term.den} {e : ex.den} : putP p ts e (x % p) = putP p ts e x := by
  unfold putP; rw [Int.emod_add_emod]
/-- A column of the matrix less the unit. -/
def colM (p : Int) (n : Nat) (g : Mat) (at_ : Nat) : List Int := (List.range n).map fun i => chE p g i at_
theorem colM_len {p : Int} {n : Nat} {g : Mat} {at_ : Nat} : (colM p n g at_).length = n := by simp [colM]
theorem colM_el {p : Int} {n i : Nat} {g : Mat} {at_ : Nat} (h : i < n) : el (colM p n g at_) i = chE p g i at_ := by simp [colM, el, List.getD_eq_getElem?_getD, h]
theorem chRows_get {p : Int} {n i : Nat} {g : Mat} (h : i < n) : (chRows p n g).getD i [] = chRow p n g i := by simp [chRows, List.getD_eq_getElem?_getD, h]
theorem chRow_el {p : Int} {n i j : Nat} {g : Mat} (h : j < n) : (chRow p n g i).getD j 0 = chE p g i j := by simp [chRow, List.getD_eq_getElem?_getD, h]
theorem chE_rng {p q : Int} {n i j : Nat} {g : Mat} (hp : 2 ≤ p) (hg : okM g = true) (hn : n ≤ 3) (hr : rngB p q g = true) (hi : i < n) (hj : j < n) : 0 ≤ chE p g i j ∧ chE p g i j < p := by
  have h1 := me_rng hg i j
  have h2 := me_lt hr (i := i) (j := j) (by omega) (by omega)
  unfold chE
  split
  · exact md_rng (by omega)
  · omega

/-- What is known of a reflection: its root leads somewhere, and there a number other than 0 stands in some row. -/
theorem root_at {p : Int} {n : Nat} {g : Mat} (hP : isP p = true) (hg : okM g = true) (hn : 1 ≤ n ∧ n ≤ 3) {q : Int} (hr : rngB p q g = true) (h : (echM p n g).length = 1) :
    ld ((echM p n g).getD 0 []) < n ∧ ld (colM p n g (ld ((echM p n g).getD 0 []))) < n := by
  have hp := isP_pos hP
  have hc := chRows_can (p := p) (by omega) hg hn.2 hr
  have rr := ech_RR hP hc
  have hm : (echM p n g).getD 0 [] ∈ ech p (chRows p n g) := by
    rw [List.getD_eq_getElem?_getD, List.getElem?_eq_getElem (by omega)]
    exact List.getElem_mem _
  have hlt := rr.lt _ hm
  have h1 := rr.one _ hm
  generalize hd : ld ((echM p n g).getD 0 []) = d at *
  refine ⟨hlt, ?_⟩
  have hle := ld_le (colM p n g d)
  rw [colM_len] at hle
  rcases Nat.lt_or_ge (ld (colM p n g d)) n with z | z
  · exact z
  · exfalso
    have l : Lin p n fun v => el v d = 0 := ⟨fun k a b ha hb qa qb => by rw [el_subm (by rw [ha.len, hb.len]), qa, qb]; simp, fun c a ha qa => by rw [el_scl, qa]; simp⟩
    have := ech_lin hP l (rows := chRows p n g) (fun r hr' => ⟨hc r hr', by
      obtain ⟨i, hi, rfl⟩ := List.mem_map.1 hr'
      have hi := List.mem_range.1 hi
      show (chRow p n g i).getD d 0 = 0
      rw [chRow_el hlt, ← colM_el hi]
      exact ld_zero _ i (by omega)⟩) _ hm
    rw [this] at h1; omega

/-- The form's numbers. -/
def formF (p : Int) (n : Nat) (g : Mat) : Nat → Int := fun i => chE p g i (ld ((echM p n g).getD 0 [])) * inv p (el (colM p n g (ld ((echM p n g).getD 0 []))) (ld (colM p n g (ld ((echM p n g).getD 0 [])))))
def formP (p : Int) (n : Nat) (g : Mat) : List term.den := linP p (formF p n g) n

theorem col114 {p : Int} {n at_ : Nat} {g : Mat} {z : poly.den} (hn : n ≤ 3) (ha : at_ < n) {g95 : G95} {g157 : G157} {g112 : G112} {g103 : G103} {g79 : G79} {F0 F : Nat} (hF : n < F) {kx : ShVal sh114_4 → Option R114} :
    iter (fun s k => st114_4 g95 g157 g112 g103 g79 F0 s k kx) F ((p, ()), (((n : Int), ()), ((z.1, z.2.1, z.2.2.1, ()), (((at_ : Int), ()), (([], ()), ((chRows p n g, ()), (((n : Int), ()), (((0 : Int), ()), ())))))))) =
      kx ((p, ()), (((n : Int), ()), ((z.1, z.2.1, z.2.2.1, ()), (((at_ : Int), ()), ((colM p n g at_, ()), ((chRows p n g, ()), (((n : Int), ()), (((n : Int), ()), ())))))))) := by
  have key := iter_run (step := fun s k => st114_4 g95 g157 g112 g103 g79 F0 s k kx) (r := kx ((p, ()), (((n : Int), ()), ((z.1, z.2.1, z.2.2.1, ()), (((at_ : Int), ()), ((colM p n g at_, ()), ((chRows p n g, ()), (((n : Int), ()), (((n : Int), ()), ()))))))))) n F
    (fun i => ((p, ()), (((n : Int), ()), ((z.1, z.2.1, z.2.2.1, ()), (((at_ : Int), ()), (((List.range i).map (fun i => chE p g i at_), ()), ((chRows p n g, ()), (((n : Int), ()), (((i : Int), ()), ()))))))))) hF (fun i hi k => ?_) (fun k => ?_)
  · exact key
  · have ll : ((List.range i).map (fun i => chE p g i at_)).length = i := by simp
    have lr : (chRows p n g).length = n := chRows_len
    have l2 : (chRow p n g i).length = n := chRow_len
    have wi : w6 ((i : Int) + 1) = ((i + 1 : Nat) : Int) := by rw [w6_id (by omega) (by omega)]; rfl
    rw [range_snoc]
    generalize (List.range i).map (fun i => chE p g i at_) = L at *
    simp (disch := omega) only [st114_4, dlt_t, cond_true, ofn, lr, ib_t, tn_cast, chRows_get hi, l2, chRow_el ha, ll, List.length_singleton, grow_t, wi]
  · have e : colM p n g at_ = (List.range n).map (fun i => chE p g i at_) := rfl
    rw [e]
    simp (disch := omega) only [st114_4, dlt_f, cond_false]
theorem log114 {p c : Int} {n : Nat} {nums : List Int} {z : poly.den} (hn : n ≤ 3) (hl : nums.length = n) (hr : ∀ i, i < n → 0 ≤ el nums i ∧ el nums i < 13) (hc : 0 ≤ c ∧ c < 13) {g95 : G95} {g157 : G157} {g112 : G112} {g103 : G103} {g79 : G79} {F0 F : Nat} (hF : n < F) {kx : ShVal sh114_11 → Option R114} :
    iter (fun s k => st114_11 g95 g157 g112 g103 g79 F0 s k kx) F ((p, ()), (((n : Int), ()), ((z.1, z.2.1, z.2.2.1, ()), ((c, ()), ([], ((nums, ()), (((n : Int), ()), (((0 : Int), ()), ())))))))) =
      kx ((p, ()), (((n : Int), ()), ((z.1, z.2.1, z.2.2.1, ()), ((c, ()), (linL (fun i => el nums i * c) n, ((nums, ()), (((n : Int), ()), (((n : Int), ()), ())))))))) := by
  have key := iter_run (step := fun s k => st114_11 g95 g157 g112 g103 g79 F0 s k kx) (r := kx ((p, ()), (((n : Int), ()), ((z.1, z.2.1, z.2.2.1, ()), ((c, ()), (linL (fun i => el nums i * c) n, ((nums, ()), (((n : Int), ()), (((n : Int), ()), ()))))))))) n F
    (fun i => ((p, ()), (((n : Int), ()), ((z.1, z.2.1, z.2.2.1, ()), ((c, ()), (linL (fun i => el nums i * c) i, ((nums, ()), (((n : Int), ()), (((i : Int), ()), ()))))))))) hF (fun i hi k => ?_) (fun k => ?_)
  · exact key
  · have h1 := hr i hi
    have h2 := mul_rng (c := 13) (d := 13) h1.1 h1.2 hc.1 hc.2
    have wi : w6 ((i : Int) + 1) = ((i + 1 : Nat) : Int) := by rw [w6_id (by omega) (by omega)]; rfl
    have wk : w6 (nums.getD i 0 * c) = el nums i * c := w6_id (by show _ ≤ el nums i * c; omega) (by show el nums i * c ≤ _; omega)
    have el1 : linL (fun i => el nums i * c) (i + 1) = (leX i, el nums i * c) :: linL (fun i => el nums i * c) i := rfl
    rw [el1]
    generalize linL (fun i => el nums i * c) i = L at *
    have i3 : ib (i : Int) ((3 : Nat) : Int) = true := ib_t (by omega) (by omega)
    simp (disch := omega) only [st114_11, dlt_t, cond_true, ofn, hl, ib_t, tn_cast, i3, wi, wk]
    rfl
  · simp (disch := omega) only [st114_11, dlt_f, cond_false]

noncomputable def cf114 : G114 := fn114 cf95 cf157 cf112 cf103 cf79 5
theorem k114 : KOne Try.prog 114 ⟨[.v i64, .v i64, .v mat], [poly], true, false, 0, cf114⟩ := ok114 _ _ _ _ _ (.cons k95 (.cons k157 (.cons k112 (.cons k103 (.cons k79 .nil))))) cf114 fun x y h => ⟨5, h⟩
theorem g114_ok {p : Int} {n : Nat} {g : Mat} (hg : okM g = true) (hP : isP p = true) (hn : 1 ≤ n ∧ n ≤ 3) {q : Int} (hr : rngB p q g = true) (h : (echM p n g).length = 1) : cf114 (p, (n : Int), g, ()) = some ((p, (n : Int), formP p n g, ()), ()) := by
  have hp := isP_pos hP
  obtain ⟨h1, h2⟩ := root_at hP hg hn hr h
  have hc := head_can hP hg hn.2 hr h
  have g1 := g95_ok hg hP hn hr
  have hR : rootL p n g = (echM p n g).getD 0 [] := if_pos h
  rw [hR] at g1
  have g2 : cf157 ((echM p n g).getD 0 [], ()) = some ((ld ((echM p n g).getD 0 []) : Int), ()) := by rw [g157_ok (by rw [hc.len]; omega), ldI_lt hc.len h1]
  have g3 := g112_ok (p := p) (by omega) hn.2 hg
  have cl := colM_len (p := p) (n := n) (g := g) (at_ := ld ((echM p n g).getD 0 []))
  have g4 : cf157 (colM p n g (ld ((echM p n g).getD 0 [])), ()) = some ((ld (colM p n g (ld ((echM p n g).getD 0 []))) : Int), ()) := by rw [g157_ok (by rw [cl]; omega), ldI_lt cl h2]
  have rng : ∀ i, i < n → 0 ≤ el (colM p n g (ld ((echM p n g).getD 0 []))) i ∧ el (colM p n g (ld ((echM p n g).getD 0 []))) i < p := fun i hi => by rw [colM_el hi]; exact chE_rng hp.1 hg hn.2 hr hi h1
  have hne := ld_ne (colM p n g (ld ((echM p n g).getD 0 []))) (by rw [cl]; exact h2)
  have r2 := rng _ h2
  have g5 := g79_ok (p := p) (x := el (colM p n g (ld ((echM p n g).getD 0 []))) (ld (colM p n g (ld ((echM p n g).getD 0 []))))) (by omega) r2
  have hi := (inv_ok hP (x := el (colM p n g (ld ((echM p n g).getD 0 []))) (ld (colM p n g (ld ((echM p n g).getD 0 []))))) (by rw [Int.emod_eq_of_lt r2.1 r2.2]; exact hne)).1
  have lr : (chRows p n g).length = n := chRows_len
  have eF : linL (fun i => el (colM p n g (ld ((echM p n g).getD 0 []))) i * inv p (el (colM p n g (ld ((echM p n g).getD 0 []))) (ld (colM p n g (ld ((echM p n g).getD 0 [])))))) n = linL (formF p n g) n := by
    have : ∀ k, k ≤ n → linL (fun i => el (colM p n g (ld ((echM p n g).getD 0 []))) i * inv p (el (colM p n g (ld ((echM p n g).getD 0 []))) (ld (colM p n g (ld ((echM p n g).getD 0 [])))))) k = linL (formF p n g) k := fun k => by
      induction k with
      | zero => intro _; rfl
      | succ k ih => intro hk; simp only [linL]; rw [ih (by omega), colM_el (by omega)]; rfl
    exact this n (Nat.le_refl _)
  simp only [cf114, fn114, g1, g2, g3]
  rw [dln_t (by omega), cond_true, ofn, lr]
  show iter (fun s k => st114_4 cf95 cf157 cf112 cf103 cf79 5 s k _) 5 _ = _
  refine (col114 (p := p) (g := g) (z := Ty.dflt poly) hn.2 h1 (by omega)).trans ?_
  simp only [g4, ofn, cl]
  rw [ib_t (by omega) (by omega), cond_true]
  show (match cf79 (el (colM p n g (ld ((echM p n g).getD 0 []))) (ld (colM p n g (ld ((echM p n g).getD 0 [])))), p, ()) with | some r27 => _ | none => none) = _
  rw [g5]
  simp only
  rw [dln_t (by omega), cond_true]
  show iter (fun s k => st114_11 cf95 cf157 cf112 cf103 cf79 5 s k _) 5 _ = _
  refine (log114 (p := p) (z := Ty.dflt poly) (nums := colM p n g (ld ((echM p n g).getD 0 []))) hn.2 cl (fun i hi => by have := rng i hi; omega) (by omega) (by omega)).trans ?_
  rw [eF]
  show (match cf103 (linL (formF p n g) n, p, (n : Int), ()) with | some r41 => _ | none => none) = _
  rw [g103_lin (by omega) hn.2]
  rfl

theorem run113 {p : Int} {n : Nat} {g : Mat} {z : poly.den} (hg : okM g = true) (hP : isP p = true) (hn : 1 ≤ n ∧ n ≤ 3) {q : Int} (hr : rngB p q g = true) (h : (echM p n g).length = 1) {F0 F : Nat} (hF : n < F) :
    iter (fun s k => st113_4 cf109 cf75 cf98 cf97 cf153 cf108 F0 s k (fun s' => match s' with | ((t0, _), (t1, _), (t6_0, t6_1, t6_2, _), (t7, _), (t8, _), (t9_0, t9_1, t9_2, _), (t10, _), (t11, _), _) => (some ((t9_0, (t9_1, (t9_2, ()))), ())))) F
      ((p, ()), (((n : Int), ()), ((z.1, z.2.1, z.2.2.1, ()), ((chRows p n g, ()), (((ld ((echM p n g).getD 0 []) : Int), ()), ((p, (n : Int), [], ()), (((0 : Int), ()), (((0 : Int), ()), ())))))))) = some ((p, (n : Int), formP p n g, ()), ()) := by
  have hp := isP_pos hP
  obtain ⟨h1, h2⟩ := root_at hP hg hn hr h
  have cl := colM_len (p := p) (n := n) (g := g) (at_ := ld ((echM p n g).getD 0 []))
  have rng : ∀ i, i < n → 0 ≤ el (colM p n g (ld ((echM p n g).getD 0 []))) i ∧ el (colM p n g (ld ((echM p n g).getD 0 []))) i < p := fun i hi => by rw [colM_el hi]; exact chE_rng hp.1 hg hn.2 hr hi h1
  have hne := ld_ne (colM p n g (ld ((echM p n g).getD 0 []))) (by rw [cl]; exact h2)
  have hz := ld_zero (colM p n g (ld ((echM p n g).getD 0 [])))
  have r2 := rng _ h2
  have hi := (inv_ok hP (x := el (colM p n g (ld ((echM p n g).getD 0 []))) (ld (colM p n g (ld ((echM p n g).getD 0 []))))) (by rw [Int.emod_eq_of_lt r2.1 r2.2]; exact hne)).1
  have hF' : ∀ i, formF p n g i = chE p g i (ld ((echM p n g).getD 0 [])) * inv p (el (colM p n g (ld ((echM p n g).getD 0 []))) (ld (colM p n g (ld ((echM p n g).getD 0 []))))) := fun _ => rfl
  have hce : ∀ i, i < n → el (colM p n g (ld ((echM p n g).getD 0 []))) i = chE p g i (ld ((echM p n g).getD 0 [])) := fun i hi => colM_el hi
  generalize hc : inv p (el (colM p n g (ld ((echM p n g).getD 0 []))) (ld (colM p n g (ld ((echM p n g).getD 0 []))))) = c at *
  generalize ha : ld (colM p n g (ld ((echM p n g).getD 0 []))) = a at *
  generalize hd : ld ((echM p n g).getD 0 []) = d at *
  have key := iter_run (step := fun s k => st113_4 cf109 cf75 cf98 cf97 cf153 cf108 F0 s k (fun s' => match s' with | ((t0, _), (t1, _), (t6_0, t6_1, t6_2, _), (t7, _), (t8, _), (t9_0, t9_1, t9_2, _), (t10, _), (t11, _), _) => (some ((t9_0, (t9_1, (t9_2, ()))), ())))) (r := some ((p, (n : Int), formP p n g, ()), ())) n F
    (fun i => ((p, ()), (((n : Int), ()), ((z.1, z.2.1, z.2.2.1, ()), ((chRows p n g, ()), (((d : Int), ()), ((p, (n : Int), linP p (formF p n g) i, ()), (((if i ≤ a then (0 : Int) else c), ()), (((i : Int), ()), ()))))))))) hF (fun i hi' k => ?_) (fun k => ?_)
  · rw [if_pos (Nat.zero_le _)] at key
    exact key
  · have lr : (chRows p n g).length = n := chRows_len
    have l2 : (chRow p n g i).length = n := chRow_len
    have wi : w6 ((i : Int) + 1) = ((i + 1 : Nat) : Int) := by rw [w6_id (by omega) (by omega)]; rfl
    have rn := rng i hi'
    rw [hce i hi'] at rn
    have i3 : ib (i : Int) ((3 : Nat) : Int) = true := ib_t (by omega) (by omega)
    have hcan := linP_can (f := formF p n g) (p := p) (by omega) (k := i) (by omega)
    have hlen := can_len hcan.1 (linP_deg (f := formF p n g) (p := p) (k := i) (by omega) (by omega)) (by omega)
    by_cases q0 : chE p g i d = 0
    · -- nothing to put
      have hs : linP p (formF p n g) (i + 1) = linP p (formF p n g) i := linP_skip (by omega) (by omega) (by rw [hF', q0]; simp)
      have hia : i ≠ a := fun e => by subst e; rw [hce i hi'] at hne; exact hne q0
      have hif : (if i + 1 ≤ a then (0 : Int) else c) = if i ≤ a then (0 : Int) else c := by
        by_cases w : i ≤ a
        · rw [if_pos w, if_pos (by omega)]
        · rw [if_neg w, if_neg (by omega)]
      rw [hs, hif]
      generalize linP p (formF p n g) i = L at *
      generalize (if i ≤ a then (0 : Int) else c) = fs at *
      simp (disch := omega) only [st113_4, dlt_t, cond_true, ofn, lr, ib_t, tn_cast, chRows_get hi', l2, chRow_el h1, q0, decide_true, wi]
    · have hai : a ≤ i := by
        rcases Nat.lt_or_ge i a with w | w
        · have := hz i w; rw [hce i hi'] at this; exact absurd this q0
        · exact w
      have hnext : linP p (formF p n g) (i + 1) = putP p (linP p (formF p n g) i) (leX i) (chE p g i d * c % p) := by rw [putP_mod, ← hF']; rfl
      have mr := mul_rng (c := 13) (d := 13) rn.1 (by omega) (show 0 ≤ c by omega) (by omega)
      have et : Int.tmod (w6 (chE p g i d * c)) p = chE p g i d * c % p := by rw [w6_id (by omega) (by omega), Int.tmod_eq_emod_of_nonneg mr.1]
      have mm := md_rng (p := p) (x := chE p g i d * c) (by omega)
      have g98 : cf98 ((p, (n : Int), linP p (formF p n g) i, ()), leX i, chE p g i d * c % p, ()) = some ((p, (n : Int), linP p (formF p n g) (i + 1), ()), ()) := by
        rw [hnext]; exact g98_ok ⟨by omega, by omega, hcan.1, (leX_ok (by omega)).1, by omega, by omega, by omega⟩
      rw [if_neg (show ¬ (i + 1 ≤ a) by omega)]
      by_cases q1 : i = a
      · have g75 : cf75 (p, chE p g i d, ()) = some (c, ()) := by
          have : cf75 (p, chE p g i d, ()) = some (inv p (chE p g i d), ()) := if_pos (show (2 ≤ p ∧ p ≤ 13) ∧ (-1000000000000 ≤ chE p g i d ∧ chE p g i d ≤ 1000000000000) from ⟨hp, by omega, by omega⟩)
          rw [this, ← hc, q1, hce a (by omega)]
        rw [if_pos (show i ≤ a by omega)]
        simp (disch := omega) only [st113_4, dlt_t, cond_true, ofn, lr, ib_t, tn_cast, chRows_get hi', l2, chRow_el h1, deq_f, cond_false, deq_t, g75, Bool.not_false, et, i3]
        show (match cf98 ((p, (n : Int), linP p (formF p n g) i, ()), leX i, chE p g i d * c % p, ()) with | some r38 => _ | none => none) = _
        rw [g98, wi]
      · rw [if_neg (show ¬ (i ≤ a) by omega)]
        simp (disch := omega) only [st113_4, dlt_t, cond_true, ofn, lr, ib_t, tn_cast, chRows_get hi', l2, chRow_el h1, deq_f, cond_false, Bool.not_false, et, i3]
        show (match cf98 ((p, (n : Int), linP p (formF p n g) i, ()), leX i, chE p g i d * c % p, ()) with | some r36 => _ | none => none) = _
        rw [g98, wi]
  · simp (disch := omega) only [st113_4, dlt_f, cond_false]
    rfl
noncomputable def cf113 : G113 := fn113 cf109 cf75 cf98 cf97 cf153 cf108 5
theorem k113 : KOne Try.prog 113 ⟨[.v i64, .v i64, .v mat], [poly], true, false, 0, cf113⟩ := ok113 _ _ _ _ _ _ (.cons k109 (.cons k75 (.cons k98 (.cons k97 (.cons k153 (.cons k108 .nil)))))) cf113 fun x y h => ⟨5, h⟩
theorem g113_ok {p : Int} {n : Nat} {g : Mat} (hg : okM g = true) (hP : isP p = true) (hn : 1 ≤ n ∧ n ≤ 3) {q : Int} (hr : rngB p q g = true) (h : (echM p n g).length = 1) : cf113 (p, (n : Int), g, ()) = some ((p, (n : Int), formP p n g, ()), ()) := by
  have hp := isP_pos hP
  obtain ⟨h1, h2⟩ := root_at hP hg hn hr h
  have hc := head_can hP hg hn.2 hr h
  have g1 := g109_ok (p := p) (by omega) hn.2 hg
  have g2 : cf108 (p, chRows p n g, ()) = some (echM p n g, ()) := g108_ok hP (chRows_can (by omega) hg hn.2 hr) (by omega) (by rw [chRows_len]; omega)
  have g3 : cf153 ((echM p n g).getD 0 [], ()) = some ((ld ((echM p n g).getD 0 []) : Int), ()) := by rw [g153_ok (by rw [hc.len]; omega), ldI_lt hc.len h1]
  simp only [cf113, fn113, g1, g2]
  rw [ofn, h, ib_t (by omega) (by omega), cond_true]
  show (match cf153 ((echM p n g).getD 0 [], ()) with | some r14 => _ | none => none) = _
  rw [g3]
  exact run113 (z := Ty.dflt poly) hg hP hn hr h (by omega)

noncomputable def cf50 : G50 := fn50 cf107 cf113 0
theorem k50 : KOne Try.prog 50 ⟨[.v i64, .v i64, .v mat], [poly, i64], true, false, 0, cf50⟩ := ok50 _ _ (.cons k107 (.cons k113 .nil)) cf50 fun x y h => ⟨0, h⟩
noncomputable def cf51 : G51 := fn51 cf61 cf95 cf114 0
theorem k51 : KOne Try.prog 51 ⟨[.v i64, .v i64, .v mat], [poly, i64], true, false, 0, cf51⟩ := ok51 _ _ _ (.cons k61 (.cons k95 (.cons k114 .nil))) cf51 fun x y h => ⟨0, h⟩
theorem formP_len {p : Int} {n : Nat} {g : Mat} (hp : 0 < p) (hn : n ≤ 3) : (formP p n g).length ≤ 1000000 := by
  have := can_len (linP_can (f := formF p n g) hp hn).1 (linP_deg (f := formF p n g) hp hn) (by omega)
  show (linP p (formF p n g) n).length ≤ 1000000
  omega
theorem same50 {p n : Int} {g : Mat} (hg : okM g = true) : ∃ (q v : Int) (L : List term.den) (c : Int), L.length ≤ 1000000 ∧ cf50 (p, n, g, ()) = some ((q, v, L, ()), c, ()) ∧ cf51 (p, n, g, ()) = some ((q, v, L, ()), c, ()) := by
  simp only [cf50, cf51, fn50, fn51, cf107, fn107]
  rw [g58_ok hg, g61_ok hg]
  simp only
  cases h : matB p n g with
  | false => exact ⟨0, 0, [], 2, by simp, rfl, rfl⟩
  | true =>
    obtain ⟨hP, k, rfl, h1, h2, hr, _⟩ := matB_is h
    have hp := isP_pos hP
    rw [g94_ok hg hP h2 hr, g95_ok hg hP ⟨h1, h2⟩ hr]
    have he := root_empty hP hg ⟨h1, h2⟩ hr
    by_cases q : (echM p k g).length = 1
    · rw [decide_eq_true q] at he
      have he : (rootL p k g).isEmpty = false := by simpa using he
      refine ⟨p, k, formP p k g, 0, formP_len (by omega) h2, ?_, ?_⟩
      · rw [g113_ok hg hP ⟨h1, h2⟩ hr q]
        simp [q]
      · rw [g114_ok hg hP ⟨h1, h2⟩ hr q]
        simp [he]
    · rw [decide_eq_false q] at he
      have he : (rootL p k g).isEmpty = true := by simpa using he
      exact ⟨0, 0, [], 5, by simp, by rw [decide_eq_false q]; rfl, by simp only [Bool.not_true, cond_false, he, cond_true]; rfl⟩

theorem law11_one : KOne Try.prog 11 ⟨[.v i64, .v i64, .v mat], [.bool], false, false, 0, fun x => bif okA [.v i64, .v i64, .v mat] x then some (true, ()) else none⟩ :=
  ok11 _ _ _ _ _ _ (.cons k16 (.cons k50 (.cons k39 (.cons k40 (.cons k41 (.cons k51 .nil)))))) _ fun x y h => by
    obtain ⟨p, n, g, _⟩ := x
    cases hx : okA [.v i64, .v i64, .v mat] (p, n, g, ()) with
    | false => simp only [hx, cond_false] at h; cases h
    | true =>
      simp only [hx, cond_true] at h
      injection h with h; subst h
      refine ⟨0, ?_⟩
      simp only [okA, Bool.and_true, Bool.and_eq_true] at hx
      have hg : okM g = true := hx.2.2
      obtain ⟨q, v, L, c, hl, e1, e2⟩ := same50 (p := p) (n := n) hg
      have c16 : cf16 (g, ()) = some (g, ()) := rfl
      have c39 := g39_ok (p := q) (v := v) hl
      have c40 := g40_ok (p := q) (v := v) (k := 1) hl (by omega)
      have c41 := g41_ok (p := q) (v := v) (k := 1) (n := L.length) hl (by omega)
      simp (disch := omega) only [fn11, c16, e1, e2, c39, c40, c41, Bool.not_true, cond_false, deq_t, decide_true, dlt_f]

end Go.Proofs.YtkoifikjfnbcpaaEv
