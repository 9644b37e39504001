/- Reflections: the rows of a matrix less the unit, and their reduced list. -/
import Derived.Test.YtkoifikjfnbcpaaEvPRc
import Derived.Test.YtkoifikjfnbcpaaEvPFa
import Derived.Test.YtkoifikjfnbcpaaEvFs
set_option linter.unusedVariables false
set_option linter.unusedSimpArgs false
namespace Go.Proofs.YtkoifikjfnbcpaaEv
open Go Go.RowKit

def chE (p : Int) (g : Mat) (i j : Nat) : Int := if i = j then (me g i j - 1) % p else me g i j
def chRow (p : Int) (n : Nat) (g : Mat) (i : Nat) : List Int := (List.range n).map (chE p g i)
/-- The rows of a matrix less the unit. -/
def chRows (p : Int) (n : Nat) (g : Mat) : List (List Int) := (List.range n).map (chRow p n g)
theorem chRow_len {p : Int} {n : Nat} {g : Mat} {i : Nat} : (chRow p n g i).length = n := by simp [chRow]
theorem chRows_len {p : Int} {n : Nat} {g : Mat} : (chRows p n g).length = n := by simp [chRows]
theorem range_snoc (f : Nat → Int) (j : Nat) : (List.range (j + 1)).map f = (List.range j).map f ++ [f j] := by simp [List.range_succ]
theorem range_snocL (f : Nat → List Int) (j : Nat) : (List.range (j + 1)).map f = (List.range j).map f ++ [f j] := by simp [List.range_succ]

theorem in109 {p : Int} {n i : Nat} {g : Mat} (hp : 2 ≤ p ∧ p ≤ 13) (hn : n ≤ 3) (hi : i < n) (hg : okM g = true) {F0 F : Nat} (hF : n < F) {out : List (List Int)} {kx : ShVal sh109_7 → Option R109} :
    iter (fun s k => st109_7 cf74 F0 s k kx) F ((p, ()), (((n : Int), ()), ((g, ()), ((out, ()), (((i : Int), ()), (([], ()), (((0 : Int), ()), ()))))))) =
      kx ((p, ()), (((n : Int), ()), ((g, ()), ((out, ()), (((i : Int), ()), ((chRow p n g i, ()), (((n : Int), ()), ()))))))) := by
  have key := iter_run (step := fun s k => st109_7 cf74 F0 s k kx) (r := kx ((p, ()), (((n : Int), ()), ((g, ()), ((out, ()), (((i : Int), ()), ((chRow p n g i, ()), (((n : Int), ()), ())))))))) n F
    (fun j => ((p, ()), (((n : Int), ()), ((g, ()), ((out, ()), (((i : Int), ()), (((List.range j).map (chE p g i), ()), (((j : Int), ()), ())))))))) hF (fun j hj k => ?_) (fun k => ?_)
  · exact key
  · have hm := me_rng hg i j
    have em : tget (0 : Int) 3 (tget (Ty.dflt (.arr 3 (.int .u8))) 3 g i) j = me g i j := rfl
    have ll : ((List.range j).map (chE p g i)).length = j := by simp
    have wi : w6 ((j : Int) + 1) = ((j + 1 : Nat) : Int) := by rw [w6_id (by omega) (by omega)]; rfl
    have w1 : w6 (me g i j) = me g i j := w6_id (by omega) (by omega)
    have i3 : ib (i : Int) (Int.ofNat 3) = true := ib_t (by omega) (by simp; omega)
    have j3 : ib (j : Int) (Int.ofNat 3) = true := ib_t (by omega) (by simp; omega)
    rw [range_snoc]
    by_cases q : i = j
    · subst q
      have g74 : cf74 (p, w6 (me g i i - 1), ()) = some (chE p g i i, ()) := by
        rw [w6_id (by omega) (by omega), g74_ok (by omega), chE, if_pos rfl]
      generalize (List.range i).map (chE p g i) = L at *
      simp (disch := omega) only [st109_7, dlt_t, cond_true, i3, tn_cast, em, w1, decide_true, g74, grow_t, ll, List.length_singleton, wi]
    · have e1 : chE p g i j = me g i j := if_neg q
      rw [e1]
      generalize (List.range j).map (chE p g i) = L at *
      simp (disch := omega) only [st109_7, dlt_t, cond_true, i3, j3, tn_cast, em, w1, deq_f, cond_false, grow_t, ll, List.length_singleton, wi]
  · show _ = kx ((p, ()), (((n : Int), ()), ((g, ()), ((out, ()), (((i : Int), ()), ((chRow p n g i, ()), (((n : Int), ()), ())))))))
    have e : chRow p n g i = (List.range n).map (chE p g i) := rfl
    rw [e]
    simp (disch := omega) only [st109_7, dlt_f, cond_false]

theorem run109 {p : Int} {n : Nat} {g : Mat} (hp : 2 ≤ p ∧ p ≤ 13) (hn : n ≤ 3) (hg : okM g = true) : fn109 cf74 5 (p, (n : Int), g, ()) = some (chRows p n g, ()) := by
  simp only [fn109, ru109_3]
  have key := iter_run (step := fun s k => st109_3 cf74 5 s k (fun s' => match s' with | ((t0, _), (t1, _), (t5, _), (t7, _), (t8, _), _) => (some (t7, ())))) (r := some (chRows p n g, ())) n 5
    (fun i => ((p, ()), (((n : Int), ()), ((g, ()), (((List.range i).map (chRow p n g), ()), (((i : Int), ()), ())))))) (by omega) (fun i hi k => ?_) (fun k => ?_)
  · exact key
  · have ll : ((List.range i).map (chRow p n g)).length = i := by simp
    have wi : w6 ((i : Int) + 1) = ((i + 1 : Nat) : Int) := by rw [w6_id (by omega) (by omega)]; rfl
    rw [range_snocL]
    generalize (List.range i).map (chRow p n g) = L at *
    simp (disch := omega) only [st109_3, dlt_t, cond_true, ru109_7]
    rw [in109 hp hn hi hg (by omega)]
    simp (disch := omega) only [grow_t, ll, List.length_singleton, cond_true, wi]
  · have e : chRows p n g = (List.range n).map (chRow p n g) := rfl
    rw [e]
    simp (disch := omega) only [st109_3, dlt_f, cond_false]
noncomputable def cf109 : G109 := by
  classical exact fun x => if ∃ n : Nat, x.2.1 = (n : Int) ∧ n ≤ 3 ∧ (2 ≤ x.1 ∧ x.1 ≤ 13) ∧ okM x.2.2.1 = true then some (chRows x.1 (tn x.2.1) x.2.2.1, ()) else none
theorem k109 : KOne Try.prog 109 ⟨[.v i64, .v i64, .v mat], [.slice 24 (.slice 2 i64)], true, false, 0, cf109⟩ := ok109 _ (.cons k74 .nil) cf109 fun x y h => by
  obtain ⟨p, n, g, _⟩ := x
  simp only [cf109] at h
  split at h
  · rename_i hc
    obtain ⟨m, rfl, h1, h2, h3⟩ := hc
    injection h with h; subst h
    exact ⟨5, run109 h2 h1 h3⟩
  · cases h
theorem g109_ok {p : Int} {n : Nat} {g : Mat} (hp : 2 ≤ p ∧ p ≤ 13) (hn : n ≤ 3) (hg : okM g = true) : cf109 (p, (n : Int), g, ()) = some (chRows p n g, ()) := if_pos ⟨n, rfl, hn, hp, hg⟩

theorem in112 {p : Int} {n i : Nat} {g : Mat} (hn : n ≤ 3) (hi : i < n) (hg : okM g = true) {F0 F : Nat} (hF : n < F) {out : List (List Int)} {kx : ShVal sh112_7 → Option R112} :
    iter (fun s k => st112_7 F0 s k kx) F ((p, ()), (((n : Int), ()), ((g, ()), ((out, ()), (((i : Int), ()), ((List.replicate n 0, ()), (((n : Int), ()), (((i : Int), ()), (((n : Int), ()), (((0 : Int), ()), ())))))))))) =
      kx ((p, ()), (((n : Int), ()), ((g, ()), ((out, ()), (((i : Int), ()), (((List.range n).map (me g i), ()), (((n : Int), ()), (((i : Int), ()), (((n : Int), ()), (((n : Int), ()), ())))))))))) := by
  have hlm : ((List.range n).map (me g i)).length = (List.replicate n (0 : Int)).length := by simp
  have key := iter_run (step := fun s k => st112_7 F0 s k kx) (r := kx ((p, ()), (((n : Int), ()), ((g, ()), ((out, ()), (((i : Int), ()), (((List.range n).map (me g i), ()), (((n : Int), ()), (((i : Int), ()), (((n : Int), ()), (((n : Int), ()), ()))))))))))) n F
    (fun j => ((p, ()), (((n : Int), ()), ((g, ()), ((out, ()), (((i : Int), ()), (((((List.range n).map (me g i)).take j ++ (List.replicate n (0 : Int)).drop j), ()), (((n : Int), ()), (((i : Int), ()), (((n : Int), ()), (((j : Int), ()), ()))))))))))) hF (fun j hj k => ?_) (fun k => ?_)
  · exact key
  · have hm := me_rng hg i j
    have em : tget (0 : Int) 3 (tget (Ty.dflt (.arr 3 (.int .u8))) 3 g i) j = me g i j := rfl
    have l1 := split_len (i := j) hlm (by simp; omega)
    have s1 := split_set (i := j) hlm (by simp; omega)
    have ee : el ((List.range n).map (me g i)) j = me g i j := by simp [el, List.getD_eq_getElem?_getD, hj]
    have wi : w6 ((j : Int) + 1) = ((j + 1 : Nat) : Int) := by rw [w6_id (by omega) (by omega)]; rfl
    have w1 : w6 (me g i j) = me g i j := w6_id (by omega) (by omega)
    have i3 : ib (i : Int) (Int.ofNat 3) = true := ib_t (by omega) (by simp; omega)
    have j3 : ib (j : Int) (Int.ofNat 3) = true := ib_t (by omega) (by simp; omega)
    have l2 : ((List.range n).map (me g i)).length = n := by simp
    rw [ee] at s1
    rw [← s1]
    generalize ((List.range n).map (me g i)).take j ++ (List.replicate n (0 : Int)).drop j = L at *
    simp (disch := omega) only [st112_7, dlt_t, cond_true, i3, j3, tn_cast, em, w1, ib_t, ofn, wi]
  · rw [show ((List.range n).map (me g i)).take n ++ (List.replicate n (0 : Int)).drop n = (List.range n).map (me g i) by
      have : ((List.range n).map (me g i)).length = n := by simp
      rw [List.drop_eq_nil_of_le (by simp), List.append_nil]
      rw [List.take_of_length_le (by omega)]]
    simp (disch := omega) only [st112_7, dlt_f, cond_false]

theorem range_set {n i : Nat} {f : Nat → Int} {x : Int} (hi : i < n) : ((List.range n).map f).set i x = (List.range n).map fun j => if i = j then x else f j := by
  apply List.ext_getElem?
  intro j
  rw [List.getElem?_set]
  by_cases q : i = j
  · subst q; simp [hi]
  · rw [if_neg q]
    simp only [List.getElem?_map, List.getElem?_range]
    by_cases h : j < n
    · simp [h, q]
    · simp [h]

theorem run112 {p : Int} {n : Nat} {g : Mat} (hp : 2 ≤ p ∧ p ≤ 13) (hn : n ≤ 3) (hg : okM g = true) : fn112 5 (p, (n : Int), g, ()) = some (chRows p n g, ()) := by
  simp only [fn112, ru112_3]
  have key := iter_run (step := fun s k => st112_3 5 s k (fun s' => match s' with | ((t0, _), (t1, _), (t5, _), (t7, _), (t12, _), (t13, _), _) => (some (t7, ())))) (r := some (chRows p n g, ())) n 5
    (fun i => ((p, ()), (((n : Int), ()), ((g, ()), (((List.range i).map (chRow p n g), ()), (((n : Int), ()), (((i : Int), ()), ()))))))) (by omega) (fun i hi k => ?_) (fun k => ?_)
  · exact key
  · have ll : ((List.range i).map (chRow p n g)).length = i := by simp
    have wi : w6 ((i : Int) + 1) = ((i + 1 : Nat) : Int) := by rw [w6_id (by omega) (by omega)]; rfl
    have hm := me_rng hg i i
    have e1 : (List.range n).map (me g i) = (List.range n).map (me g i) := rfl
    have ge : ((List.range n).map (me g i)).getD i 0 = me g i i := by simp [List.getD_eq_getElem?_getD, hi]
    have er : ((List.range n).map (me g i)).set i ((me g i i - 1) % p) = chRow p n g i := by
      rw [range_set hi]
      refine List.map_congr_left fun j _ => ?_
      by_cases q : i = j
      · subst q; simp [chE]
      · simp [chE, q]
    have et : Int.tmod (w6 (w6 (me g i i + p) - 1)) p = (me g i i - 1) % p := by
      rw [w6_id (x := me g i i + p) (by omega) (by omega), w6_id (by omega) (by omega), Int.tmod_eq_emod_of_nonneg (by omega)]
      rw [show me g i i + p - 1 = me g i i - 1 + p by omega, Int.add_emod_right]
    have lm : ((List.range n).map (me g i)).length = n := by simp
    rw [range_snocL]
    generalize (List.range i).map (chRow p n g) = L at *
    simp (disch := omega) only [st112_3, dlt_t, dle_t, decide_true, Bool.and_self, Bool.true_and, cond_true, ru112_7, tn_cast]
    rw [in112 hn hi hg (by omega)]
    simp (disch := omega) only [ofn, lm, ib_t, cond_true, deq_f, Bool.not_false, tn_cast, ge, et, er, grow_t, ll, List.length_singleton, wi]
  · have e : chRows p n g = (List.range n).map (chRow p n g) := rfl
    rw [e]
    simp (disch := omega) only [st112_3, dlt_f, cond_false]
noncomputable def cf112 : G112 := by
  classical exact fun x => if ∃ n : Nat, x.2.1 = (n : Int) ∧ n ≤ 3 ∧ (2 ≤ x.1 ∧ x.1 ≤ 13) ∧ okM x.2.2.1 = true then some (chRows x.1 (tn x.2.1) x.2.2.1, ()) else none
theorem k112 : KOne Try.prog 112 ⟨[.v i64, .v i64, .v mat], [.slice 24 (.slice 2 i64)], true, false, 0, cf112⟩ := ok112 .nil cf112 fun x y h => by
  obtain ⟨p, n, g, _⟩ := x
  simp only [cf112] at h
  split at h
  · rename_i hc
    obtain ⟨m, rfl, h1, h2, h3⟩ := hc
    injection h with h; subst h
    exact ⟨5, run112 h2 h1 h3⟩
  · cases h
theorem g112_ok {p : Int} {n : Nat} {g : Mat} (hp : 2 ≤ p ∧ p ≤ 13) (hn : n ≤ 3) (hg : okM g = true) : cf112 (p, (n : Int), g, ()) = some (chRows p n g, ()) := if_pos ⟨n, rfl, hn, hp, hg⟩

end Go.Proofs.YtkoifikjfnbcpaaEv
