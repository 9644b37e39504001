/- Rows of numbers in the laws: copied, compared, marked. -/
import Derived.Test.YtkoifikjfnbcpaaEvPV
import Derived.Test.YtkoifikjfnbcpaaEvSi
set_option linter.unusedVariables false
set_option linter.unusedSimpArgs false
namespace Go.Proofs.YtkoifikjfnbcpaaEv
open Go Go.RowKit Go.Proofs

def c18b (a b : List Int) : Option (Bool × Unit) := if a.length ≤ 1100000 ∧ b.length ≤ 1100000 then some (decide (a = b), ()) else none
def cf18b : Args [.v (.slice 2 i64), .v (.slice 2 i64)] → Option R18 := fun x => c18b x.1 x.2.1
theorem k18b : KOne Try.prog 18 ⟨[.v (.slice 2 i64), .v (.slice 2 i64)], [.bool], false, false, 0, cf18b⟩ := ok18 .nil cf18b fun x y h => by
  obtain ⟨a, b, _⟩ := x
  simp only [cf18b, c18b] at h
  split at h
  · rename_i hc
    injection h with h; subst h
    refine ⟨a.length + 1, ?_⟩
    by_cases hl : a.length = b.length
    · simp (disch := omega) only [fn18, dln_t, cond_true, ofn, deq_t, Bool.not_true, cond_false, ru18_4]
      by_cases hq : a = b
      · subst hq
        rw [decide_eq_true rfl]
        refine iter_run a.length _ (fun i => ((a, ()), ((a, ()), ((i : Int), ()), ()))) (by omega) (fun i hi k => ?_) (fun k => ?_)
        · simp (disch := omega) only [st18_4, dln_t, cond_true, ofn, dlt_t, ib_t, deq_t, Bool.not_true, cond_false, w6_id]
          rfl
        · simp (disch := omega) only [st18_4, dln_t, cond_true, ofn, dlt_f, cond_false]
      · rw [decide_eq_false hq]
        obtain ⟨n, h1, h2, h3⟩ := first_diff a b hl hq
        refine iter_run n _ (fun i => ((a, ()), ((b, ()), ((i : Int), ()), ()))) (by omega) (fun i hi k => ?_) (fun k => ?_)
        · have h0 : a.getD i 0 = b.getD i 0 := h3 i hi
          simp (disch := omega) only [st18_4, dln_t, cond_true, ofn, dlt_t, ib_t, tn_cast, h0, deq_t, Bool.not_true, cond_false, w6_id]
          rfl
        · have h0 : a.getD n 0 ≠ b.getD n 0 := h2
          simp (disch := first | omega | exact h0) only [st18_4, dln_t, cond_true, ofn, dlt_t, ib_t, tn_cast, deq_f, Bool.not_false]
    · rw [decide_eq_false (fun q => hl (by rw [q]))]
      simp (disch := omega) only [fn18, dln_t, cond_true, ofn, deq_f, Bool.not_false]
  · cases h

def c19b (l : List Int) (k : Int) : Option (List Int × Int × Unit) := if l.length ≤ 1100000 ∧ 0 ≤ k ∧ k ≤ 1000000000000 then some (marks k l.length, k + l.length, ()) else none
def cf19b : Args [.v (.slice 2 i64), .v i64] → Option R19 := fun x => c19b x.1 x.2.1
theorem run19b (l : List Int) (k0 : Int) (hc : l.length ≤ 1100000 ∧ 0 ≤ k0 ∧ k0 ≤ 1000000000000) : fn19 (l.length + 1) (l, k0, ()) = some (marks k0 l.length, k0 + l.length, ()) := by
  simp only [fn19, ru19_2]
  have hs : ∀ i, i ≤ l.length → ((marks k0 i) ++ l.drop i).length = l.length := fun i hi => by simp [marks_len]; omega
  have key := iter_run (step := fun s k => st19_2 (l.length + 1) s k (fun s' => match s' with | ((t0, _), (t1, _), (t5, _), _) => (some (t0, (t1, ()))))) (r := some (marks k0 l.length, k0 + l.length, ())) l.length (l.length + 1) (fun i => ((marks k0 i ++ l.drop i, ()), ((k0 + (i : Int), ()), ((i : Int), ()), ()))) (by omega) (fun i hi k => ?_) (fun k => ?_)
  · simpa [marks] using key
  · have h1 := hs i (by omega)
    generalize hL : marks k0 i ++ l.drop i = L at *
    simp (disch := omega) only [st19_2, dln_t, cond_true, ofn, dlt_t, ib_t, tn_cast, w6_id]
    have e : L.set i (k0 + i) = marks k0 (i + 1) ++ l.drop (i + 1) := by
      refine row_ext (by rw [List.length_set, h1, hs (i + 1) (by omega)]) fun j => ?_
      simp only [el, List.getD_eq_getElem?_getD]
      rw [List.getElem?_set]
      by_cases q : i = j
      · subst q
        rw [if_pos rfl, if_pos (by rw [h1]; exact hi), List.getElem?_append_left (by rw [marks_len]; omega)]
        have := marks_el (i + 1) k0 i (by omega)
        simp only [el, List.getD_eq_getElem?_getD] at this
        rw [this]; rfl
      · rw [if_neg q, ← hL]
        rcases Nat.lt_or_ge j i with z | z
        · rw [List.getElem?_append_left (by rw [marks_len]; omega), List.getElem?_append_left (by rw [marks_len]; omega)]
          have a1 := marks_el i k0 j z
          have a2 := marks_el (i + 1) k0 j (by omega)
          simp only [el, List.getD_eq_getElem?_getD] at a1 a2
          rw [a1, a2]
        · rw [List.getElem?_append_right (by rw [marks_len]; omega), List.getElem?_append_right (by rw [marks_len]; omega), marks_len, marks_len, List.getElem?_drop, List.getElem?_drop]
          rw [show i + (j - i) = i + 1 + (j - (i + 1)) by omega]
    rw [e, show k0 + (i : Int) + 1 = k0 + ((i + 1 : Nat) : Int) by omega]
    rfl
  · have e : marks k0 l.length ++ l.drop l.length = marks k0 l.length := by simp
    have h2 := marks_len l.length k0
    generalize hM : marks k0 l.length = M at *
    rw [e]
    simp (disch := omega) only [st19_2, dln_t, cond_true, ofn, dlt_f, cond_false]
theorem k19b : KOne Try.prog 19 ⟨[.v (.slice 2 i64), .v i64], [.slice 2 i64, i64], false, false, 1, cf19b⟩ := ok19 .nil cf19b fun x y h => by
  obtain ⟨l, k0, _⟩ := x
  simp only [cf19b, c19b] at h
  split at h
  · rename_i hc
    injection h with h; subst h
    exact ⟨_, run19b l k0 hc⟩
  · cases h
def c20b (l : List Int) (k : Int) : Option (Int × Unit) := if l.length ≤ 1100000 ∧ 0 ≤ k ∧ k ≤ 1000000000000 ∧ l = marks k l.length then some (k + l.length, ()) else none
def cf20b : Args [.v (.slice 2 i64), .v i64] → Option R20 := fun x => c20b x.1 x.2.1
theorem run20b (l : List Int) (k0 : Int) (hc : l.length ≤ 1100000 ∧ 0 ≤ k0 ∧ k0 ≤ 1000000000000 ∧ l = marks k0 l.length) : fn20 (l.length + 1) (l, k0, ()) = some (k0 + l.length, ()) := by
  simp only [fn20, ru20_2]
  have key := iter_run (step := fun s k => st20_2 (l.length + 1) s k (fun s' => match s' with | ((t0, _), (t1, _), (t5, _), _) => (some (t1, ())))) (r := some (k0 + l.length, ())) l.length (l.length + 1) (fun i => ((l, ()), ((k0 + (i : Int), ()), ((i : Int), ()), ()))) (by omega) (fun i hi k => ?_) (fun k => ?_)
  · simpa using key
  · have h0 : l.getD i 0 = k0 + i := by
      have := marks_el l.length k0 i hi
      rw [← hc.2.2.2] at this
      exact this
    simp (disch := omega) only [st20_2, dln_t, cond_true, ofn, dlt_t, ib_t, tn_cast, h0, deq_t, decide_true, Bool.not_true, cond_false, w6_id]
    rw [show k0 + (i : Int) + 1 = k0 + ((i + 1 : Nat) : Int) by omega]
    rfl
  · simp (disch := omega) only [st20_2, dln_t, cond_true, ofn, dlt_f, cond_false]
theorem k20b : KOne Try.prog 20 ⟨[.v (.slice 2 i64), .v i64], [i64], false, false, 0, cf20b⟩ := ok20 .nil cf20b fun x y h => by
  obtain ⟨l, k0, _⟩ := x
  simp only [cf20b, c20b] at h
  split at h
  · rename_i hc
    injection h with h; subst h
    exact ⟨_, run20b l k0 hc⟩
  · cases h

theorem g18b_ok {l : List Int} (h : l.length ≤ 1100000) : cf18b (l, l, ()) = some (true, ()) := by
  simp only [cf18b, c18b]
  rw [if_pos ⟨h, h⟩]; simp
theorem g19b_ok {l : List Int} {k : Int} (hl : l.length ≤ 1100000) (hk : 0 ≤ k ∧ k ≤ 1000000000000) : cf19b (l, k, ()) = some (marks k l.length, k + l.length, ()) := if_pos ⟨hl, hk.1, hk.2⟩

theorem copy_set {l : List Int} {i : Nat} (h : i < l.length) : (l.take i ++ List.replicate (l.length - i) (0 : Int)).set i (l.getD i 0) = l.take (i + 1) ++ List.replicate (l.length - (i + 1)) (0 : Int) := by
  apply List.ext_getElem?
  intro j
  rw [List.getElem?_set]
  have hl : (l.take i).length = i := by simp; omega
  have hl2 : (l.take (i + 1)).length = i + 1 := by simp; omega
  by_cases q : i = j
  · subst q
    rw [if_pos rfl, if_pos (by simp; omega), List.getElem?_append_left (by omega), List.getElem?_take_of_lt (by omega), List.getD_eq_getElem?_getD, List.getElem?_eq_getElem h]; rfl
  · rw [if_neg q]
    rcases Nat.lt_or_ge j i with z | z
    · rw [List.getElem?_append_left (by omega), List.getElem?_append_left (by omega), List.getElem?_take_of_lt z, List.getElem?_take_of_lt (by omega)]
    · rw [List.getElem?_append_right (by omega), List.getElem?_append_right (by omega), hl, hl2, List.getElem?_replicate, List.getElem?_replicate]
      by_cases y : j < l.length
      · rw [if_pos (by omega), if_pos (by omega)]
      · rw [if_neg (by omega), if_neg (by omega)]
def cf37 : G37 := fun x => if (show List Int from x.1).length ≤ 1100000 then some (x.1, ()) else none
theorem k37 : KOne Try.prog 37 ⟨[.v (.slice 2 i64)], [.slice 2 i64], true, false, 0, cf37⟩ := ok37 .nil cf37 fun x y h => by
  obtain ⟨l, _⟩ := x
  change List Int at l
  simp only [cf37] at h
  split at h
  · rename_i hc
    injection h with h; subst h
    refine ⟨l.length + 1, ?_⟩
    simp only [fn37]
    rw [dln_t (by omega)]
    simp only [cond_true, ofn]
    rw [dle_t (by omega), dle_t (by omega)]
    simp only [decide_true, Bool.and_self, cond_true, tn_cast, ru37_3]
    refine iter_run (step := fun s k => st37_3 (l.length + 1) s k (fun s' => match s' with | ((t0, _), (t3, _), (t4, _), _) => (some (t3, ())))) (r := some (l, ())) l.length (l.length + 1) (fun i => ((l, ()), ((l.take i ++ List.replicate (l.length - i) (0 : Int), ()), ((i : Int), ()), ()))) (by omega) (fun i hi k => ?_) (fun k => ?_)
    · have h1 : (l.take i ++ List.replicate (l.length - i) (0 : Int)).length = l.length := by simp; omega
      have h2 := copy_set hi
      generalize hL : l.take i ++ List.replicate (l.length - i) (0 : Int) = L at *
      simp (disch := omega) only [st37_3, dln_t, cond_true, ofn, dlt_t, ib_t, tn_cast, w6_id, h2]
      rfl
    · have h1 : l.take l.length ++ List.replicate (l.length - l.length) (0 : Int) = l := by simp
      rw [h1]
      simp (disch := omega) only [st37_3, dln_t, cond_true, ofn, dlt_f, cond_false]
  · cases h
theorem g37_ok {l : List Int} (h : l.length ≤ 1100000) : cf37 (l, ()) = some (l, ()) := if_pos h

theorem all_or (f : Int → Bool) : ∀ l : List Int, l.all f = true ∨ (l.all f = false ∧ ∃ n, n < l.length ∧ f (l.getD n 0) = false ∧ ∀ i, i < n → f (l.getD i 0) = true)
  | [] => .inl rfl
  | x :: r => by
    cases hx : f x with
    | false => exact .inr ⟨by simp [hx], 0, by simp, by simpa using hx, fun i hi => by omega⟩
    | true =>
      rcases all_or f r with h | ⟨h, n, h1, h2, h3⟩
      · exact .inl (by simp [hx]; simpa using h)
      · refine .inr ⟨by rw [List.all_cons, hx, h]; rfl, n + 1, by simpa using h1, by simpa using h2, fun i hi => ?_⟩
        cases i with
        | zero => simpa using hx
        | succ i => have := h3 i (by omega); simpa using this
theorem all_at {f : Int → Bool} {l : List Int} (h : l.all f = true) {i : Nat} (hi : i < l.length) : f (l.getD i 0) = true := by
  rw [List.getD_eq_getElem?_getD, List.getElem?_eq_getElem hi]
  exact List.all_eq_true.1 h _ (List.getElem_mem hi)

def cf143 : G143 := fn143 cf158 6
theorem k143 : KOne Try.prog 143 ⟨[.v i64, .v ex], [.bool], false, false, 0, cf143⟩ := ok143 _ (.cons k158 .nil) cf143 fun x y h => ⟨6, h⟩
end Go.Proofs.YtkoifikjfnbcpaaEv
