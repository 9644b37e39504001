/- Rows of numbers and polynomials: the monomials of a degree, a row's polynomial, told by the program's and by the reference's text. -/
import Derived.Test.YtkoifikjfnbcpaaEvPV
import Derived.Test.YtkoifikjfnbcpaaEvFy
import Derived.Test.YtkoifikjfnbcpaaEvSi
set_option linter.unusedVariables false
set_option linter.unusedSimpArgs false
namespace Go.Proofs.YtkoifikjfnbcpaaEv
open Go Go.RowKit Go.Proofs

def c18b (a b : List Int) : Option (Bool × Unit) := if a.length ≤ 1100000 ∧ b.length ≤ 1100000 then some (decide (a = b), ()) else none
def cf18b : Args [.v (.slice 2 i64), .v (.slice 2 i64)] → Option R18 := fun x => c18b x.1 x.2.1
theorem k18b : KOne Try.prog 18 ⟨[.v (.slice 2 i64), .v (.slice 2 i64)], [.bool], false, false, 0, cf18b⟩ := ok18 .nil cf18b fun x y h => by
  obtain ⟨a, b, _⟩ := x
  simp only [cf18b, c18b] at h
  split at h
  · rename_i hc
    injection h with h; subst h
    refine ⟨a.length + 1, ?_⟩
    by_cases hl : a.length = b.length
    · simp (disch := omega) only [fn18, dln_t, cond_true, ofn, deq_t, Bool.not_true, cond_false, ru18_4]
      by_cases hq : a = b
      · subst hq
        rw [decide_eq_true rfl]
        refine iter_run a.length _ (fun i => ((a, ()), ((a, ()), ((i : Int), ()), ()))) (by omega) (fun i hi k => ?_) (fun k => ?_)
        · simp (disch := omega) only [st18_4, dln_t, cond_true, ofn, dlt_t, ib_t, deq_t, Bool.not_true, cond_false, w6_id]
          rfl
        · simp (disch := omega) only [st18_4, dln_t, cond_true, ofn, dlt_f, cond_false]
      · rw [decide_eq_false hq]
        obtain ⟨n, h1, h2, h3⟩ := first_diff a b hl hq
        refine iter_run n _ (fun i => ((a, ()), ((b, ()), ((i : Int), ()), ()))) (by omega) (fun i hi k => ?_) (fun k => ?_)
        · have h0 : a.getD i 0 = b.getD i 0 := h3 i hi
          simp (disch := omega) only [st18_4, dln_t, cond_true, ofn, dlt_t, ib_t, tn_cast, h0, deq_t, Bool.not_true, cond_false, w6_id]
          rfl
        · have h0 : a.getD n 0 ≠ b.getD n 0 := h2
          simp (disch := first | omega | exact h0) only [st18_4, dln_t, cond_true, ofn, dlt_t, ib_t, tn_cast, deq_f, Bool.not_false]
    · rw [decide_eq_false (fun q => hl (by rw [q]))]
      simp (disch := omega) only [fn18, dln_t, cond_true, ofn, deq_f, Bool.not_false]
  · cases h

def c19b (l : List Int) (k : Int) : Option (List Int × Int × Unit) := if l.length ≤ 1100000 ∧ 0 ≤ k ∧ k ≤ 1000000000000 then some (marks k l.length, k + l.length, ()) else none
def cf19b : Args [.v (.slice 2 i64), .v i64] → Option R19 := fun x => c19b x.1 x.2.1
theorem run19b (l : List Int) (k0 : Int) (hc : l.length ≤ 1100000 ∧ 0 ≤ k0 ∧ k0 ≤ 1000000000000) : fn19 (l.length + 1) (l, k0, ()) = some (marks k0 l.length, k0 + l.length, ()) := by
  simp only [fn19, ru19_2]
  have hs : ∀ i, i ≤ l.length → ((marks k0 i) ++ l.drop i).length = l.length := fun i hi => by simp [marks_len]; omega
  have key := iter_run (step := fun s k => st19_2 (l.length + 1) s k (fun s' => match s' with | ((t0, _), (t1, _), (t5, _), _) => (some (t0, (t1, ()))))) (r := some (marks k0 l.length, k0 + l.length, ())) l.length (l.length + 1) (fun i => ((marks k0 i ++ l.drop i, ()), ((k0 + (i : Int), ()), ((i : Int), ()), ()))) (by omega) (fun i hi k => ?_) (fun k => ?_)
  · simpa [marks] using key
  · have h1 := hs i (by omega)
    generalize hL : marks k0 i ++ l.drop i = L at *
    simp (disch := omega) only [st19_2, dln_t, cond_true, ofn, dlt_t, ib_t, tn_cast, w6_id]
    have e : L.set i (k0 + i) = marks k0 (i + 1) ++ l.drop (i + 1) := by
      refine row_ext (by rw [List.length_set, h1, hs (i + 1) (by omega)]) fun j => ?_
      simp only [el, List.getD_eq_getElem?_getD]
      rw [List.getElem?_set]
      by_cases q : i = j
      · subst q
        rw [if_pos rfl, if_pos (by rw [h1]; exact hi), List.getElem?_append_left (by rw [marks_len]; omega)]
        have := marks_el (i + 1) k0 i (by omega)
        simp only [el, List.getD_eq_getElem?_getD] at this
        rw [this]; rfl
      · rw [if_neg q, ← hL]
        rcases Nat.lt_or_ge j i with z | z
        · rw [List.getElem?_append_left (by rw [marks_len]; omega), List.getElem?_append_left (by rw [marks_len]; omega)]
          have a1 := marks_el i k0 j z
          have a2 := marks_el (i + 1) k0 j (by omega)
          simp only [el, List.getD_eq_getElem?_getD] at a1 a2
          rw [a1, a2]
        · rw [List.getElem?_append_right (by rw [marks_len]; omega), List.getElem?_append_right (by rw [marks_len]; omega), marks_len, marks_len, List.getElem?_drop, List.getElem?_drop]
          rw [show i + (j - i) = i + 1 + (j - (i + 1)) by omega]
    rw [e, show k0 + (i : Int) + 1 = k0 + ((i + 1 : Nat) : Int) by omega]
    rfl
  · have e : marks k0 l.length ++ l.drop l.length = marks k0 l.length := by simp
    have h2 := marks_len l.length k0
    generalize hM : marks k0 l.length = M at *
    rw [e]
    simp (disch := omega) only [st19_2, dln_t, cond_true, ofn, dlt_f, cond_false]
theorem k19b : KOne Try.prog 19 ⟨[.v (.slice 2 i64), .v i64], [.slice 2 i64, i64], false, false, 1, cf19b⟩ := ok19 .nil cf19b fun x y h => by
  obtain ⟨l, k0, _⟩ := x
  simp only [cf19b, c19b] at h
  split at h
  · rename_i hc
    injection h with h; subst h
    exact ⟨_, run19b l k0 hc⟩
  · cases h
def c20b (l : List Int) (k : Int) : Option (Int × Unit) := if l.length ≤ 1100000 ∧ 0 ≤ k ∧ k ≤ 1000000000000 ∧ l = marks k l.length then some (k + l.length, ()) else none
def cf20b : Args [.v (.slice 2 i64), .v i64] → Option R20 := fun x => c20b x.1 x.2.1
theorem run20b (l : List Int) (k0 : Int) (hc : l.length ≤ 1100000 ∧ 0 ≤ k0 ∧ k0 ≤ 1000000000000 ∧ l = marks k0 l.length) : fn20 (l.length + 1) (l, k0, ()) = some (k0 + l.length, ()) := by
  simp only [fn20, ru20_2]
  have key := iter_run (step := fun s k => st20_2 (l.length + 1) s k (fun s' => match s' with | ((t0, _), (t1, _), (t5, _), _) => (some (t1, ())))) (r := some (k0 + l.length, ())) l.length (l.length + 1) (fun i => ((l, ()), ((k0 + (i : Int), ()), ((i : Int), ()), ()))) (by omega) (fun i hi k => ?_) (fun k => ?_)
  · simpa using key
  · have h0 : l.getD i 0 = k0 + i := by
      have := marks_el l.length k0 i hi
      rw [← hc.2.2.2] at this
      exact this
    simp (disch := omega) only [st20_2, dln_t, cond_true, ofn, dlt_t, ib_t, tn_cast, h0, deq_t, decide_true, Bool.not_true, cond_false, w6_id]
    rw [show k0 + (i : Int) + 1 = k0 + ((i + 1 : Nat) : Int) by omega]
    rfl
  · simp (disch := omega) only [st20_2, dln_t, cond_true, ofn, dlt_f, cond_false]
theorem k20b : KOne Try.prog 20 ⟨[.v (.slice 2 i64), .v i64], [i64], false, false, 0, cf20b⟩ := ok20 .nil cf20b fun x y h => by
  obtain ⟨l, k0, _⟩ := x
  simp only [cf20b, c20b] at h
  split at h
  · rename_i hc
    injection h with h; subst h
    exact ⟨_, run20b l k0 hc⟩
  · cases h

theorem g18b_ok {l : List Int} (h : l.length ≤ 1100000) : cf18b (l, l, ()) = some (true, ()) := by
  simp only [cf18b, c18b]
  rw [if_pos ⟨h, h⟩]; simp
theorem g19b_ok {l : List Int} {k : Int} (hl : l.length ≤ 1100000) (hk : 0 ≤ k ∧ k ≤ 1000000000000) : cf19b (l, k, ()) = some (marks k l.length, k + l.length, ()) := if_pos ⟨hl, hk.1, hk.2⟩

theorem copy_set {l : List Int} {i : Nat} (h : i < l.length) : (l.take i ++ List.replicate (l.length - i) (0 : Int)).set i (l.getD i 0) = l.take (i + 1) ++ List.replicate (l.length - (i + 1)) (0 : Int) := by
  apply List.ext_getElem?
  intro j
  rw [List.getElem?_set]
  have hl : (l.take i).length = i := by simp; omega
  have hl2 : (l.take (i + 1)).length = i + 1 := by simp; omega
  by_cases q : i = j
  · subst q
    rw [if_pos rfl, if_pos (by simp; omega), List.getElem?_append_left (by omega), List.getElem?_take_of_lt (by omega), List.getD_eq_getElem?_getD, List.getElem?_eq_getElem h]; rfl
  · rw [if_neg q]
    rcases Nat.lt_or_ge j i with z | z
    · rw [List.getElem?_append_left (by omega), List.getElem?_append_left (by omega), List.getElem?_take_of_lt z, List.getElem?_take_of_lt (by omega)]
    · rw [List.getElem?_append_right (by omega), List.getElem?_append_right (by omega), hl, hl2, List.getElem?_replicate, List.getElem?_replicate]
      by_cases y : j < l.length
      · rw [if_pos (by omega), if_pos (by omega)]
      · rw [if_neg (by omega), if_neg (by omega)]
def cf37 : G37 := fun x => if (show List Int from x.1).length ≤ 1100000 then some (x.1, ()) else none
theorem k37 : KOne Try.prog 37 ⟨[.v (.slice 2 i64)], [.slice 2 i64], true, false, 0, cf37⟩ := ok37 .nil cf37 fun x y h => by
  obtain ⟨l, _⟩ := x
  change List Int at l
  simp only [cf37] at h
  split at h
  · rename_i hc
    injection h with h; subst h
    refine ⟨l.length + 1, ?_⟩
    simp only [fn37]
    rw [dln_t (by omega)]
    simp only [cond_true, ofn]
    rw [dle_t (by omega), dle_t (by omega)]
    simp only [decide_true, Bool.and_self, cond_true, tn_cast, ru37_3]
    refine iter_run (step := fun s k => st37_3 (l.length + 1) s k (fun s' => match s' with | ((t0, _), (t3, _), (t4, _), _) => (some (t3, ())))) (r := some (l, ())) l.length (l.length + 1) (fun i => ((l, ()), ((l.take i ++ List.replicate (l.length - i) (0 : Int), ()), ((i : Int), ()), ()))) (by omega) (fun i hi k => ?_) (fun k => ?_)
    · have h1 : (l.take i ++ List.replicate (l.length - i) (0 : Int)).length = l.length := by simp; omega
      have h2 := copy_set hi
      generalize hL : l.take i ++ List.replicate (l.length - i) (0 : Int) = L at *
      simp (disch := omega) only [st37_3, dln_t, cond_true, ofn, dlt_t, ib_t, tn_cast, w6_id, h2]
      rfl
    · have h1 : l.take l.length ++ List.replicate (l.length - l.length) (0 : Int) = l := by simp
      rw [h1]
      simp (disch := omega) only [st37_3, dln_t, cond_true, ofn, dlt_f, cond_false]
  · cases h
theorem g37_ok {l : List Int} (h : l.length ≤ 1100000) : cf37 (l, ()) = some (l, ()) := if_pos h

def cf68 : G68 := fn68 0
theorem k68 : KOne Try.prog 68 ⟨[.v i64], [.bool], false, false, 0, cf68⟩ := ok68 .nil cf68 fun x y h => ⟨0, h⟩
theorem g68 (n : Int) : cf68 (n, ()) = some (decide (0 ≤ n) && decide (n ≤ 12), ()) := by
  simp only [cf68, fn68]
  cases decide ((0 : Int) ≤ n) <;> rfl

theorem all_or (f : Int → Bool) : ∀ l : List Int, l.all f = true ∨ (l.all f = false ∧ ∃ n, n < l.length ∧ f (l.getD n 0) = false ∧ ∀ i, i < n → f (l.getD i 0) = true)
  | [] => .inl rfl
  | x :: r => by
    cases hx : f x with
    | false => exact .inr ⟨by simp [hx], 0, by simp, by simpa using hx, fun i hi => by omega⟩
    | true =>
      rcases all_or f r with h | ⟨h, n, h1, h2, h3⟩
      · exact .inl (by simp [hx]; simpa using h)
      · refine .inr ⟨by rw [List.all_cons, hx, h]; rfl, n + 1, by simpa using h1, by simpa using h2, fun i hi => ?_⟩
        cases i with
        | zero => simpa using hx
        | succ i => have := h3 i (by omega); simpa using this
theorem all_at {f : Int → Bool} {l : List Int} (h : l.all f = true) {i : Nat} (hi : i < l.length) : f (l.getD i 0) = true := by
  rw [List.getD_eq_getElem?_getD, List.getElem?_eq_getElem hi]
  exact List.all_eq_true.1 h _ (List.getElem_mem hi)

def inF (p : Int) (x : Int) : Bool := decide (0 ≤ x) && decide (x ≤ p - 1)
def cf83 : G83 := fun x => if (show List Int from x.2.2.1).length ≤ 1100000 ∧ 1 ≤ x.1 ∧ x.1 ≤ (1000000 : Int) then some ((show List Int from x.2.2.1).all (inF x.1) && decide (((show List Int from x.2.2.1).length : Int) = x.2.1), ()) else none
theorem g73b (x lo hi : Int) : cf73 (x, lo, hi, ()) = some (decide (lo ≤ x) && decide (x ≤ hi), ()) := rfl
theorem k83 : KOne Try.prog 83 ⟨[.v i64, .v i64, .v (.slice 2 i64)], [.bool], false, false, 0, cf83⟩ := ok83 _ (.cons k73 .nil) cf83 fun x y h => by
  obtain ⟨p, d, l, _⟩ := x
  change List Int at l
  change Int at p
  change Int at d
  simp only [cf83] at h
  split at h
  · rename_i hc
    injection h with h; subst h
    obtain ⟨h1, h2, h3⟩ := hc
    have h2 : (1 : Int) ≤ p := h2
    have h3 : p ≤ (1000000 : Int) := h3
    refine ⟨l.length + 1, ?_⟩
    simp only [fn83, ru83_2]
    have hw : w6 (p - 1) = p - 1 := w6_id (by omega) (by omega)
    rcases all_or (inF p) l with hq | ⟨hq, n, q1, q2, q3⟩
    · rw [hq]
      refine iter_run l.length _ (fun i => ((p, ()), ((d, ()), ((l, ()), (((i : Int), ()), ()))))) (by omega) (fun i hi k => ?_) (fun k => ?_)
      · have := all_at hq hi
        have this : (decide ((0 : Int) ≤ l.getD i 0) && decide (l.getD i 0 ≤ p - 1)) = true := this
        simp (disch := omega) only [st83_2, dln_t, cond_true, ofn, dlt_t, ib_t, tn_cast, hw, w6_id]
        show (bif !(decide ((0 : Int) ≤ l.getD i 0) && decide (l.getD i 0 ≤ p - 1)) then _ else _) = _
        rw [this]; rfl
      · simp (disch := omega) only [st83_2, dln_t, cond_true, ofn, dlt_f, cond_false, Bool.true_and]
    · rw [hq]
      refine iter_run n _ (fun i => ((p, ()), ((d, ()), ((l, ()), (((i : Int), ()), ()))))) (by omega) (fun i hi k => ?_) (fun k => ?_)
      · have this : (decide ((0 : Int) ≤ l.getD i 0) && decide (l.getD i 0 ≤ p - 1)) = true := q3 i hi
        simp (disch := omega) only [st83_2, dln_t, cond_true, ofn, dlt_t, ib_t, tn_cast, hw, w6_id]
        show (bif !(decide ((0 : Int) ≤ l.getD i 0) && decide (l.getD i 0 ≤ p - 1)) then _ else _) = _
        rw [this]; rfl
      · have this : (decide ((0 : Int) ≤ l.getD n 0) && decide (l.getD n 0 ≤ p - 1)) = false := q2
        simp (disch := omega) only [st83_2, dln_t, cond_true, ofn, dlt_t, ib_t, tn_cast, hw]
        show (bif !(decide ((0 : Int) ≤ l.getD n 0) && decide (l.getD n 0 ≤ p - 1)) then _ else _) = _
        rw [this]; rfl
  · cases h
def cf89 : G89 := fun x => if (show List Int from x.2.1).length ≤ 1100000 then some ((show List Int from x.2.1).all (inF x.1), ()) else none
theorem k89 : KOne Try.prog 89 ⟨[.v i64, .v (.slice 2 i64)], [.bool], false, false, 0, cf89⟩ := ok89 .nil cf89 fun x y h => by
  obtain ⟨p, l, _⟩ := x
  change List Int at l
  change Int at p
  simp only [cf89] at h
  split at h
  · rename_i h1
    injection h with h; subst h
    refine ⟨l.length + 1, ?_⟩
    simp only [fn89]
    rw [dln_t (by omega)]
    simp only [cond_true, ofn, ru89_2]
    rcases all_or (inF p) l with hq | ⟨hq, n, q1, q2, q3⟩
    · rw [hq]
      refine iter_run l.length _ (fun i => ((p, ()), ((l, ()), (((l.length : Int), ()), (((i : Int), ()), ()))))) (by omega) (fun i hi k => ?_) (fun k => ?_)
      · have := all_at hq hi
        simp only [inF, Bool.and_eq_true, decide_eq_true_eq] at this
        simp (disch := omega) only [st89_2, ofn, cond_true, dlt_t, ib_t, tn_cast, dlt_f, dle_f, cond_false, w6_id]
        rfl
      · simp (disch := omega) only [st89_2, ofn, dlt_f, cond_false]
    · rw [hq]
      refine iter_run n _ (fun i => ((p, ()), ((l, ()), (((l.length : Int), ()), (((i : Int), ()), ()))))) (by omega) (fun i hi k => ?_) (fun k => ?_)
      · have := q3 i hi
        simp only [inF, Bool.and_eq_true, decide_eq_true_eq] at this
        simp (disch := omega) only [st89_2, ofn, cond_true, dlt_t, ib_t, tn_cast, dlt_f, dle_f, cond_false, w6_id]
        rfl
      · simp only [inF, Bool.and_eq_false_iff, decide_eq_false_iff_not] at q2
        simp (disch := omega) only [st89_2, ofn, cond_true, dlt_t, ib_t, tn_cast]
        by_cases z : l.getD n 0 < 0
        · rw [dlt_t z]; rfl
        · rw [dlt_f (by omega), dle_t (by omega)]; rfl
  · cases h

/-! The monomials of a degree, by the program's own text. -/
def cf143 : G143 := fn143 cf158 6
theorem k143 : KOne Try.prog 143 ⟨[.v i64, .v ex], [.bool], false, false, 0, cf143⟩ := ok143 _ (.cons k158 .nil) cf143 fun x y h => ⟨6, h⟩
def cf88 : G88 := fn88 100
theorem k88 : KOne Try.prog 88 ⟨[.v i64, .v i64], [.slice 105 ex], true, false, 0, cf88⟩ := ok88 .nil cf88 fun x y h => ⟨100, h⟩
def cf84 : G84 := fn84 cf143 100
theorem k84 : KOne Try.prog 84 ⟨[.v i64, .v i64], [.slice 105 ex], true, false, 0, cf84⟩ := ok84 _ (.cons k143 .nil) cf84 fun x y h => ⟨100, h⟩
def eqE (a b : ex.den) : Bool := decide (x0 a = x0 b) && decide (x1 a = x1 b) && decide (x2 a = x2 b)
def eqX : List ex.den → List ex.den → Bool
  | [], [] => true
  | a :: r, b :: s => eqE a b && eqX r s
  | _, _ => false
def okB (a : ex.den) : Bool := (decide (0 ≤ x0 a) && decide (x0 a ≤ 255)) && (decide (0 ≤ x1 a) && decide (x1 a ≤ 255)) && (decide (0 ≤ x2 a) && decide (x2 a ≤ 255))
def srtB : List ex.den → Bool
  | [] => true
  | a :: r => okB a && (match r with | [] => true | b :: _ => decide (keyX a < keyX b)) && srtB r
def chk (d n : Int) : Bool :=
  match fn88 100 (d, n, ()), fn84 cf143 100 (d, n, ()) with
  | some (a, _), some (b, _) => eqX a b && srtB a && decide ((show List ex.den from a).length ≤ 100)
  | _, _ => false
theorem eqX_eq : ∀ {a b : List ex.den}, eqX a b = true → a = b
  | [], [], _ => rfl
  | a :: r, b :: s, h => by
    simp only [eqX, eqE, Bool.and_eq_true, decide_eq_true_eq] at h
    obtain ⟨⟨⟨h1, h2⟩, h3⟩, h4⟩ := h
    obtain ⟨a0, a1, a2, _⟩ := a
    obtain ⟨b0, b1, b2, _⟩ := b
    have h1 : a0 = b0 := h1
    have h2 : a1 = b1 := h2
    have h3 : a2 = b2 := h3
    subst h1; subst h2; subst h3
    rw [eqX_eq h4]
  | [], _ :: _, h => by simp [eqX] at h
  | _ :: _, [], h => by simp [eqX] at h
theorem srtB_ok : ∀ {m : List ex.den}, srtB m = true → m.Pairwise (fun a b => keyX a < keyX b) ∧ ∀ e ∈ m, okX e
  | [], _ => ⟨.nil, by simp⟩
  | a :: r, h => by
    simp only [srtB, Bool.and_eq_true] at h
    obtain ⟨⟨h1, h2⟩, h3⟩ := h
    obtain ⟨q1, q2⟩ := srtB_ok h3
    have oa : okX a := by
      simp only [okB, Bool.and_eq_true, decide_eq_true_eq] at h1
      exact ⟨h1.1.1, h1.1.2, h1.2⟩
    refine ⟨List.pairwise_cons.2 ⟨fun b hb => ?_, q1⟩, fun e he => ?_⟩
    · cases r with
      | nil => cases hb
      | cons c r =>
        have h2 : keyX a < keyX c := by simpa using h2
        rcases List.mem_cons.1 hb with rfl | hb
        · exact h2
        · have := (List.pairwise_cons.1 q1).1 b hb; omega
    · rcases List.mem_cons.1 he with rfl | he
      · exact oa
      · exact q2 e he
theorem chk_all : ((List.range 3).all fun d => (List.range 13).all fun n => chk ((d : Int) + 1) (n : Int)) = true := by kernel_rfl
theorem mons_ok {d n : Int} (hd : 1 ≤ d ∧ d ≤ 3) (hn : 0 ≤ n ∧ n ≤ 12) : ∃ m : List ex.den, cf88 (d, n, ()) = some (m, ()) ∧ cf84 (d, n, ()) = some (m, ()) ∧ m.Pairwise (fun a b => keyX a < keyX b) ∧ (∀ e ∈ m, okX e) ∧ m.length ≤ 100 := by
  have h := chk_all
  rw [List.all_eq_true] at h
  have h := h (d.toNat - 1) (by simp; omega)
  rw [List.all_eq_true] at h
  have h := h n.toNat (by simp; omega)
  rw [show (((d.toNat - 1 : Nat) : Int) + 1) = d by omega, show ((n.toNat : Nat) : Int) = n by omega] at h
  unfold chk at h
  split at h
  · rename_i a u b u' e1 e2
    simp only [Bool.and_eq_true, decide_eq_true_eq] at h
    obtain ⟨⟨h1, h2⟩, h3⟩ := h
    have := eqX_eq h1
    subst this
    obtain ⟨q1, q2⟩ := srtB_ok h2
    exact ⟨a, e1, e2, q1, q2, h3⟩
  · cases h

end Go.Proofs.YtkoifikjfnbcpaaEv
