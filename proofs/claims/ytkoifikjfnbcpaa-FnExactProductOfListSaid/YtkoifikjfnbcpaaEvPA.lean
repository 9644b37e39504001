/- What the small functions compute: numbers modulo p, lists compared, marked and looked at. -/
import Derived.Test.YtkoifikjfnbcpaaEvFa
import Derived.Test.YtkoifikjfnbcpaaEvLin
set_option linter.unusedVariables false
set_option linter.unusedSimpArgs false
namespace Go.Proofs.YtkoifikjfnbcpaaEv
open Go Go.RowKit

theorem iter_run {S α : Type} {step : S → (S → Option α) → Option α} {r : Option α} : ∀ (n F : Nat) (st : Nat → S), n < F → (∀ i, i < n → ∀ k, step (st i) k = k (st (i + 1))) → (∀ k, step (st n) k = r) → iter step F (st 0) = r
  | 0, F, st, hF, _, h => by
    obtain ⟨F, rfl⟩ : ∃ f, F = f + 1 := ⟨F - 1, by omega⟩
    exact h _
  | n + 1, F, st, hF, h1, h => by
    obtain ⟨F, rfl⟩ : ∃ f, F = f + 1 := ⟨F - 1, by omega⟩
    simp only [iter]
    rw [h1 0 (by omega)]
    exact iter_run n F (fun i => st (i + 1)) (by omega) (fun i hi k => h1 (i + 1) (by omega) k) h

/-! ### words -/
theorem dlt_t {a b : Int} (h : a < b) : decide (a < b) = true := decide_eq_true h
theorem dlt_f {a b : Int} (h : b ≤ a) : decide (a < b) = false := decide_eq_false (by omega)
theorem dle_t {a b : Int} (h : a ≤ b) : decide (a ≤ b) = true := decide_eq_true h
theorem dle_f {a b : Int} (h : b < a) : decide (a ≤ b) = false := decide_eq_false (by omega)
theorem dln_t {a b : Nat} (h : a ≤ b) : decide (a ≤ b) = true := decide_eq_true h
theorem deq_t {a b : Int} (h : a = b) : decide (a = b) = true := decide_eq_true h
theorem deq_f {a b : Int} (h : a ≠ b) : decide (a = b) = false := decide_eq_false h
theorem ib_t {i n : Int} (h0 : 0 ≤ i) (h1 : i < n) : ib i n = true := by simp [ib, h0, h1]
theorem w6_id {x : Int} (h0 : -9223372036854775808 ≤ x) (h1 : x ≤ 9223372036854775807) : w6 x = x := by
  simp [w6, IntKind.wrap, IntKind.bits, IntKind.signed]; split <;> omega
theorem w8_id {x : Int} (h0 : 0 ≤ x) (h1 : x ≤ 255) : w8 x = x := by
  simp [w8, IntKind.wrap, IntKind.bits, IntKind.signed]; omega
theorem grow_t {a b : Nat} (h : a + b ≤ 1099511627776) : growOk a b = true := decide_eq_true h
theorem ofn (n : Nat) : Int.ofNat n = (n : Int) := rfl
theorem tn_cast (n : Nat) : tn (n : Int) = n := rfl
theorem tmod_md {p x : Int} (hp : 0 < p) : Int.tmod (Int.tmod x p + p) p = x % p ∧ -p < Int.tmod x p ∧ Int.tmod x p < p := by
  have h1 := Int.natAbs_tmod x p
  have h2 : x.natAbs % p.natAbs < p.natAbs := Nat.mod_lt _ (by omega)
  have h3 := Int.tmod_add_mul_tdiv x p
  have h4 : -p < Int.tmod x p ∧ Int.tmod x p < p := by omega
  refine ⟨?_, h4⟩
  rw [Int.tmod_eq_emod_of_nonneg (by omega), Int.add_emod_right]
  conv => rhs; rw [← h3]
  rw [Int.add_mul_emod_self_left]
theorem md_rng {p x : Int} (hp : 0 < p) : 0 ≤ x % p ∧ x % p < p := ⟨Int.emod_nonneg _ (by omega), Int.emod_lt_of_pos _ hp⟩

/-! ### contracts -/
abbrev B : Nat := 1000000
def c74 (p a : Int) : Option (Int × Unit) := if 0 < p ∧ p ≤ 1000000 ∧ -1000000000000000000 ≤ a ∧ a ≤ 1000000000000000000 then some (a % p, ()) else none
def cf74 : Args [.v i64, .v i64] → Option R74 := fun x => c74 x.1 x.2.1
theorem k74 : KOne Try.prog 74 ⟨[.v i64, .v i64], [i64], false, false, 0, cf74⟩ := ok74 .nil cf74 fun x y h => by
  obtain ⟨p, a, _⟩ := x
  simp only [cf74, c74] at h
  split at h
  · rename_i hc
    injection h with h; subst h
    refine ⟨0, ?_⟩
    obtain ⟨h1, h2, h3⟩ := tmod_md (p := p) (x := a) (by omega)
    simp (disch := omega) only [fn74, deq_f, Bool.not_false, cond_true, w6_id, h1]
  · cases h

def cf82 : Args [.v i64] → Option R82 := fun x => some (isP x.1, ())
theorem isP_text (a b c d e f : Bool) : (bif a then (some (true, ())) else (bif (bif false then true else b) then (some (true, ())) else (bif (bif false then true else c) then (some (true, ())) else (bif (bif false then true else d) then (some (true, ())) else (bif (bif false then true else e) then (some (true, ())) else (some ((bif false then true else f), ()))))))) = some (a || (b || (c || (d || (e || f)))), ()) := by
  cases a <;> cases b <;> cases c <;> cases d <;> cases e <;> rfl
theorem k82 : KOne Try.prog 82 ⟨[.v i64], [.bool], false, false, 0, cf82⟩ := ok82 .nil cf82 fun x y h => by
  obtain ⟨p, _⟩ := x
  injection h with h; subst h
  exact ⟨0, isP_text _ _ _ _ _ _⟩
theorem k86 : KOne Try.prog 86 ⟨[.v i64], [.bool], false, false, 0, cf82⟩ := ok86 .nil cf82 fun x y h => by
  obtain ⟨p, _⟩ := x
  injection h with h; subst h
  exact ⟨0, isP_text _ _ _ _ _ _⟩
def cf73 : Args [.v i64, .v i64, .v i64] → Option R73 := fun x => some (decide (x.2.1 ≤ x.1) && decide (x.1 ≤ x.2.2.1), ())
theorem k73 : KOne Try.prog 73 ⟨[.v i64, .v i64, .v i64], [.bool], false, false, 0, cf73⟩ := ok73 .nil cf73 fun x y h => by
  obtain ⟨a, b, c, _⟩ := x
  injection h with h; subst h
  refine ⟨0, ?_⟩
  simp only [fn73]
  cases decide (b ≤ a) <;> rfl
def cf87 : Args [.v i64] → Option R87 := fun x => some (decide (1 ≤ x.1) && decide (x.1 ≤ 3), ())
theorem k87 : KOne Try.prog 87 ⟨[.v i64], [.bool], false, false, 0, cf87⟩ := ok87 .nil cf87 fun x y h => by
  obtain ⟨a, _⟩ := x
  injection h with h; subst h
  refine ⟨0, ?_⟩
  simp only [fn87]
  cases decide ((1 : Int) ≤ a) <;> rfl

def c155 (l : List Int) : Option (List Int × Unit) := if l.length ≤ B then some (l, ()) else none
def cf155 : Args [.v (.slice 2 i64)] → Option R155 := fun x => c155 x.1
theorem k155 : KOne Try.prog 155 ⟨[.v (.slice 2 i64)], [.slice 2 i64], true, false, 0, cf155⟩ := ok155 .nil cf155 fun x y h => by
  obtain ⟨l, _⟩ := x
  simp only [cf155, c155] at h
  split at h
  · rename_i hc
    injection h with h; subst h
    refine ⟨0, ?_⟩
    simp only [B] at hc
    simp (disch := omega) only [fn155, grow_t, cond_true, List.nil_append]
  · cases h

/-- The lead as the program tells it. -/
def ldI (r : List Int) : Int := if ld r = r.length then -1 else (ld r : Int)
def c153 (l : List Int) : Option (Int × Unit) := if l.length ≤ B then some (ldI l, ()) else none
def cf153 : Args [.v (.slice 2 i64)] → Option R153 := fun x => c153 x.1
theorem k153 : KOne Try.prog 153 ⟨[.v (.slice 2 i64)], [i64], false, false, 0, cf153⟩ := ok153 .nil cf153 fun x y h => by
  obtain ⟨l, _⟩ := x
  simp only [cf153, c153] at h
  split at h
  · rename_i hc
    injection h with h; subst h
    simp only [B] at hc
    have hle := ld_le l
    refine ⟨l.length + 1, ?_⟩
    simp only [fn153, ru153_2]
    refine iter_run (ld l) _ (fun i => ((l, ()), ((i : Int), ()), ())) (by omega) (fun i hi k => ?_) (fun k => ?_)
    · have h0 : l.getD i 0 = 0 := ld_zero l i hi
      simp (disch := omega) only [st153_2, dln_t, cond_true, ofn, dlt_t, ib_t, tn_cast, h0, deq_t, Bool.not_true, cond_false, w6_id]
      rfl
    · by_cases q : ld l = l.length
      · simp (disch := omega) only [st153_2, dln_t, cond_true, ofn, dlt_f, cond_false, ldI, if_pos q]
      · have hne : l.getD (ld l) 0 ≠ 0 := ld_ne l (by omega)
        simp (disch := first | omega | exact hne) only [st153_2, dln_t, cond_true, ofn, dlt_t, ib_t, tn_cast, deq_f, Bool.not_false, cond_false, ldI, if_neg q]
  · cases h

def c18 (a b : List Int) : Option (Bool × Unit) := if a.length ≤ B ∧ b.length ≤ B then some (decide (a = b), ()) else none
def cf18 : Args [.v (.slice 2 i64), .v (.slice 2 i64)] → Option R18 := fun x => c18 x.1 x.2.1
theorem first_diff : ∀ (a b : List Int), a.length = b.length → a ≠ b → ∃ n, n < a.length ∧ el a n ≠ el b n ∧ ∀ i, i < n → el a i = el b i
  | [], [], _, h => absurd rfl h
  | x :: a, y :: b, hl, h => by
    by_cases q : x = y
    · subst q
      obtain ⟨n, h1, h2, h3⟩ := first_diff a b (by simpa using hl) (fun q => h (by rw [q]))
      refine ⟨n + 1, by simpa using h1, by rw [el_cons_succ, el_cons_succ]; exact h2, fun i hi => ?_⟩
      cases i with
      | zero => rfl
      | succ i => rw [el_cons_succ, el_cons_succ]; exact h3 i (by omega)
    · exact ⟨0, by simp, by rw [el_cons_zero, el_cons_zero]; exact q, fun i hi => by omega⟩
  | [], _ :: _, hl, _ => by simp at hl
  | _ :: _, [], hl, _ => by simp at hl
theorem k18 : KOne Try.prog 18 ⟨[.v (.slice 2 i64), .v (.slice 2 i64)], [.bool], false, false, 0, cf18⟩ := ok18 .nil cf18 fun x y h => by
  obtain ⟨a, b, _⟩ := x
  simp only [cf18, c18] at h
  split at h
  · rename_i hc
    injection h with h; subst h
    simp only [B] at hc
    refine ⟨a.length + 1, ?_⟩
    by_cases hl : a.length = b.length
    · simp (disch := omega) only [fn18, dln_t, cond_true, ofn, deq_t, Bool.not_true, cond_false, ru18_4]
      by_cases hq : a = b
      · subst hq
        rw [decide_eq_true rfl]
        refine iter_run a.length _ (fun i => ((a, ()), ((a, ()), ((i : Int), ()), ()))) (by omega) (fun i hi k => ?_) (fun k => ?_)
        · simp (disch := omega) only [st18_4, dln_t, cond_true, ofn, dlt_t, ib_t, deq_t, Bool.not_true, cond_false, w6_id]
          rfl
        · simp (disch := omega) only [st18_4, dln_t, cond_true, ofn, dlt_f, cond_false]
      · rw [decide_eq_false hq]
        obtain ⟨n, h1, h2, h3⟩ := first_diff a b hl hq
        refine iter_run n _ (fun i => ((a, ()), ((b, ()), ((i : Int), ()), ()))) (by omega) (fun i hi k => ?_) (fun k => ?_)
        · have h0 : a.getD i 0 = b.getD i 0 := h3 i hi
          simp (disch := omega) only [st18_4, dln_t, cond_true, ofn, dlt_t, ib_t, tn_cast, h0, deq_t, Bool.not_true, cond_false, w6_id]
          rfl
        · have h0 : a.getD n 0 ≠ b.getD n 0 := h2
          simp (disch := first | omega | exact h0) only [st18_4, dln_t, cond_true, ofn, dlt_t, ib_t, tn_cast, deq_f, Bool.not_false]
    · rw [decide_eq_false (fun q => hl (by rw [q]))]
      simp (disch := omega) only [fn18, dln_t, cond_true, ofn, deq_f, Bool.not_false]
  · cases h

/-- The marks from k on. -/
def marks (k : Int) : Nat → List Int
  | 0 => []
  | n + 1 => k :: marks (k + 1) n
theorem marks_len (n : Nat) : ∀ k, (marks k n).length = n := by induction n with | zero => intro k; rfl | succ n ih => intro k; simp [marks, ih]
theorem marks_el (n : Nat) : ∀ (k : Int) (i : Nat), i < n → el (marks k n) i = k + i := by
  induction n with
  | zero => intro k i h; omega
  | succ n ih =>
    intro k i h
    cases i with
    | zero => simp [marks, el]
    | succ i => simp only [marks]; rw [el_cons_succ, ih _ _ (by omega)]; omega
def c19 (l : List Int) (k : Int) : Option (List Int × Int × Unit) := if l.length ≤ B ∧ 0 ≤ k ∧ k ≤ 1000000000000 then some (marks k l.length, k + l.length, ()) else none
def cf19 : Args [.v (.slice 2 i64), .v i64] → Option R19 := fun x => c19 x.1 x.2.1
theorem run19 (l : List Int) (k0 : Int) (hc : l.length ≤ 1000000 ∧ 0 ≤ k0 ∧ k0 ≤ 1000000000000) : fn19 (l.length + 1) (l, k0, ()) = some (marks k0 l.length, k0 + l.length, ()) := by
  simp only [fn19, ru19_2]
  have hs : ∀ i, i ≤ l.length → ((marks k0 i) ++ l.drop i).length = l.length := fun i hi => by simp [marks_len]; omega
  have key := iter_run (step := fun s k => st19_2 (l.length + 1) s k (fun s' => match s' with | ((t0, _), (t1, _), (t5, _), _) => (some (t0, (t1, ()))))) (r := some (marks k0 l.length, k0 + l.length, ())) l.length (l.length + 1) (fun i => ((marks k0 i ++ l.drop i, ()), ((k0 + (i : Int), ()), ((i : Int), ()), ()))) (by omega) (fun i hi k => ?_) (fun k => ?_)
  · simpa [marks] using key
  · have h1 := hs i (by omega)
    generalize hL : marks k0 i ++ l.drop i = L at *
    simp (disch := omega) only [st19_2, dln_t, cond_true, ofn, dlt_t, ib_t, tn_cast, w6_id]
    have e : L.set i (k0 + i) = marks k0 (i + 1) ++ l.drop (i + 1) := by
      refine row_ext (by rw [List.length_set, h1, hs (i + 1) (by omega)]) fun j => ?_
      simp only [el, List.getD_eq_getElem?_getD]
      rw [List.getElem?_set]
      by_cases q : i = j
      · subst q
        rw [if_pos rfl, if_pos (by rw [h1]; exact hi), List.getElem?_append_left (by rw [marks_len]; omega)]
        have := marks_el (i + 1) k0 i (by omega)
        simp only [el, List.getD_eq_getElem?_getD] at this
        rw [this]; rfl
      · rw [if_neg q, ← hL]
        rcases Nat.lt_or_ge j i with z | z
        · rw [List.getElem?_append_left (by rw [marks_len]; omega), List.getElem?_append_left (by rw [marks_len]; omega)]
          have a1 := marks_el i k0 j z
          have a2 := marks_el (i + 1) k0 j (by omega)
          simp only [el, List.getD_eq_getElem?_getD] at a1 a2
          rw [a1, a2]
        · rw [List.getElem?_append_right (by rw [marks_len]; omega), List.getElem?_append_right (by rw [marks_len]; omega), marks_len, marks_len, List.getElem?_drop, List.getElem?_drop]
          rw [show i + (j - i) = i + 1 + (j - (i + 1)) by omega]
    rw [e, show k0 + (i : Int) + 1 = k0 + ((i + 1 : Nat) : Int) by omega]
    rfl
  · have e : marks k0 l.length ++ l.drop l.length = marks k0 l.length := by simp
    have h2 := marks_len l.length k0
    generalize hM : marks k0 l.length = M at *
    rw [e]
    simp (disch := omega) only [st19_2, dln_t, cond_true, ofn, dlt_f, cond_false]
theorem k19 : KOne Try.prog 19 ⟨[.v (.slice 2 i64), .v i64], [.slice 2 i64, i64], false, false, 1, cf19⟩ := ok19 .nil cf19 fun x y h => by
  obtain ⟨l, k0, _⟩ := x
  simp only [cf19, c19] at h
  split at h
  · rename_i hc
    injection h with h; subst h
    exact ⟨_, run19 l k0 hc⟩
  · cases h
def c20 (l : List Int) (k : Int) : Option (Int × Unit) := if l.length ≤ B ∧ 0 ≤ k ∧ k ≤ 1000000000000 ∧ l = marks k l.length then some (k + l.length, ()) else none
def cf20 : Args [.v (.slice 2 i64), .v i64] → Option R20 := fun x => c20 x.1 x.2.1
theorem run20 (l : List Int) (k0 : Int) (hc : l.length ≤ 1000000 ∧ 0 ≤ k0 ∧ k0 ≤ 1000000000000 ∧ l = marks k0 l.length) : fn20 (l.length + 1) (l, k0, ()) = some (k0 + l.length, ()) := by
  simp only [fn20, ru20_2]
  have key := iter_run (step := fun s k => st20_2 (l.length + 1) s k (fun s' => match s' with | ((t0, _), (t1, _), (t5, _), _) => (some (t1, ())))) (r := some (k0 + l.length, ())) l.length (l.length + 1) (fun i => ((l, ()), ((k0 + (i : Int), ()), ((i : Int), ()), ()))) (by omega) (fun i hi k => ?_) (fun k => ?_)
  · simpa using key
  · have h0 : l.getD i 0 = k0 + i := by
      have := marks_el l.length k0 i hi
      rw [← hc.2.2.2] at this
      exact this
    simp (disch := omega) only [st20_2, dln_t, cond_true, ofn, dlt_t, ib_t, tn_cast, h0, deq_t, decide_true, Bool.not_true, cond_false, w6_id]
    rw [show k0 + (i : Int) + 1 = k0 + ((i + 1 : Nat) : Int) by omega]
    rfl
  · simp (disch := omega) only [st20_2, dln_t, cond_true, ofn, dlt_f, cond_false]
theorem k20 : KOne Try.prog 20 ⟨[.v (.slice 2 i64), .v i64], [i64], false, false, 0, cf20⟩ := ok20 .nil cf20 fun x y h => by
  obtain ⟨l, k0, _⟩ := x
  simp only [cf20, c20] at h
  split at h
  · rename_i hc
    injection h with h; subst h
    exact ⟨_, run20 l k0 hc⟩
  · cases h

end Go.Proofs.YtkoifikjfnbcpaaEv
