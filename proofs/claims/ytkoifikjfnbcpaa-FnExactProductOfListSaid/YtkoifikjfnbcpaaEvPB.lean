/- What the functions of row reduction compute. -/
import Derived.Test.YtkoifikjfnbcpaaEvPA
set_option linter.unusedVariables false
set_option linter.unusedSimpArgs false
namespace Go.Proofs.YtkoifikjfnbcpaaEv
open Go Go.RowKit

theorem g74_ok {p a : Int} (h : 0 < p ∧ p ≤ 1000000 ∧ -1000000000000000000 ≤ a ∧ a ≤ 1000000000000000000) : cf74 (p, a, ()) = some (a % p, ()) := if_pos h
theorem mul_rng {a b c d : Int} (h1 : 0 ≤ a) (h2 : a < c) (h3 : 0 ≤ b) (h4 : b < d) : 0 ≤ a * b ∧ a * b < c * d := by
  refine ⟨Int.mul_nonneg h1 h3, ?_⟩
  have : a * b ≤ a * d := Int.mul_le_mul_of_nonneg_left (by omega) h1
  have : a * d < c * d := Int.mul_lt_mul_of_pos_right h2 (by omega)
  omega
theorem sq_rng {p a b : Int} (hp : p ≤ 13) (h1 : 0 ≤ a) (h2 : a < p) (h3 : 0 ≤ b) (h4 : b < p) : 0 ≤ a * b ∧ a * b < 169 := by
  have := mul_rng (c := 13) (d := 13) h1 (by omega) h3 (by omega)
  omega

theorem run75a {p x : Int} (hp : 2 ≤ p ∧ p ≤ 13) (hx : -1000000000000 ≤ x ∧ x ≤ 1000000000000) {F0 : Nat} : ∀ (f F : Nat) (k : Int), 1 ≤ k → p - k < f → f < F →
    iter (fun s k => st75_2 cf74 F0 s k (fun s' => match s' with | ((t0, _), (t1, _), (t5, _), _) => (some ((0 : Int), ())))) F ((p, ()), ((x, ()), ((k, ()), ()))) = some (invA p (x % p) f k, ())
  | 0, F, k, h1, h2, h3 => by
    obtain ⟨F, rfl⟩ : ∃ f, F = f + 1 := ⟨F - 1, by omega⟩
    simp (disch := omega) only [iter, st75_2, dlt_f, cond_false, invA]
  | f + 1, F, k, h1, h2, h3 => by
    obtain ⟨F, rfl⟩ : ∃ f, F = f + 1 := ⟨F - 1, by omega⟩
    have r := md_rng (p := p) (x := x) (by omega)
    by_cases q : k < p
    · have s := sq_rng (p := p) (by omega) (show 0 ≤ k by omega) q r.1 r.2
      have g := g74_ok (p := p) (a := x) (by omega)
      have e : Int.tmod (w6 (k * (x % p))) p = k * (x % p) % p := by rw [w6_id (by omega) (by omega), Int.tmod_eq_emod_of_nonneg s.1]
      have ih := fun k h1 h2 => run75a hp hx (F0 := F0) f F k h1 h2 (by omega)
      simp only [iter]
      generalize iter _ F = G at ih ⊢
      simp (disch := omega) only [st75_2, dlt_t, cond_true, g, deq_f, Bool.not_false, e]
      by_cases z : k * (x % p) % p = 1
      · rw [decide_eq_true z]; simp only [cond_true, invA, if_pos q, if_pos z]
      · rw [decide_eq_false z]
        simp (disch := omega) only [cond_false, w6_id]
        rw [ih (k + 1) (by omega) (by omega)]
        simp only [invA, if_pos q, if_neg z]
    · simp (disch := omega) only [iter, st75_2, dlt_f, cond_false, invA, if_neg q]
theorem run75 {p x : Int} (hp : 2 ≤ p ∧ p ≤ 13) (hx : -1000000000000 ≤ x ∧ x ≤ 1000000000000) : fn75 cf74 20 (p, x, ()) = some (inv p x, ()) := by
  simp only [fn75, ru75_2]
  exact run75a hp hx 13 20 1 (by omega) (by omega) (by omega)
def c75 (p x : Int) : Option (Int × Unit) := if (2 ≤ p ∧ p ≤ 13) ∧ (-1000000000000 ≤ x ∧ x ≤ 1000000000000) then some (inv p x, ()) else none
def cf75 : Args [.v i64, .v i64] → Option R75 := fun x => c75 x.1 x.2.1
theorem k75 : KOne Try.prog 75 ⟨[.v i64, .v i64], [i64], false, false, 0, cf75⟩ := ok75 _ (.cons k74 .nil) cf75 fun x y h => by
  obtain ⟨p, a, _⟩ := x
  simp only [cf75, c75] at h
  split at h
  · rename_i hc
    injection h with h; subst h
    exact ⟨20, run75 hc.1 hc.2⟩
  · cases h

theorem take_snoc {α : Type} {l : List α} {i : Nat} (h : i < l.length) : l.take (i + 1) = l.take i ++ [l[i]] := by
  rw [List.take_add_one, List.getElem?_eq_getElem h]; rfl
theorem el_get {l : List Int} {i : Nat} (h : i < l.length) : el l i = l[i] := by
  simp [el, List.getD_eq_getElem?_getD, List.getElem?_eq_getElem h]

theorem run154 {p k : Int} {m : Nat} {r o : List Int} (hp : 2 ≤ p ∧ p ≤ 13) (hk : 0 ≤ k ∧ k < p) (h1 : Can p m r) (h2 : Can p m o) (hm : m ≤ 1000000) : fn154 cf74 (m + 1) (p, r, o, k, ()) = some (subm p k r o, ()) := by
  simp only [fn154, ru154_3]
  have l1 := h1.len
  have l2 := h2.len
  have l3 : (subm p k r o).length = m := by rw [subm_len (by omega)]; exact l1
  have key := iter_run (step := fun s k => st154_3 cf74 (m + 1) s k (fun s' => match s' with | ((t0, _), (t1, _), (t2, _), (t3, _), (t9, _), (t10, _), _) => (some (t9, ())))) (r := some (subm p k r o, ())) m (m + 1) (fun i => ((p, ()), ((r, ()), ((o, ()), ((k, ()), (((subm p k r o).take i, ()), (((i : Int), ()), ()))))))) (by omega) (fun i hi kk => ?_) (fun kk => ?_)
  · simpa using key
  · have z1 := h1.rng i
    have z2 := h2.rng i
    have z3 := sq_rng (p := p) (by omega) hk.1 hk.2 z2.1 z2.2
    have g : cf74 (p, w6 (r.getD i 0 - w6 (k * o.getD i 0)), ()) = some ((el r i - k * el o i) % p, ()) := by
      simp only [el] at z1 z2 z3
      rw [w6_id (x := k * o.getD i 0) (by omega) (by omega), w6_id (by omega) (by omega)]
      exact g74_ok (by omega)
    have l4 : (List.take i (subm p k r o)).length = i := by rw [List.length_take, l3]; omega
    have e : (el r i - k * el o i) % p = (subm p k r o)[i]'(by omega) := by rw [← el_subm (by omega), el_get]
    rw [show List.take (i + 1) (subm p k r o) = List.take i (subm p k r o) ++ [(el r i - k * el o i) % p] by rw [take_snoc (by omega), e]]
    clear e
    generalize List.take i (subm p k r o) = L at *
    simp (disch := omega) only [st154_3, dln_t, cond_true, ofn, dlt_t, ib_t, tn_cast, g, grow_t, List.length_singleton, w6_id]
    rfl
  · rw [show List.take m (subm p k r o) = subm p k r o by rw [← l3, List.take_length]]
    simp (disch := omega) only [st154_3, dln_t, cond_true, ofn, dlt_f, cond_false]
open Classical in
noncomputable def c154 (p : Int) (r o : List Int) (k : Int) : Option (List Int × Unit) := if (2 ≤ p ∧ p ≤ 13) ∧ (0 ≤ k ∧ k < p) ∧ r.length ≤ 1000000 ∧ Can p r.length r ∧ Can p r.length o then some (subm p k r o, ()) else none
noncomputable def cf154 : Args [.v i64, .v (.slice 2 i64), .v (.slice 2 i64), .v i64] → Option R154 := fun x => c154 x.1 x.2.1 x.2.2.1 x.2.2.2.1
theorem k154 : KOne Try.prog 154 ⟨[.v i64, .v (.slice 2 i64), .v (.slice 2 i64), .v i64], [.slice 2 i64], true, false, 0, cf154⟩ := ok154 _ (.cons k74 .nil) cf154 fun x y h => by
  obtain ⟨p, r, o, k, _⟩ := x
  simp only [cf154, c154] at h
  split at h
  · rename_i hc
    injection h with h; subst h
    exact ⟨_, run154 hc.1 hc.2.1 hc.2.2.2.1 hc.2.2.2.2 hc.2.2.1⟩
  · cases h

theorem g153_ok {l : List Int} (h : l.length ≤ 1000000) : cf153 (l, ()) = some (ldI l, ()) := if_pos h
theorem g155_ok {l : List Int} (h : l.length ≤ 1000000) : cf155 (l, ()) = some (l, ()) := if_pos h
theorem g154_ok {p k : Int} {m : Nat} {r o : List Int} (hp : 2 ≤ p ∧ p ≤ 13) (hk : 0 ≤ k ∧ k < p) (h1 : Can p m r) (h2 : Can p m o) (hm : m ≤ 1000000) : cf154 (p, r, o, k, ()) = some (subm p k r o, ()) :=
  if_pos ⟨hp, hk, by rw [h1.len]; exact hm, by rw [h1.len]; exact h1, by rw [h1.len]; exact h2⟩
theorem ldI_lt {r : List Int} {m : Nat} (hl : r.length = m) (h : ld r < m) : ldI r = (ld r : Int) := by unfold ldI; rw [if_neg (by omega)]
theorem subm_zero {p : Int} {m : Nat} {r o : List Int} (h1 : Can p m r) (h2 : o.length = m) : subm p 0 r o = r := by
  refine row_ext (subm_len (by rw [h1.len, h2])) fun i => ?_
  rw [el_subm (by rw [h1.len, h2]), Int.zero_mul, Int.sub_zero, h1.mod]
theorem rest_snoc {p : Int} : ∀ {a : List (List Int)} {o r : List Int}, rest p (a ++ [o]) r = subm p (el (rest p a r) (ld o)) (rest p a r) o
  | [], o, r => rfl
  | x :: a, o, r => by simp only [List.cons_append, rest]; exact rest_snoc

theorem run152 {p : Int} {m : Nat} {out : List (List Int)} {r : List Int} (hp : 2 ≤ p ∧ p ≤ 13) (rr : RR p m out) (hr : Can p m r) (hm : m ≤ 1000000) (ho : out.length ≤ 1000000) : fn152 cf155 cf154 cf153 (out.length + 1) (p, out, r, ()) = some (rest p out r, ()) := by
  simp only [fn152, ru152_3]
  rw [g155_ok (by rw [hr.len]; exact hm)]
  simp only
  have key := iter_run (step := fun s k => st152_3 cf155 cf154 cf153 (out.length + 1) s k (fun s' => match s' with | ((t0, _), (t1, _), (t7, _), (t8, _), _) => (some (t7, ())))) (r := some (rest p out r, ())) out.length (out.length + 1) (fun i => ((p, ()), ((out, ()), ((rest p (out.take i) r, ()), (((i : Int), ()), ()))))) (by omega) (fun i hi kk => ?_) (fun kk => ?_)
  · simpa [rest] using key
  · have ho1 : out.getD i [] = out[i] := by simp [List.getD_eq_getElem?_getD, List.getElem?_eq_getElem hi]
    have hmem : out[i] ∈ out := List.getElem_mem hi
    have co := rr.can _ hmem
    have lo := rr.lt _ hmem
    have cr : Can p m (rest p (out.take i) r) := rest_can (by omega) (fun o h => rr.can o (List.mem_of_mem_take h)) hr
    rw [show List.take (i + 1) out = List.take i out ++ [out[i]] from take_snoc hi, rest_snoc]
    generalize rest p (List.take i out) r = own at *
    generalize out[i] = o at *
    have g1 := g153_ok (l := o) (by rw [co.len]; exact hm)
    rw [ldI_lt co.len lo] at g1
    have lw := cr.len
    have z := cr.rng (ld o)
    by_cases q : el own (ld o) = 0
    · have q' : own.getD (ld o) 0 = 0 := q
      rw [q, subm_zero cr co.len]
      simp (disch := omega) only [st152_3, dln_t, cond_true, ofn, dlt_t, ib_t, tn_cast, ho1, g1, q', decide_true, Bool.not_true, cond_false, w6_id]
      rfl
    · have q' : own.getD (ld o) 0 ≠ 0 := q
      have g2 : cf154 (p, own, o, own.getD (ld o) 0, ()) = some (subm p (el own (ld o)) own o, ()) := g154_ok hp z cr co hm
      simp (disch := first | omega | exact q') only [st152_3, dln_t, cond_true, ofn, dlt_t, ib_t, tn_cast, ho1, g1, deq_f, Bool.not_false, g2, w6_id]
      rfl
  · rw [List.take_length]
    simp (disch := omega) only [st152_3, dln_t, cond_true, ofn, dlt_f, cond_false]
open Classical in
noncomputable def c152 (p : Int) (out : List (List Int)) (r : List Int) : Option (List Int × Unit) := if (2 ≤ p ∧ p ≤ 13) ∧ RR p r.length out ∧ Can p r.length r ∧ r.length ≤ 1000000 ∧ out.length ≤ 1000000 then some (rest p out r, ()) else none
noncomputable def cf152 : Args [.v i64, .v (.slice 24 (.slice 2 i64)), .v (.slice 2 i64)] → Option R152 := fun x => c152 x.1 x.2.1 x.2.2.1
theorem k152 : KOne Try.prog 152 ⟨[.v i64, .v (.slice 24 (.slice 2 i64)), .v (.slice 2 i64)], [.slice 2 i64], true, false, 0, cf152⟩ := ok152 _ _ _ (.cons k155 (.cons k154 (.cons k153 .nil))) cf152 fun x y h => by
  obtain ⟨p, out, r, _⟩ := x
  simp only [cf152, c152] at h
  split at h
  · rename_i hc
    injection h with h; subst h
    exact ⟨_, run152 hc.1 hc.2.1 hc.2.2.1 hc.2.2.2.1 hc.2.2.2.2⟩
  · cases h
theorem g152_ok {p : Int} {m : Nat} {out : List (List Int)} {r : List Int} (hp : 2 ≤ p ∧ p ≤ 13) (rr : RR p m out) (hr : Can p m r) (hm : m ≤ 1000000) (ho : out.length ≤ 1000000) : cf152 (p, out, r, ()) = some (rest p out r, ()) :=
  if_pos ⟨hp, by rw [hr.len]; exact rr, by rw [hr.len]; exact hr, by rw [hr.len]; exact hm, ho⟩

end Go.Proofs.YtkoifikjfnbcpaaEv
