/- What the program's row reduction computes. -/
import Derived.Test.YtkoifikjfnbcpaaEvPRa
import Derived.Test.YtkoifikjfnbcpaaEvME
import Derived.Test.YtkoifikjfnbcpaaEvSh
import Derived.Test.YtkoifikjfnbcpaaEvFr
set_option linter.unusedVariables false
set_option linter.unusedSimpArgs false
namespace Go.Proofs.YtkoifikjfnbcpaaEv
open Go Go.RowKit

def cf178 : G178 := fn178 0
theorem k178 : KOne Try.prog 178 ⟨[.v i64], [.bool], false, false, 0, cf178⟩ := ok178 .nil cf178 fun x y h => ⟨0, h⟩
theorem g178_ok (a : Int) : cf178 (a, ()) = some (!decide (a = 0), ()) := rfl
def c177 (l : List Int) : Option (Int × Unit) := if l.length ≤ 1000000 then some (ldI l, ()) else none
def cf177 : G177 := fun x => c177 x.1
theorem k177 : KOne Try.prog 177 ⟨[.v (.slice 2 i64), .fn 178], [i64], false, false, 0, cf177⟩ := ok177 _ (.cons k178 .nil) cf177 fun x y h => by
  obtain ⟨l, _, _⟩ := x
  simp only [cf177, c177] at h
  split at h
  · rename_i hc
    injection h with h; subst h
    have hle := ld_le l
    refine ⟨l.length + 1, ?_⟩
    simp (disch := omega) only [fn177, ru177_2, dln_t, cond_true, ofn]
    refine iter_run (ld l) _ (fun i => ((l, ()), ((), (((l.length : Int), ()), ((i : Int), ()), ())))) (by omega) (fun i hi k => ?_) (fun k => ?_)
    · have h0 : l.getD i 0 = 0 := ld_zero l i hi
      simp (disch := omega) only [st177_2, ofn, dlt_t, ib_t, tn_cast, cond_true, h0, g178_ok, deq_t, Bool.not_true, cond_false, w6_id]
      rfl
    · by_cases q : ld l = l.length
      · simp (disch := omega) only [st177_2, dlt_f, cond_false, ldI, if_pos q]
      · have hne : l.getD (ld l) 0 ≠ 0 := ld_ne l (by omega)
        have g : cf178 (l.getD (ld l) 0, ()) = some (true, ()) := by rw [g178_ok, deq_f hne]; rfl
        simp (disch := omega) only [st177_2, ofn, dlt_t, ib_t, tn_cast, cond_true, g, ldI, if_neg q]
  · cases h
def cf157 : G157 := fn157 cf177 0
theorem k157 : KOne Try.prog 157 ⟨[.v (.slice 2 i64)], [i64], false, false, 0, cf157⟩ := ok157 _ (.cons k177 .nil) cf157 fun x y h => ⟨0, h⟩
theorem g157_ok {l : List Int} (h : l.length ≤ 1000000) : cf157 (l, ()) = some (ldI l, ()) := by
  have : cf177 (l, (), ()) = some (ldI l, ()) := if_pos h
  simp only [cf157, fn157, this]
theorem g91_ok {l : List Int} (h : l.length ≤ 1000000) : cf91 (l, ()) = some (l, ()) := if_pos h

theorem run79 {p x : Int} (hp : 2 ≤ p ∧ p ≤ 13) (hx : 0 ≤ x ∧ x < p) {F0 : Nat} : ∀ (f F : Nat) (k : Int), 1 ≤ k → p - k < f → f < F →
    iter (fun s k => st79_2 F0 s k (fun s' => match s' with | ((t0, _), (t1, _), (t5, _), _) => (some ((0 : Int), ())))) F ((x, ()), ((p, ()), ((k, ()), ()))) = some (invA p (x % p) f k, ())
  | 0, F, k, h1, h2, h3 => by
    obtain ⟨F, rfl⟩ : ∃ f, F = f + 1 := ⟨F - 1, by omega⟩
    simp (disch := omega) only [iter, st79_2, dlt_f, cond_false, invA]
  | f + 1, F, k, h1, h2, h3 => by
    obtain ⟨F, rfl⟩ : ∃ f, F = f + 1 := ⟨F - 1, by omega⟩
    have r : x % p = x := Int.emod_eq_of_lt hx.1 hx.2
    by_cases q : k < p
    · have s := sq_rng (p := p) (by omega) hx.1 hx.2 (show 0 ≤ k by omega) q
      have e : Int.tmod (w6 (x * k)) p = k * (x % p) % p := by rw [w6_id (by omega) (by omega), Int.tmod_eq_emod_of_nonneg s.1, r, Int.mul_comm]
      have ih := fun k h1 h2 => run79 hp hx (F0 := F0) f F k h1 h2 (by omega)
      simp only [iter]
      generalize iter _ F = G at ih ⊢
      simp (disch := omega) only [st79_2, dlt_t, cond_true, deq_f, Bool.not_false, e]
      by_cases z : k * (x % p) % p = 1
      · rw [decide_eq_true z]; simp only [cond_true, invA, if_pos q, if_pos z]
      · rw [decide_eq_false z]
        simp (disch := omega) only [cond_false, w6_id]
        rw [ih (k + 1) (by omega) (by omega)]
        simp only [invA, if_pos q, if_neg z]
    · simp (disch := omega) only [iter, st79_2, dlt_f, cond_false, invA, if_neg q]
def c79 (x p : Int) : Option (Int × Unit) := if (2 ≤ p ∧ p ≤ 13) ∧ (0 ≤ x ∧ x < p) then some (inv p x, ()) else none
def cf79 : G79 := fun x => c79 x.1 x.2.1
theorem k79 : KOne Try.prog 79 ⟨[.v i64, .v i64], [i64], false, false, 0, cf79⟩ := ok79 .nil cf79 fun x y h => by
  obtain ⟨a, p, _⟩ := x
  simp only [cf79, c79] at h
  split at h
  · rename_i hc
    injection h with h; subst h
    exact ⟨20, run79 hc.1 hc.2 13 20 1 (by omega) (by omega) (by omega)⟩
  · cases h
theorem g79_ok {x p : Int} (hp : 2 ≤ p ∧ p ≤ 13) (hx : 0 ≤ x ∧ x < p) : cf79 (x, p, ()) = some (inv p x, ()) := if_pos ⟨hp, hx⟩

theorem less_el {p n x a : Int} (hp : 2 ≤ p ∧ p ≤ 13) (hx : 0 ≤ x ∧ x < p) (hn : 0 ≤ n ∧ n < p) (ha : 0 ≤ a ∧ a < p) : Int.tmod (w6 (x + w6 (w6 (p - n) * a))) p = (x - n * a) % p := by
  have h1 : w6 (p - n) = p - n := w6_id (by omega) (by omega)
  have s := mul_rng (a := p - n) (b := a) (c := 14) (d := 14) (by omega) (by omega) ha.1 (by omega)
  rw [h1, w6_id (x := (p - n) * a) (by omega) (by omega), w6_id (by omega) (by omega), Int.tmod_eq_emod_of_nonneg (by omega)]
  have : x + (p - n) * a = x - n * a + p * a := by rw [Int.sub_mul]; omega
  rw [this, Int.add_mul_emod_self_left]

theorem less_in {p n : Int} {m : Nat} {r o : List Int} (hp : 2 ≤ p ∧ p ≤ 13) (hn : 0 ≤ n ∧ n < p) (h1 : Can p m r) (h2 : Can p m o) (hm : m ≤ 1000000) {F0 F : Nat} (hF : m < F) {out : List (List Int)} {a b : Int} {kx : ShVal sh156_8 → Option R156} :
    iter (fun s k => st156_8 cf91 cf157 F0 s k kx) F ((p, ()), ((r, ()), ((n, ()), ((out, ()), ((a, ()), ((b, ()), ((o, ()), (((m : Int), ()), (((0 : Int), ()), ()))))))))) =
      kx ((p, ()), ((subm p n r o, ()), ((n, ()), ((out, ()), ((a, ()), ((b, ()), ((o, ()), (((m : Int), ()), (((m : Int), ()), ()))))))))) := by
  have l1 := h1.len
  have l2 := h2.len
  have l3 : (subm p n r o).length = r.length := subm_len (by omega)
  have key := iter_run (step := fun s k => st156_8 cf91 cf157 F0 s k kx) (r := kx ((p, ()), ((subm p n r o, ()), ((n, ()), ((out, ()), ((a, ()), ((b, ()), ((o, ()), (((m : Int), ()), (((m : Int), ()), ()))))))))))
    m F (fun i => ((p, ()), (((subm p n r o).take i ++ r.drop i, ()), ((n, ()), ((out, ()), ((a, ()), ((b, ()), ((o, ()), (((m : Int), ()), (((i : Int), ()), ())))))))))) hF (fun i hi k => ?_) (fun k => ?_)
  · simpa using key
  · have z1 := split_len (i := i) l3 (by omega)
    have g1 := split_get (i := i) l3 (by omega)
    have s1 := split_set (i := i) l3 (by omega)
    have e := less_el hp (h1.rng i) hn (h2.rng i)
    rw [← el_subm (by omega)] at e
    rw [← s1]
    generalize (subm p n r o).take i ++ r.drop i = L at *
    have go : o.getD i 0 = el o i := rfl
    have wi : w6 ((i : Int) + 1) = ((i + 1 : Nat) : Int) := by rw [w6_id (by omega) (by omega)]; rfl
    simp (disch := omega) only [st156_8, ofn, dlt_t, cond_true, ib_t, tn_cast, deq_f, Bool.not_false, g1, go, e, wi]
  · rw [show (subm p n r o).take m ++ r.drop m = subm p n r o by rw [← l1, List.drop_length, List.append_nil, ← l3, List.take_length]]
    simp (disch := omega) only [st156_8, dlt_f, cond_false]

theorem run156 {p : Int} {m : Nat} {out : List (List Int)} {r : List Int} (hp : 2 ≤ p ∧ p ≤ 13) (hc : ∀ o ∈ out, Can p m o ∧ ld o < m) (hr : Can p m r) (hm : m ≤ 1000000) (ho : out.length ≤ 1000000) : fn156 cf91 cf157 (out.length + m + 1) (p, out, r, ()) = some (rest p out r, ()) := by
  simp only [fn156, ru156_3]
  rw [g91_ok (by rw [hr.len]; exact hm)]
  simp (disch := omega) only [dln_t, cond_true, ofn]
  have key := iter_run (step := fun s k => st156_3 cf91 cf157 (out.length + m + 1) s k (fun s' => match s' with | ((t0, _), (t2, _), (t14, _), (t15, _), (t16, _), _) => (some (t2, ())))) (r := some (rest p out r, ())) out.length (out.length + m + 1) (fun i => ((p, ()), ((rest p (out.take i) r, ()), ((out, ()), (((out.length : Int), ()), (((i : Int), ()), ())))))) (by omega) (fun i hi kk => ?_) (fun kk => ?_)
  · simpa [rest] using key
  · have ho1 : out.getD i [] = out[i] := by simp [List.getD_eq_getElem?_getD, List.getElem?_eq_getElem hi]
    have hmem : out[i] ∈ out := List.getElem_mem hi
    have co := (hc _ hmem).1
    have lo := (hc _ hmem).2
    have cr : Can p m (rest p (out.take i) r) := rest_can (by omega) (fun o h => (hc o (List.mem_of_mem_take h)).1) hr
    rw [show List.take (i + 1) out = List.take i out ++ [out[i]] from take_snoc hi, rest_snoc]
    generalize rest p (List.take i out) r = own at *
    generalize out[i] = o at *
    have g1 := g157_ok (l := o) (by rw [co.len]; exact hm)
    rw [ldI_lt co.len lo] at g1
    have lw := cr.len
    have lo2 := co.len
    have z := cr.rng (ld o)
    by_cases q : el own (ld o) = 0
    · have q' : own.getD (ld o) 0 = 0 := q
      rw [q, subm_zero cr co.len]
      simp (disch := omega) only [st156_3, cond_true, ofn, dlt_t, ib_t, tn_cast, ho1, g1, q', decide_true, Bool.not_true, cond_false, w6_id]
      rfl
    · have q' : own.getD (ld o) 0 ≠ 0 := q
      have li := less_in hp z cr co hm (F0 := out.length + m + 1) (F := out.length + m + 1) (by omega) (out := out) (a := (out.length : Int)) (b := (i : Int)) (kx := fun s' => match s' with | ((t0, _), (t2, _), (t9, _), (t14, _), (t15, _), (t16, _), (t27, _), (t28, _), (t29, _), _) => kk ((t0, ()), ((t2, ()), ((t14, ()), ((t15, ()), (((w6 (t16 + (1 : Int))), ()), ()))))))
      have ge : own.getD (ld o) 0 = el own (ld o) := rfl
      simp (disch := first | omega | exact q') only [st156_3, cond_true, ofn, dlt_t, ib_t, tn_cast, ho1, g1, deq_f, Bool.not_false, dln_t, lo2, ru156_8]
      rw [ge, li]
      simp (disch := omega) only [w6_id]
      rfl
  · rw [List.take_length]
    simp (disch := omega) only [st156_3, dlt_f, cond_false]
open Classical in
noncomputable def c156 (p : Int) (out : List (List Int)) (r : List Int) : Option (List Int × Unit) := if (2 ≤ p ∧ p ≤ 13) ∧ (∀ o ∈ out, Can p r.length o ∧ ld o < r.length) ∧ Can p r.length r ∧ r.length ≤ 1000000 ∧ out.length ≤ 1000000 then some (rest p out r, ()) else none
noncomputable def cf156 : G156 := fun x => c156 x.1 x.2.1 x.2.2.1
theorem k156 : KOne Try.prog 156 ⟨[.v i64, .v (.slice 24 (.slice 2 i64)), .v (.slice 2 i64)], [.slice 2 i64], true, false, 0, cf156⟩ := ok156 _ _ (.cons k91 (.cons k157 .nil)) cf156 fun x y h => by
  obtain ⟨p, out, r, _⟩ := x
  simp only [cf156, c156] at h
  split at h
  · rename_i hc
    injection h with h; subst h
    exact ⟨_, run156 hc.1 hc.2.1 hc.2.2.1 hc.2.2.2.1 hc.2.2.2.2⟩
  · cases h
theorem g156_ok {p : Int} {m : Nat} {out : List (List Int)} {r : List Int} (hp : 2 ≤ p ∧ p ≤ 13) (hc : ∀ o ∈ out, Can p m o ∧ ld o < m) (hr : Can p m r) (hm : m ≤ 1000000) (ho : out.length ≤ 1000000) : cf156 (p, out, r, ()) = some (rest p out r, ()) :=
  if_pos ⟨hp, by rw [hr.len]; exact hc, by rw [hr.len]; exact hr, by rw [hr.len]; exact hm, ho⟩

end Go.Proofs.YtkoifikjfnbcpaaEv
