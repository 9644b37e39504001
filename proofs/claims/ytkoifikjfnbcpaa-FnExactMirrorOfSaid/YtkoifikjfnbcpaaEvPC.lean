/- The reduced list, as the reference computes it. -/
import Derived.Test.YtkoifikjfnbcpaaEvPB
set_option linter.unusedVariables false
set_option linter.unusedSimpArgs false
namespace Go.Proofs.YtkoifikjfnbcpaaEv
open Go Go.RowKit

theorem split_len {a b : List Int} {i : Nat} (h : a.length = b.length) (hi : i ≤ a.length) : (a.take i ++ b.drop i).length = a.length := by simp; omega
theorem split_get {a b : List Int} {i : Nat} (h : a.length = b.length) (hi : i < a.length) : (a.take i ++ b.drop i).getD i 0 = el b i := by
  simp only [el, List.getD_eq_getElem?_getD]
  rw [List.getElem?_append_right (by simp; omega), List.length_take, Nat.min_eq_left (by omega), List.getElem?_drop]
  simp
theorem split_set {a b : List Int} {i : Nat} (h : a.length = b.length) (hi : i < a.length) : (a.take i ++ b.drop i).set i (el a i) = a.take (i + 1) ++ b.drop (i + 1) := by
  rw [take_snoc hi, ← el_get hi, List.set_append_right _ _ (by simp; omega)]
  rw [List.length_take, Nat.min_eq_left (by omega), Nat.sub_self, List.append_assoc]
  congr 1
  rw [List.drop_eq_getElem_cons (show i < b.length by omega)]
  rfl

theorem scale_loop {p c : Int} {m : Nat} {own : List Int} (hp : 2 ≤ p ∧ p ≤ 13) (hc : 0 ≤ c ∧ c < p) (h1 : Can p m own) (hm : m ≤ 1000000) {F0 F : Nat} (hF : m < F) {rows out : List (List Int)} {i at_ : Int} {kx : ShVal sh108_10 → Option R108} :
    iter (fun s k => st108_10 cf153 cf75 cf154 cf152 F0 s k kx) F ((p, ()), ((rows, ()), ((out, ()), ((i, ()), ((own, ()), ((at_, ()), ((c, ()), (((0 : Int), ()), ())))))))) =
      kx ((p, ()), ((rows, ()), ((out, ()), ((i, ()), ((scl p c own, ()), ((at_, ()), ((c, ()), ((((m : Nat) : Int), ()), ())))))))) := by
  have hl : (scl p c own).length = own.length := scl_len
  have lw := h1.len
  have key := iter_run (step := fun s k => st108_10 cf153 cf75 cf154 cf152 F0 s k kx) (r := kx ((p, ()), ((rows, ()), ((out, ()), ((i, ()), ((scl p c own, ()), ((at_, ()), ((c, ()), ((((m : Nat) : Int), ()), ())))))))))
    m F (fun j => ((p, ()), ((rows, ()), ((out, ()), ((i, ()), ((((scl p c own).take j ++ own.drop j), ()), ((at_, ()), ((c, ()), (((j : Int), ()), ()))))))))) hF (fun j hj k => ?_) (fun k => ?_)
  · simpa using key
  · have l1 := split_len (i := j) hl (by omega)
    have g1 := split_get (i := j) hl (by omega)
    have s1 := split_set (i := j) hl (by omega)
    have z := h1.rng j
    have z2 := sq_rng (p := p) (by omega) z.1 z.2 hc.1 hc.2
    have e : Int.tmod (el own j * c) p = el (scl p c own) j := by rw [Int.tmod_eq_emod_of_nonneg z2.1, el_scl]
    rw [← s1]
    generalize (scl p c own).take j ++ own.drop j = L at *
    simp (disch := omega) only [st108_10, dln_t, cond_true, ofn, dlt_t, ib_t, tn_cast, deq_f, Bool.not_false, g1, e, w6_id]
    rfl
  · rw [show (scl p c own).take m ++ own.drop m = scl p c own by rw [← lw, List.drop_length, List.append_nil, ← hl, List.take_length]]
    simp (disch := omega) only [st108_10, dln_t, cond_true, ofn, dlt_f, cond_false]

def anyG (at_ : Nat) (L : List (List Int)) : Bool := L.any fun o => decide (at_ < ld o)
def nextL (p : Int) (own : List Int) (at_ : Nat) (L : List (List Int)) : List (List Int) := bif anyG at_ L then ins p own at_ L else L.map (red p own at_)
theorem anyG_snoc {at_ : Nat} {L : List (List Int)} {o : List Int} : anyG at_ (L ++ [o]) = (anyG at_ L || decide (at_ < ld o)) := by simp [anyG]
theorem ins_none {p : Int} {own : List Int} {at_ : Nat} : ∀ {L : List (List Int)}, anyG at_ L = false → ins p own at_ L = L.map (red p own at_) ++ [own]
  | [], _ => rfl
  | o :: os, h => by
    simp only [anyG, List.any_cons, Bool.or_eq_false_iff, decide_eq_false_iff_not] at h
    simp only [ins, if_neg h.1, List.map_cons, List.cons_append]
    rw [ins_none (L := os) h.2]
theorem ins_put {p : Int} {own o : List Int} {at_ : Nat} : ∀ {L : List (List Int)}, anyG at_ L = true → ins p own at_ (L ++ [o]) = ins p own at_ L ++ [red p own at_ o]
  | [], h => by simp [anyG] at h
  | x :: os, h => by
    simp only [List.cons_append, ins]
    by_cases q : at_ < ld x
    · simp [if_pos q]
    · simp only [if_neg q, List.cons_append]
      simp only [anyG, List.any_cons, decide_eq_false q, Bool.false_or] at h
      rw [ins_put (L := os) h]
theorem ins_now {p : Int} {own o : List Int} {at_ : Nat} (ho : at_ < ld o) : ∀ {L : List (List Int)}, anyG at_ L = false → ins p own at_ (L ++ [o]) = L.map (red p own at_) ++ [own] ++ [red p own at_ o]
  | [], _ => by simp [ins, if_pos ho]
  | x :: os, h => by
    simp only [anyG, List.any_cons, Bool.or_eq_false_iff, decide_eq_false_iff_not] at h
    simp only [List.cons_append, ins, if_neg h.1, List.map_cons]
    rw [ins_now ho (L := os) h.2]
theorem nextL_len {p : Int} {own : List Int} {at_ : Nat} {L : List (List Int)} : (nextL p own at_ L).length ≤ L.length + 1 := by
  unfold nextL
  cases anyG at_ L with
  | true => simp [ins_len]
  | false => simp

theorem put_loop {p : Int} {m at_ : Nat} {own : List Int} {out : List (List Int)} (hp : 2 ≤ p ∧ p ≤ 13) (w : Own p m own at_ out) (rr : RR p m out) (hm : m ≤ 1000000) (ho : out.length ≤ 1000000) {F0 F : Nat} (hF : out.length < F) {rows : List (List Int)} {i : Int} {kx : ShVal sh108_15 → Option R108} :
    iter (fun s k => st108_15 cf153 cf75 cf154 cf152 F0 s k kx) F ((p, ()), ((rows, ()), ((out, ()), ((i, ()), ((own, ()), (((at_ : Int), ()), (([], ()), ((false, ()), (((0 : Int), ()), ()))))))))) =
      kx ((p, ()), ((rows, ()), ((out, ()), ((i, ()), ((own, ()), (((at_ : Int), ()), ((nextL p own at_ out, ()), ((anyG at_ out, ()), ((((out.length : Nat) : Int), ()), ()))))))))) := by
  have key := iter_run (step := fun s k => st108_15 cf153 cf75 cf154 cf152 F0 s k kx) (r := kx ((p, ()), ((rows, ()), ((out, ()), ((i, ()), ((own, ()), (((at_ : Int), ()), ((nextL p own at_ out, ()), ((anyG at_ out, ()), ((((out.length : Nat) : Int), ()), ()))))))))))
    out.length F (fun j => ((p, ()), ((rows, ()), ((out, ()), ((i, ()), ((own, ()), (((at_ : Int), ()), ((nextL p own at_ (out.take j), ()), ((anyG at_ (out.take j), ()), (((j : Int), ()), ())))))))))) hF (fun j hj k => ?_) (fun k => ?_)
  · simpa [nextL, anyG] using key
  · have ho1 : out.getD j [] = out[j] := by simp [List.getD_eq_getElem?_getD, List.getElem?_eq_getElem hj]
    have hmem : out[j] ∈ out := List.getElem_mem hj
    have co := rr.can _ hmem
    have lo := rr.lt _ hmem
    have l1 : (nextL p own at_ (out.take j)).length ≤ 1000001 := by
      have := nextL_len (p := p) (own := own) (at_ := at_) (L := out.take j)
      simp at this; omega
    have hn : nextL p own at_ (out.take (j + 1)) = if anyG at_ (out.take j) = false ∧ at_ < ld out[j] then nextL p own at_ (out.take j) ++ [own] ++ [red p own at_ out[j]] else nextL p own at_ (out.take j) ++ [red p own at_ out[j]] := by
      rw [take_snoc hj]
      unfold nextL
      rw [anyG_snoc]
      cases hg : anyG at_ (out.take j) with
      | true => simp only [Bool.true_or, cond_true]; rw [ins_put hg]; simp
      | false =>
        by_cases q : at_ < ld out[j]
        · rw [decide_eq_true q]; simp only [Bool.false_or, cond_true, cond_false]; rw [ins_now q hg, if_pos ⟨trivial, q⟩]
        · rw [decide_eq_false q]; simp only [Bool.false_or, cond_false]; rw [if_neg (fun h => q h.2), List.map_append]; rfl
    have hb : anyG at_ (out.take (j + 1)) = (anyG at_ (out.take j) || decide (at_ < ld out[j])) := by rw [take_snoc hj, anyG_snoc]
    rw [hn, hb]
    have g1 := g153_ok (l := out[j]) (by rw [co.len]; exact hm)
    rw [ldI_lt co.len lo] at g1
    have g2 : cf154 (p, out[j], own, out[j].getD at_ 0, ()) = some (red p own at_ out[j], ()) := g154_ok hp (co.rng at_) co w.can hm
    have lc := co.len
    have lt := w.lt
    generalize nextL p own at_ (out.take j) = N at *
    generalize anyG at_ (out.take j) = G at *
    clear hn hb
    generalize out[j] = o at *
    cases G with
    | true =>
      rw [if_neg (fun h => by cases h.1)]
      simp (disch := omega) only [st108_15, dln_t, cond_true, ofn, dlt_t, ib_t, tn_cast, Bool.not_true, cond_false, ho1, g2, grow_t, List.length_singleton, w6_id]
      rfl
    | false =>
      by_cases q : at_ < ld o
      · rw [if_pos ⟨rfl, q⟩, decide_eq_true q]
        simp (disch := first | omega | (simp only [List.length_append, List.length_singleton]; omega)) only [st108_15, dln_t, cond_true, ofn, dlt_t, ib_t, tn_cast, Bool.not_false, g1, ho1, g2, grow_t, List.length_singleton, w6_id]
        rfl
      · rw [if_neg (fun h => q h.2), decide_eq_false q]
        simp (disch := omega) only [st108_15, dln_t, cond_true, ofn, dlt_t, dlt_f, cond_false, ib_t, tn_cast, Bool.not_false, g1, ho1, g2, grow_t, List.length_singleton, w6_id]
        rfl
  · rw [List.take_length]
    simp (disch := omega) only [st108_15, dln_t, cond_true, ofn, dlt_f, cond_false]

theorem ech_snoc {p : Int} {a : List (List Int)} {r : List Int} : ech p (a ++ [r]) = stepR p (ech p a) r := by simp [ech, List.foldl_append]
theorem stepR_len {p : Int} {out : List (List Int)} {r : List Int} : (stepR p out r).length ≤ out.length + 1 := by
  unfold stepR; split
  · omega
  · rw [ins_len]; exact Nat.le_refl _
theorem fold_len {p : Int} : ∀ {rows out : List (List Int)}, (rows.foldl (stepR p) out).length ≤ out.length + rows.length
  | [], out => Nat.le_refl _
  | r :: rs, out => by
    have h1 := fold_len (p := p) (rows := rs) (out := stepR p out r)
    have h2 := stepR_len (p := p) (out := out) (r := r)
    simp only [List.foldl_cons, List.length_cons]; omega
theorem ech_len {p : Int} {rows : List (List Int)} : (ech p rows).length ≤ rows.length := by
  have := fold_len (p := p) (rows := rows) (out := []); simpa [ech] using this

theorem g75_ok {p x : Int} (h : (2 ≤ p ∧ p ≤ 13) ∧ (-1000000000000 ≤ x ∧ x ≤ 1000000000000)) : cf75 (p, x, ()) = some (inv p x, ()) := if_pos h

theorem run108 {p : Int} {m : Nat} {rows : List (List Int)} (hP : isP p = true) (hr : ∀ r ∈ rows, Can p m r) (hm : m ≤ 1000000) (hn : rows.length ≤ 500000) {F : Nat} (hF : m + rows.length + 1 < F) : fn108 cf153 cf75 cf154 cf152 F (p, rows, ()) = some (ech p rows, ()) := by
  have hp := isP_pos hP
  simp only [fn108, ru108_3]
  have key := iter_run (step := fun s k => st108_3 cf153 cf75 cf154 cf152 F s k (fun s' => match s' with | ((t0, _), (t1, _), (t5, _), (t6, _), _) => (some (t5, ())))) (r := some (ech p rows, ())) rows.length F (fun i => ((p, ()), ((rows, ()), ((ech p (rows.take i), ()), (((i : Int), ()), ()))))) (by omega) (fun i hi k => ?_) (fun k => ?_)
  · simpa [ech] using key
  · have hr1 : rows.getD i [] = rows[i] := by simp [List.getD_eq_getElem?_getD, List.getElem?_eq_getElem hi]
    have cr := hr _ (List.getElem_mem hi)
    have rr : RR p m (ech p (rows.take i)) := ech_RR hP fun r h => hr r (List.mem_of_mem_take h)
    have lo : (ech p (rows.take i)).length ≤ i := by have := ech_len (p := p) (rows := rows.take i); simp at this; omega
    rw [take_snoc hi, ech_snoc]
    generalize ech p (rows.take i) = out at *
    generalize rows[i] = r at *
    have g1 := g152_ok hp rr cr hm (by omega)
    have co := rest_can (p := p) (m := m) (by omega) rr.can cr
    have g2 := g153_ok (l := rest p out r) (by rw [co.len]; exact hm)
    have lw := co.len
    have hle := ld_le (rest p out r)
    by_cases q : ld (rest p out r) = (rest p out r).length
    · have e1 : stepR p out r = out := by unfold stepR; rw [if_pos q]
      have e2 : ldI (rest p out r) = -1 := by unfold ldI; rw [if_pos q]
      rw [e2] at g2
      rw [e1]
      simp (disch := omega) only [st108_3, dln_t, cond_true, ofn, dlt_t, ib_t, tn_cast, hr1, g1, g2, w6_id]
      rfl
    · have e2 : ldI (rest p out r) = (ld (rest p out r) : Int) := by unfold ldI; rw [if_neg q]
      rw [e2] at g2
      have w := own_of hP rr cr q
      have e1 : stepR p out r = ins p (scl p (inv p (el (rest p out r) (ld (rest p out r)))) (rest p out r)) (ld (rest p out r)) out := by unfold stepR; rw [if_neg q]
      rw [e1]
      have z := co.rng (ld (rest p out r))
      have g3 : cf75 (p, (rest p out r).getD (ld (rest p out r)) 0, ()) = some (inv p (el (rest p out r) (ld (rest p out r))), ()) := g75_ok (by simp only [el] at z; omega)
      have hi2 := (inv_ok hP (x := el (rest p out r) (ld (rest p out r))) (by rw [co.mod]; exact ld_ne _ (by omega))).1
      generalize ld (rest p out r) = at_ at *
      generalize rest p out r = own at *
      generalize inv p (el own at_) = c at *
      have L1 := fun kx => scale_loop (F0 := F) (F := F) (rows := rows) (out := out) (i := (i : Int)) (at_ := (at_ : Int)) (kx := kx) hp ⟨by omega, hi2.2⟩ co hm (by omega)
      have L2 := fun kx => put_loop (F0 := F) (F := F) (rows := rows) (i := (i : Int)) (kx := kx) hp w rr hm (by omega) (by omega)
      have ln := nextL_len (p := p) (own := scl p c own) (at_ := at_) (L := out)
      simp (disch := omega) only [st108_3, dln_t, cond_true, ofn, dlt_t, dlt_f, cond_false, ib_t, tn_cast, hr1, g1, g2, g3, ru108_10, ru108_15, L1, L2]
      unfold nextL at ln ⊢
      cases hg : anyG at_ out with
      | true =>
        simp (disch := omega) only [Bool.not_true, cond_false, cond_true, w6_id]
        rfl
      | false =>
        rw [hg] at ln
        simp only [cond_false] at ln
        rw [ins_none hg]
        simp (disch := first | omega | (simp only [List.length_singleton]; omega)) only [Bool.not_false, cond_false, cond_true, grow_t, List.length_singleton, w6_id]
        rfl
  · rw [List.take_length]
    simp (disch := omega) only [st108_3, dln_t, cond_true, ofn, dlt_f, cond_false]
open Classical in
noncomputable def c108 (p : Int) (rows : List (List Int)) : Option (List (List Int) × Unit) := if isP p = true ∧ (∃ m, m ≤ 1000000 ∧ ∀ r ∈ rows, Can p m r) ∧ rows.length ≤ 500000 then some (ech p rows, ()) else none
noncomputable def cf108 : Args [.v i64, .v (.slice 24 (.slice 2 i64))] → Option R108 := fun x => c108 x.1 x.2.1
theorem k108 : KOne Try.prog 108 ⟨[.v i64, .v (.slice 24 (.slice 2 i64))], [.slice 24 (.slice 2 i64)], false, false, 0, cf108⟩ := ok108 _ _ _ _ (.cons k153 (.cons k75 (.cons k154 (.cons k152 .nil)))) cf108 fun x y h => by
  obtain ⟨p, rows, _⟩ := x
  simp only [cf108, c108] at h
  split at h
  · rename_i hc
    injection h with h; subst h
    obtain ⟨h1, ⟨m, h2, h3⟩, h4⟩ := hc
    exact ⟨_, run108 h1 h3 h2 h4 (Nat.lt_succ_self _)⟩
  · cases h
theorem g108_ok {p : Int} {m : Nat} {rows : List (List Int)} (hP : isP p = true) (hr : ∀ r ∈ rows, Can p m r) (hm : m ≤ 1000000) (hn : rows.length ≤ 500000) : cf108 (p, rows, ()) = some (ech p rows, ()) := if_pos ⟨hP, ⟨m, hm, hr⟩, hn⟩

end Go.Proofs.YtkoifikjfnbcpaaEv
