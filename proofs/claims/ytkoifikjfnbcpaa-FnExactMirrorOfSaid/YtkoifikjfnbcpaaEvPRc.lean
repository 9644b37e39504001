/- The program's row reduction as a whole: the reduced list. -/
import Derived.Test.YtkoifikjfnbcpaaEvPRb
set_option linter.unusedVariables false
set_option linter.unusedSimpArgs false
namespace Go.Proofs.YtkoifikjfnbcpaaEv
open Go Go.RowKit

theorem scale_in {p c : Int} {m : Nat} {own : List Int} (hp : 2 ≤ p ∧ p ≤ 13) (hc : 0 ≤ c ∧ c < p) (h1 : Can p m own) (hm : m ≤ 1000000) {g156 : G156} {g79 : G79} {g157 : G157} {F0 F : Nat} (hF : m < F) {out : List (List Int)} {kx : ShVal sh172_7 → Option R172} :
    iter (fun s k => st172_7 g156 g79 g157 F0 s k kx) F ((p, ()), ((out, ()), ((own, ()), ((c, ()), (((m : Int), ()), (((0 : Int), ()), ())))))) =
      kx ((p, ()), ((out, ()), ((scl p c own, ()), ((c, ()), (((m : Int), ()), (((m : Int), ()), ())))))) := by
  have hl : (scl p c own).length = own.length := scl_len
  have lw := h1.len
  have key := iter_run (step := fun s k => st172_7 g156 g79 g157 F0 s k kx) (r := kx ((p, ()), ((out, ()), ((scl p c own, ()), ((c, ()), (((m : Int), ()), (((m : Int), ()), ())))))))
    m F (fun j => ((p, ()), ((out, ()), (((scl p c own).take j ++ own.drop j, ()), ((c, ()), (((m : Int), ()), (((j : Int), ()), ()))))))) hF (fun j hj k => ?_) (fun k => ?_)
  · simpa using key
  · have l1 := split_len (i := j) hl (by omega)
    have g1 := split_get (i := j) hl (by omega)
    have s1 := split_set (i := j) hl (by omega)
    have z := h1.rng j
    have z2 := sq_rng (p := p) (by omega) z.1 z.2 hc.1 hc.2
    have e : Int.tmod (w6 (el own j * c)) p = el (scl p c own) j := by rw [w6_id (by omega) (by omega), Int.tmod_eq_emod_of_nonneg z2.1, el_scl]
    rw [← s1]
    generalize (scl p c own).take j ++ own.drop j = L at *
    have wi : w6 ((j : Int) + 1) = ((j + 1 : Nat) : Int) := by rw [w6_id (by omega) (by omega)]; rfl
    simp (disch := omega) only [st172_7, cond_true, ofn, dlt_t, ib_t, tn_cast, deq_f, Bool.not_false, g1, e, wi]
  · rw [show (scl p c own).take m ++ own.drop m = scl p c own by rw [← lw, List.drop_length, List.append_nil, ← hl, List.take_length]]
    simp (disch := omega) only [st172_7, dlt_f, cond_false]

theorem split_getL {a b : List (List Int)} {i : Nat} (h : a.length = b.length) (hi : i < a.length) : (a.take i ++ b.drop i).getD i [] = b[i]'(by omega) := by
  simp only [List.getD_eq_getElem?_getD]
  rw [List.getElem?_append_right (by simp; omega), List.length_take, Nat.min_eq_left (by omega), List.getElem?_drop]
  simp [List.getElem?_eq_getElem (show i < b.length by omega)]
theorem split_setL {a b : List (List Int)} {i : Nat} (h : a.length = b.length) (hi : i < a.length) : (a.take i ++ b.drop i).set i a[i] = a.take (i + 1) ++ b.drop (i + 1) := by
  rw [take_snoc hi, List.set_append_right _ _ (by simp; omega)]
  rw [List.length_take, Nat.min_eq_left (by omega), Nat.sub_self, List.append_assoc]
  congr 1
  rw [List.drop_eq_getElem_cons (show i < b.length by omega)]
  rfl

theorem red_step {p : Int} {own o x : List Int} {L : List (List Int)} {n j : Nat} (hn : n ≤ 1000000) (hj : j < n) (l1 : L.length = n) (g1 : L.getD j [] = o) (g2 : cf156 (p, [own], o, ()) = some (x, ())) {F0 : Nat} {k kx : ShVal sh172_12 → Option R172} :
    st172_12 cf156 cf79 cf157 F0 ((p, ()), ((L, ()), ((own, ()), ((L, ()), (((n : Int), ()), (((j : Int), ()), ())))))) k kx = k ((p, ()), ((L.set j x, ()), ((own, ()), ((L.set j x, ()), (((n : Int), ()), ((((j + 1 : Nat) : Int), ()), ())))))) := by
  have wi : w6 ((j : Int) + 1) = ((j + 1 : Nat) : Int) := by rw [w6_id (by omega) (by omega)]; rfl
  simp (disch := omega) only [st172_12, cond_true, ofn, dlt_t, ib_t, tn_cast, g1, g2, wi]
theorem red_in {p : Int} {m at_ : Nat} {own : List Int} {out : List (List Int)} (hp : 2 ≤ p ∧ p ≤ 13) (ho : Can p m own) (hl : ld own = at_) (ht : at_ < m) (hc : ∀ o ∈ out, Can p m o) (hm : m ≤ 1000000) (hn : out.length ≤ 1000000) {F0 F : Nat} (hF : out.length < F) {kx : ShVal sh172_12 → Option R172} :
    iter (fun s k => st172_12 cf156 cf79 cf157 F0 s k kx) F ((p, ()), ((out, ()), ((own, ()), ((out, ()), (((out.length : Int), ()), (((0 : Int), ()), ())))))) =
      kx ((p, ()), ((out.map (red p own at_), ()), ((own, ()), ((out.map (red p own at_), ()), (((out.length : Int), ()), (((out.length : Int), ()), ())))))) := by
  have hlm : (out.map (red p own at_)).length = out.length := by simp
  have key := iter_run (step := fun s k => st172_12 cf156 cf79 cf157 F0 s k kx) (r := kx ((p, ()), ((out.map (red p own at_), ()), ((own, ()), ((out.map (red p own at_), ()), (((out.length : Int), ()), (((out.length : Int), ()), ())))))))
    out.length F (fun j => ((p, ()), (((out.map (red p own at_)).take j ++ out.drop j, ()), ((own, ()), (((out.map (red p own at_)).take j ++ out.drop j, ()), (((out.length : Int), ()), (((j : Int), ()), ()))))))) hF (fun j hj k => ?_) (fun k => ?_)
  · simpa using key
  · have l1 : ((out.map (red p own at_)).take j ++ out.drop j).length = out.length := by simp; omega
    have g1 := split_getL (i := j) hlm (by omega)
    have s1 := split_setL (i := j) hlm (by omega)
    have co := hc out[j] (List.getElem_mem hj)
    have g2 : cf156 (p, [own], out[j], ()) = some (red p own at_ out[j], ()) := by
      have := g156_ok (p := p) (out := [own]) (r := out[j]) hp (fun o h => by rw [List.mem_singleton.1 h]; exact ⟨ho, by rw [hl]; exact ht⟩) co hm (by simp)
      rw [this]
      simp only [rest, red, hl]
    have em : (out.map (red p own at_))[j]'(by simpa using hj) = red p own at_ out[j] := by simp
    rw [em] at s1
    rw [← s1]
    exact red_step (by omega) hj l1 g1 g2
  · rw [show (out.map (red p own at_)).take out.length ++ out.drop out.length = out.map (red p own at_) by rw [List.drop_length, List.append_nil, ← hlm, List.take_length]]
    simp (disch := omega) only [st172_12, dlt_f, cond_false]

theorem run172 {p : Int} {m : Nat} {out b : List (List Int)} {r : List Int} (hP : isP p = true) (hb : out.Perm b) (rr : RR p m b) (hr : Can p m r) (hm : m ≤ 1000000) (hn : out.length ≤ 500000) : fn172 cf156 cf79 cf157 (m + out.length + 1) (p, out, r, ()) = some (takeL p out r, ()) := by
  have hp := isP_pos hP
  have hc : ∀ o ∈ out, Can p m o ∧ ld o < m := fun o ho => ⟨rr.can o (hb.mem_iff.1 ho), rr.lt o (hb.mem_iff.1 ho)⟩
  have g1 := g156_ok (p := p) (out := out) (r := r) (by omega) hc hr hm (by omega)
  have cr : Can p m (rest p out r) := rest_can (by omega) (fun o h => (hc o h).1) hr
  have lr := cr.len
  simp only [fn172, g1]
  rw [g157_ok (by omega)]
  simp only
  unfold takeL
  by_cases q : ld (rest p out r) = (rest p out r).length
  · rw [if_pos q]
    simp (disch := omega) only [ldI, if_pos q, dlt_t, cond_true]
  · rw [if_neg q]
    have hle := ld_le (rest p out r)
    have w := own_of hP rr hr (by rw [← rest_perm (by omega) hb rr hr]; exact q)
    rw [← rest_perm (by omega) hb rr hr] at w
    have z := cr.rng (ld (rest p out r))
    have hne := ld_ne (rest p out r) (by omega)
    have hmod : el (rest p out r) (ld (rest p out r)) % p ≠ 0 := by rw [cr.mod]; exact hne
    obtain ⟨i1, i2⟩ := inv_ok hP hmod
    have g2 := g79_ok (p := p) (x := el (rest p out r) (ld (rest p out r))) (by omega) z
    have ge : (rest p out r).getD (ld (rest p out r)) 0 = el (rest p out r) (ld (rest p out r)) := rfl
    have e0 : ldI (rest p out r) = (ld (rest p out r) : Int) := ldI_of (by omega)
    simp (disch := omega) only [e0, dlt_f, cond_false, ib_t, ofn, tn_cast, cond_true, ge, g2, dln_t, lr, ru172_7]
    rw [scale_in (by omega) (by omega) cr hm (by omega)]
    simp (disch := omega) only [dln_t, cond_true, ofn, ru172_12]
    rw [red_in (by omega) w.can w.led w.lt (fun o ho => (hc o ho).1) hm (by omega) (by omega)]
    have ll : ((out.map (red p (scl p (inv p (el (rest p out r) (ld (rest p out r)))) (rest p out r)) (ld (rest p out r)))).length) = out.length := by simp
    simp (disch := omega) only [grow_t, ll, List.length_singleton, cond_true]
noncomputable def c172 (p : Int) (out : List (List Int)) (r : List Int) : Option (List (List Int) × Unit) := by
  classical exact if isP p = true ∧ (∃ b, out.Perm b ∧ RR p r.length b) ∧ Can p r.length r ∧ r.length ≤ 1000000 ∧ out.length ≤ 500000 then some (takeL p out r, ()) else none
noncomputable def cf172 : G172 := fun x => c172 x.1 x.2.1 x.2.2.1
theorem k172 : KOne Try.prog 172 ⟨[.v i64, .v (.slice 24 (.slice 2 i64)), .v (.slice 2 i64)], [.slice 24 (.slice 2 i64)], true, false, 2, cf172⟩ := ok172 _ _ _ (.cons k156 (.cons k79 (.cons k157 .nil))) cf172 fun x y h => by
  obtain ⟨p, out, r, _⟩ := x
  simp only [cf172, c172] at h
  split at h
  · rename_i hc
    injection h with h; subst h
    obtain ⟨h1, ⟨b, h2, h3⟩, h4, h5, h6⟩ := hc
    exact ⟨_, run172 h1 h2 h3 h4 h5 h6⟩
  · cases h
theorem g172_ok {p : Int} {m : Nat} {out b : List (List Int)} {r : List Int} (hP : isP p = true) (hb : out.Perm b) (rr : RR p m b) (hr : Can p m r) (hm : m ≤ 1000000) (hn : out.length ≤ 500000) : cf172 (p, out, r, ()) = some (takeL p out r, ()) :=
  if_pos ⟨hP, ⟨b, hb, by rw [hr.len]; exact rr⟩, by rw [hr.len]; exact hr, by rw [hr.len]; exact hm, hn⟩

def c174 (a b : List Int) : Option (Int × Unit) := if a.length ≤ 1000000 ∧ b.length ≤ 1000000 then some (ldI a - ldI b, ()) else none
def cf174 : G174 := fun x => c174 x.1 x.2.1
theorem ldI_rng {a : List Int} : -1 ≤ ldI a ∧ ldI a ≤ a.length := by
  have := ld_le a
  unfold ldI; split <;> omega
theorem k174 : KOne Try.prog 174 ⟨[.v (.slice 2 i64), .v (.slice 2 i64)], [i64], false, false, 0, cf174⟩ := ok174 _ (.cons k157 .nil) cf174 fun x y h => by
  obtain ⟨a, b, _⟩ := x
  simp only [cf174, c174] at h
  split at h
  · rename_i hc
    injection h with h; subst h
    have r1 := ldI_rng (a := a)
    have r2 := ldI_rng (a := b)
    refine ⟨0, ?_⟩
    simp only [fn174, g157_ok hc.1, g157_ok hc.2]
    rw [w6_id (by omega) (by omega)]
  · cases h
noncomputable def cf173 : G173 := by
  classical exact fun x => if x.1.length ≤ 1000000 ∧ (∀ r ∈ x.1, r.length ≤ 1000000) ∧ (x.1.map ldI).Nodup then some (sortK ldI x.1, ()) else none
theorem k173 : KOne Try.prog 173 ⟨[.v (.slice 24 (.slice 2 i64)), .fn 174], [.slice 24 (.slice 2 i64)], false, false, 1, cf173⟩ := by
  refine ⟨fun q => (by cases q), fun _ => ?_, fun q => (by cases q), Try.f173, Try.func173, by decide, rfl⟩
  have eg : ∀ args w, (callFunc 174 args).run Try.prog w = .ok (.enter 174 args) w := fun args w => by
    have := Try.func174
    simp only [callFunc, Sem.run_bind, run_program, Result.andThen_ok, this]
    rw [if_neg (by decide), if_neg (by decide)]; rfl
  exact sortRows_ok (ρ := Try.l173_ren) (good := fun r : List Int => r.length ≤ 1000000) (cf := fun a b : List Int => ldI a - ldI b) (key := ldI) (u := .slice 2 i64) Try.l173 rfl rfl (k174.ok rfl) (fun a b ha hb => if_pos ⟨ha, hb⟩) (fun a b _ _ => by omega) eg fun x y h => by
    simp only [cf173] at h
    split at h
    · rename_i hc
      injection h with h; subst h
      exact ⟨hc.1, hc.2.1, hc.2.2, rfl⟩
    · cases h
theorem g173_ok {l : List (List Int)} (h1 : l.length ≤ 1000000) (h2 : ∀ r ∈ l, r.length ≤ 1000000) (h3 : (l.map ldI).Nodup) : cf173 (l, (), ()) = some (sortK ldI l, ()) := if_pos ⟨h1, h2, h3⟩

theorem run145 {p : Int} {m : Nat} {rows : List (List Int)} (hP : isP p = true) (hr : ∀ r ∈ rows, Can p m r) (hm : m ≤ 1000000) (hn : rows.length ≤ 400000) : fn145 cf173 cf172 (rows.length + 1) (p, rows, ()) = some (ech p rows, ()) := by
  simp only [fn145, ru145_3]
  simp (disch := omega) only [dln_t, cond_true, ofn]
  have hp := isP_pos hP
  have key := iter_run (step := fun s k => st145_3 cf173 cf172 (rows.length + 1) s k (fun s' => match s' with | ((t0, _), (t5, _), (t9, _), (t10, _), (t11, _), _) => (match (cf173 (t5, ((), ()))) with | some r13 => (some ((bif ((Nat.beq 24 24) && ((Nat.beq 2 2) && true)) then r13.1 else []), ())) | none => none))) (r := some (ech p rows, ())) rows.length (rows.length + 1) (fun i => ((p, ()), (((rows.take i).foldl (takeL p) [], ()), ((rows, ()), (((rows.length : Int), ()), (((i : Int), ()), ())))))) (by omega) (fun i hi k => ?_) (fun k => ?_)
  · exact key
  · have ho1 : rows.getD i [] = rows[i] := by simp [List.getD_eq_getElem?_getD, List.getElem?_eq_getElem hi]
    have hcut : ∀ r ∈ rows.take i, Can p m r := fun r h => hr r (List.mem_of_mem_take h)
    have hpm : ((rows.take i).foldl (takeL p) []).Perm (ech p (rows.take i)) := fold_perm hP (.refl _) .nil hcut
    have hlen : ((rows.take i).foldl (takeL p) []).length ≤ i := by have := takes_len (p := p) (rows := rows.take i) (out := []); simp at this; omega
    have g := g172_ok hP hpm (ech_RR hP hcut) (hr rows[i] (List.getElem_mem hi)) hm (by omega)
    rw [show List.take (i + 1) rows = List.take i rows ++ [rows[i]] from take_snoc hi, List.foldl_append]
    simp only [List.foldl_cons, List.foldl_nil]
    generalize (rows.take i).foldl (takeL p) [] = L at *
    have wi : w6 ((i : Int) + 1) = ((i + 1 : Nat) : Int) := by rw [w6_id (by omega) (by omega)]; rfl
    simp (disch := omega) only [st145_3, cond_true, ofn, dlt_t, ib_t, tn_cast, ho1, g, wi]
  · rw [List.take_length]
    obtain ⟨e1, e2⟩ := sort_ech hP hr
    have hlen : (rows.foldl (takeL p) []).length ≤ rows.length := by have := takes_len (p := p) (rows := rows) (out := []); simpa using this
    have g := g173_ok (l := rows.foldl (takeL p) []) (by omega) (fun r h => by rw [(take_mem hP hr r h).1.len]; exact hm) e2
    rw [e1] at g
    simp (disch := omega) only [st145_3, dlt_f, cond_false, g]
    rfl
noncomputable def c145 (p : Int) (rows : List (List Int)) : Option (List (List Int) × Unit) := by
  classical exact if isP p = true ∧ (∃ m, m ≤ 1000000 ∧ ∀ r ∈ rows, Can p m r) ∧ rows.length ≤ 400000 then some (ech p rows, ()) else none
noncomputable def cf145 : G145 := fun x => c145 x.1 x.2.1
theorem k145 : KOne Try.prog 145 ⟨[.v i64, .v (.slice 24 (.slice 2 i64))], [.slice 24 (.slice 2 i64)], true, false, 0, cf145⟩ := ok145 _ _ (.cons k173 (.cons k172 .nil)) cf145 fun x y h => by
  obtain ⟨p, rows, _⟩ := x
  simp only [cf145, c145] at h
  split at h
  · rename_i hc
    injection h with h; subst h
    obtain ⟨h1, ⟨m, h2, h3⟩, h4⟩ := hc
    exact ⟨_, run145 h1 h3 h2 h4⟩
  · cases h
theorem g145_ok {p : Int} {m : Nat} {rows : List (List Int)} (hP : isP p = true) (hr : ∀ r ∈ rows, Can p m r) (hm : m ≤ 1000000) (hn : rows.length ≤ 400000) : cf145 (p, rows, ()) = some (ech p rows, ()) := if_pos ⟨hP, ⟨m, hm, hr⟩, hn⟩

end Go.Proofs.YtkoifikjfnbcpaaEv
