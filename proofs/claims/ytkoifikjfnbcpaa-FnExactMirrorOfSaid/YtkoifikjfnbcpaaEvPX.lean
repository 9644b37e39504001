/- The kernels of the program and of the reference: the same reduced list. -/
import Derived.Test.YtkoifikjfnbcpaaEvPRc
import Derived.Test.YtkoifikjfnbcpaaEvLinC
import Derived.Test.YtkoifikjfnbcpaaEvFk
set_option linter.unusedVariables false
set_option linter.unusedSimpArgs false
namespace Go.Proofs.YtkoifikjfnbcpaaEv
open Go Go.RowKit

theorem scale111 {p c a5 a20 a21 : Int} {m : Nat} {own : List Int} {A B C : List (List Int)} (hp : 2 ≤ p ∧ p ≤ 13) (hc : 0 ≤ c ∧ c < p) (h1 : Can p m own) (hm : m ≤ 1000000) {F0 F : Nat} (hF : m < F) {kx : ShVal sh111_15 → Option R111} {g145 : G145} {g157 : G157} {g79 : G79} {g156 : G156} {g91 : G91} :
    iter (fun s k => st111_15 g145 g157 g79 g156 g91 F0 s k kx) F ((p, ()), ((a5, ()), ((A, ()), ((B, ()), ((own, ()), ((c, ()), ((C, ()), ((a20, ()), ((a21, ()), (((m : Int), ()), (((0 : Int), ()), ()))))))))))) =
      kx ((p, ()), ((a5, ()), ((A, ()), ((B, ()), ((scl p c own, ()), ((c, ()), ((C, ()), ((a20, ()), ((a21, ()), (((m : Int), ()), (((m : Int), ()), ()))))))))))) := by
  have hl : (scl p c own).length = own.length := scl_len
  have lw := h1.len
  have key := iter_run (step := fun s k => st111_15 g145 g157 g79 g156 g91 F0 s k kx) (r := kx ((p, ()), ((a5, ()), ((A, ()), ((B, ()), ((scl p c own, ()), ((c, ()), ((C, ()), ((a20, ()), ((a21, ()), (((m : Int), ()), (((m : Int), ()), ()))))))))))))
    m F (fun j => ((p, ()), ((a5, ()), ((A, ()), ((B, ()), (((scl p c own).take j ++ own.drop j, ()), ((c, ()), ((C, ()), ((a20, ()), ((a21, ()), (((m : Int), ()), (((j : Int), ()), ())))))))))))) hF (fun j hj k => ?_) (fun k => ?_)
  · simpa using key
  · have l1 := split_len (i := j) hl (by omega)
    have g1 := split_get (i := j) hl (by omega)
    have s1 := split_set (i := j) hl (by omega)
    have z := h1.rng j
    have z2 := sq_rng (p := p) (by omega) z.1 z.2 hc.1 hc.2
    have e : Int.tmod (w6 (el own j * c)) p = el (scl p c own) j := by rw [w6_id (by omega) (by omega), Int.tmod_eq_emod_of_nonneg z2.1, el_scl]
    rw [← s1]
    generalize (scl p c own).take j ++ own.drop j = L at *
    have wi : w6 ((j : Int) + 1) = ((j + 1 : Nat) : Int) := by rw [w6_id (by omega) (by omega)]; rfl
    simp (disch := omega) only [st111_15, cond_true, ofn, dlt_t, ib_t, tn_cast, deq_f, Bool.not_false, g1, e, wi]
  · rw [show (scl p c own).take m ++ own.drop m = scl p c own by rw [← lw, List.drop_length, List.append_nil, ← hl, List.take_length]]
    simp (disch := omega) only [st111_15, dlt_f, cond_false]
theorem red111s {p a5 a20 a21 : Int} {own o x : List Int} {L A C : List (List Int)} {n j : Nat} (hn : n ≤ 1000000) (hj : j < n) (l1 : L.length = n) (g1 : L.getD j [] = o) (g2 : cf156 (p, [own], o, ()) = some (x, ())) {F0 : Nat} {k kx : ShVal sh111_20 → Option R111} {g145 : G145} {g157 : G157} {g79 : G79} {g91 : G91} :
    st111_20 g145 g157 g79 cf156 g91 F0 ((p, ()), ((a5, ()), ((A, ()), ((L, ()), ((own, ()), ((C, ()), ((a20, ()), ((a21, ()), (((n : Int), ()), (((j : Int), ()), ())))))))))) k kx =
      k ((p, ()), ((a5, ()), ((A, ()), ((L.set j x, ()), ((own, ()), ((C, ()), ((a20, ()), ((a21, ()), (((n : Int), ()), ((((j + 1 : Nat) : Int), ()), ())))))))))) := by
  have wi : w6 ((j : Int) + 1) = ((j + 1 : Nat) : Int) := by rw [w6_id (by omega) (by omega)]; rfl
  simp (disch := omega) only [st111_20, cond_true, ofn, dlt_t, ib_t, tn_cast, g1, g2, wi, l1]
theorem red111 {p a5 a20 a21 : Int} {m at_ : Nat} {own : List Int} {out A C : List (List Int)} (hp : 2 ≤ p ∧ p ≤ 13) (ho : Can p m own) (hl : ld own = at_) (ht : at_ < m) (hc : ∀ o ∈ out, Can p m o) (hm : m ≤ 1000000) (hn : out.length ≤ 1000000) {F0 F : Nat} (hF : out.length < F) {kx : ShVal sh111_20 → Option R111} {g145 : G145} {g157 : G157} {g79 : G79} {g91 : G91} :
    iter (fun s k => st111_20 g145 g157 g79 cf156 g91 F0 s k kx) F ((p, ()), ((a5, ()), ((A, ()), ((out, ()), ((own, ()), ((C, ()), ((a20, ()), ((a21, ()), (((out.length : Int), ()), (((0 : Int), ()), ())))))))))) =
      kx ((p, ()), ((a5, ()), ((A, ()), ((out.map (red p own at_), ()), ((own, ()), ((C, ()), ((a20, ()), ((a21, ()), (((out.length : Int), ()), (((out.length : Int), ()), ())))))))))) := by
  have hlm : (out.map (red p own at_)).length = out.length := by simp
  have key := iter_run (step := fun s k => st111_20 g145 g157 g79 cf156 g91 F0 s k kx) (r := kx ((p, ()), ((a5, ()), ((A, ()), ((out.map (red p own at_), ()), ((own, ()), ((C, ()), ((a20, ()), ((a21, ()), (((out.length : Int), ()), (((out.length : Int), ()), ())))))))))))
    out.length F (fun j => ((p, ()), ((a5, ()), ((A, ()), (((out.map (red p own at_)).take j ++ out.drop j, ()), ((own, ()), ((C, ()), ((a20, ()), ((a21, ()), (((out.length : Int), ()), (((j : Int), ()), ()))))))))))) hF (fun j hj k => ?_) (fun k => ?_)
  · simpa using key
  · have l1 : ((out.map (red p own at_)).take j ++ out.drop j).length = out.length := by simp; omega
    have g1 := split_getL (i := j) hlm (by omega)
    have s1 := split_setL (i := j) hlm (by omega)
    have co := hc out[j] (List.getElem_mem hj)
    have g2 : cf156 (p, [own], out[j], ()) = some (red p own at_ out[j], ()) := by
      have := g156_ok (p := p) (out := [own]) (r := out[j]) hp (fun o h => by rw [List.mem_singleton.1 h]; exact ⟨ho, by rw [hl]; exact ht⟩) co hm (by simp)
      rw [this]
      simp only [rest, red, hl]
    have em : (out.map (red p own at_))[j]'(by simpa using hj) = red p own at_ out[j] := by simp
    rw [em] at s1
    rw [← s1]
    exact red111s (by omega) hj l1 g1 g2
  · rw [show (out.map (red p own at_)).take out.length ++ out.drop out.length = out.map (red p own at_) by rw [List.drop_length, List.append_nil, ← hlm, List.take_length]]
    simp (disch := omega) only [st111_20, dlt_f, cond_false]

theorem set_lng {n i : Nat} {r : List Int} : (r ++ List.replicate n (0 : Int)).set (r.length + i) 1 = r ++ uni n i := by
  rw [List.set_append_right _ _ (by omega)]
  simp [uni]

theorem run111 {p : Int} {w : Nat} {rows : List (List Int)} (hP : isP p = true) (hr : ∀ r ∈ rows, Can p w r) (hw : w ≤ 100000) (hn : rows.length ≤ 100000) {F0 : Nat} (hF0 : w + 2 * rows.length < F0) {z : R111} (hz : cf145 (p, (kerI p w rows rows.length).2, ()) = some z) : 
    iter (fun s k => st111_5 cf145 cf157 cf79 cf156 cf91 F0 s k (fun s' => match s' with | ((t0, _), (t5, _), (t6, _), (t7, _), (t19, _), (t20, _), (t21, _), _) => (match (cf145 (t0, (t6, ()))) with | some r20 => (some (r20.1, ())) | none => none))) F0
      ((p, ()), (((rows.length : Int), ()), (([], ()), (([], ()), ((rows, ()), (((rows.length : Int), ()), (((0 : Int), ()), ()))))))) = some (z.1, ()) := by
  have hp := isP_pos hP
  have key := iter_run (step := fun s k => st111_5 cf145 cf157 cf79 cf156 cf91 F0 s k (fun s' => match s' with | ((t0, _), (t5, _), (t6, _), (t7, _), (t19, _), (t20, _), (t21, _), _) => (match (cf145 (t0, (t6, ()))) with | some r20 => (some (r20.1, ())) | none => none))) (r := some (z.1, ())) rows.length F0
    (fun i => ((p, ()), (((rows.length : Int), ()), (((kerI p w rows i).2, ()), (((kerI p w rows i).1, ()), ((rows, ()), (((rows.length : Int), ()), (((i : Int), ()), ())))))))) (by omega) (fun i hi k => ?_) (fun k => ?_)
  · exact key
  · have K := kinv hP hr (i := i) (by omega)
    obtain ⟨cr, hlt⟩ := kinv_ld hP hr hi K
    rw [kerI_succ]
    have hlen := K.len
    obtain ⟨b, hb, rr⟩ := K.perm
    generalize kerI p w rows i = S at *
    obtain ⟨known, out⟩ := S
    simp only at K cr hlt hlen hb
    have row := row_can hr hi
    have lrow := row.len
    have cl := lng_can (n := rows.length) (by omega) hr rfl hi
    have hwide : (rows.getD i [] ++ List.replicate rows.length (0 : Int)).set (w + i) 1 = lng rows.length rows i := by
      have := set_lng (n := rows.length) (i := i) (r := rows.getD i [])
      rw [lrow] at this; exact this
    have g1 : cf91 (rows.getD i [], ()) = some (rows.getD i [], ()) := g91_ok (by omega)
    have g2 := g156_ok (p := p) (m := w + rows.length) (out := known) (r := lng rows.length rows i) (by omega) (fun o ho => ⟨rr.can o (hb.mem_iff.1 ho), rr.lt o (hb.mem_iff.1 ho)⟩) cl (by omega) (by omega)
    have lc := cr.len
    have g3 : cf157 (rest p known (lng rows.length rows i), ()) = some ((ld (rest p known (lng rows.length rows i)) : Int), ()) := by rw [g157_ok (by omega), ldI_lt lc hlt]
    have w1 : w6 ((w : Int) + (i : Int)) = ((w + i : Nat) : Int) := by rw [w6_id (by omega) (by omega)]; omega
    have la : (rows.getD i [] ++ List.replicate rows.length (0 : Int)).length = w + rows.length := by rw [List.length_append, lrow, List.length_replicate]
    have wi : w6 ((i : Int) + 1) = ((i + 1 : Nat) : Int) := by rw [w6_id (by omega) (by omega)]; rfl
    have tr : ∀ (x : List Int) (y : Nat), List.take (tn (y : Int)) x = x.take y := fun _ _ => rfl
    have dr : ∀ (x : List Int) (y : Nat), List.drop (tn (y : Int)) x = x.drop y := fun _ _ => rfl
    unfold kerStep
    simp only
    by_cases q : w ≤ ld (rest p known (lng rows.length rows i))
    · rw [if_pos q]
      have e1 : (rest p known (lng rows.length rows i)).take (w + rows.length) = rest p known (lng rows.length rows i) := by rw [← lc, List.take_length]
      simp (disch := omega) only [st111_5, dlt_t, cond_true, ofn, ib_t, tn_cast, g1, dle_t, Bool.true_and, grow_t, dln_t, lrow, w1, la, hwide, g2, g3, lc, Bool.and_self, e1, List.length_singleton, wi]
    · rw [if_neg q]
      have hne : ld (rest p known (lng rows.length rows i)) ≠ (rest p known (lng rows.length rows i)).length := by omega
      have own := own_of hP rr cl (by rw [← rest_perm (by omega) hb rr cl]; exact hne)
      rw [← rest_perm (by omega) hb rr cl] at own
      have zz := cr.rng (ld (rest p known (lng rows.length rows i)))
      have hnz := ld_ne (rest p known (lng rows.length rows i)) (by omega)
      obtain ⟨i1, i2⟩ := inv_ok hP (x := el (rest p known (lng rows.length rows i)) (ld (rest p known (lng rows.length rows i)))) (by rw [cr.mod]; exact hnz)
      have g4 := g79_ok (p := p) (x := el (rest p known (lng rows.length rows i)) (ld (rest p known (lng rows.length rows i)))) (by omega) zz
      have ge : (rest p known (lng rows.length rows i)).getD (ld (rest p known (lng rows.length rows i))) 0 = el (rest p known (lng rows.length rows i)) (ld (rest p known (lng rows.length rows i))) := rfl
      simp (disch := omega) only [st111_5, dlt_t, cond_true, ofn, ib_t, tn_cast, g1, dle_t, Bool.true_and, grow_t, dln_t, lrow, w1, la, hwide, g2, g3, lc, dle_f, cond_false, ge, g4, ru111_15]
      rw [scale111 (by omega) (by omega) cr (by omega) (by omega)]
      simp (disch := omega) only [dln_t, cond_true, ru111_20]
      rw [red111 (by omega) own.can own.led own.lt (fun o ho => rr.can o (hb.mem_iff.1 ho)) (by omega) (by omega) (by omega)]
      simp (disch := omega) only [List.length_map, List.length_singleton, grow_t, cond_true, wi]
  · simp (disch := omega) only [st111_5, dlt_f, cond_false, hz]

noncomputable def cf111 : G111 := by
  classical exact fun x => if isP x.1 = true ∧ (∃ w : Nat, w ≤ 100000 ∧ ∀ r ∈ (show List (List Int) from x.2.1), Can x.1 w r) ∧ (show List (List Int) from x.2.1).length ≤ 100000 then some (kerL x.1 ((show List (List Int) from x.2.1).getD 0 []).length x.2.1, ()) else none
theorem kerL_w {p : Int} {w : Nat} {rows : List (List Int)} (hr : ∀ r ∈ rows, Can p w r) : kerL p (rows.getD 0 []).length rows = kerL p w rows := by
  cases rows with
  | nil => rfl
  | cons r rs => rw [show ((r :: rs).getD 0 []).length = w from (hr r (.head _)).len]
theorem kerI_can {p : Int} {w : Nat} {rows : List (List Int)} (hP : isP p = true) (hr : ∀ r ∈ rows, Can p w r) : (∀ u ∈ (kerI p w rows rows.length).2, Can p rows.length u) ∧ (kerI p w rows rows.length).2.length ≤ rows.length := by
  have K := kinv hP hr (Nat.le_refl rows.length)
  exact ⟨fun u hu => (K.ker u hu).can, K.len.2⟩
theorem k111 : KOne Try.prog 111 ⟨[.v i64, .v (.slice 24 (.slice 2 i64))], [.slice 24 (.slice 2 i64)], true, false, 0, cf111⟩ := ok111 _ _ _ _ _ (.cons k145 (.cons k157 (.cons k79 (.cons k156 (.cons k91 .nil))))) cf111 fun x y h => by
  obtain ⟨p, rows, _⟩ := x
  simp only [cf111] at h
  split at h
  · rename_i hc
    injection h with h; subst h
    obtain ⟨hP, ⟨w, hw, hr⟩, hn⟩ := hc
    replace hn : List.length rows ≤ 100000 := hn
    obtain ⟨c1, c2⟩ := kerI_can hP hr
    have hz : cf145 (p, (kerI p w rows (List.length rows)).2, ()) = some (kerL p w rows, ()) := by
      rw [g145_ok hP c1 (by omega) (by omega), kerI_ech hP hr]
    refine ⟨w + 2 * List.length rows + 1, ?_⟩
    show (bif decide (List.length rows ≤ _) then (bif decide (List.length rows ≤ _) then _ else none) else none) = some (kerL p (List.getD rows 0 []).length rows, ())
    rw [dln_t (by omega), cond_true, cond_true, kerL_w hr]
    exact run111 hP hr hw hn (by omega) hz
  · cases h
theorem g111_ok {p : Int} {w : Nat} {rows : List (List Int)} (hP : isP p = true) (hr : ∀ r ∈ rows, Can p w r) (hw : w ≤ 100000) (hn : rows.length ≤ 100000) : cf111 (p, rows, ()) = some (kerL p w rows, ()) := by
  have : cf111 (p, rows, ()) = some (kerL p (rows.getD 0 []).length rows, ()) := if_pos ⟨hP, ⟨w, hw, hr⟩, hn⟩
  rw [this, kerL_w hr]

/-! ### the reference's -/
theorem range_snocK (f : Nat → List Int) (j : Nat) : (List.range (j + 1)).map f = (List.range j).map f ++ [f j] := by simp [List.range_succ]
theorem longs110 {p : Int} {w n : Nat} {rows : List (List Int)} (hr : ∀ r ∈ rows, Can p w r) (hl : rows.length = n) (hw : w ≤ 100000) (hn : n ≤ 100000) {F0 F : Nat} (hF : n < F) {kx : ShVal sh110_3 → Option R110} :
    iter (fun s k => st110_3 cf108 cf153 cf155 F0 s k kx) F ((p, ()), (((n : Int), ()), ((rows, ()), (([], ()), (((0 : Int), ()), (((0 : Int), ()), ())))))) =
      kx ((p, ()), (((n : Int), ()), ((rows, ()), ((longs rows, ()), (((if n = 0 then (0 : Int) else (w : Int)), ()), (((n : Int), ()), ())))))) := by
  have key := iter_run (step := fun s k => st110_3 cf108 cf153 cf155 F0 s k kx) (r := kx ((p, ()), (((n : Int), ()), ((rows, ()), ((longs rows, ()), (((if n = 0 then (0 : Int) else (w : Int)), ()), (((n : Int), ()), ()))))))) n F
    (fun i => ((p, ()), (((n : Int), ()), ((rows, ()), (((List.range i).map (lng n rows), ()), (((if i = 0 then (0 : Int) else (w : Int)), ()), (((i : Int), ()), ()))))))) hF (fun i hi k => ?_) (fun k => ?_)
  · exact key
  · have row := row_can hr (i := i) (by omega)
    have lrow := row.len
    have g1 : cf155 (rows.getD i [], ()) = some (rows.getD i [], ()) := g155_ok (by omega)
    have ll : ((List.range i).map (lng n rows)).length = i := by simp
    have wi : w6 ((i : Int) + 1) = ((i + 1 : Nat) : Int) := by rw [w6_id (by omega) (by omega)]; rfl
    have lu : ((List.replicate n (0 : Int)).set i 1).length = n := by simp
    have er : List.replicate (tn (n : Int)) (0 : Int) = List.replicate n 0 := rfl
    have es : ∀ x : List Int, x.set (tn (i : Int)) 1 = x.set i 1 := fun _ => rfl
    have lg : lng n rows i = rows.getD i [] ++ (List.replicate n (0 : Int)).set i 1 := rfl
    have hlr : (List.replicate n (0 : Int)).length = n := by simp
    rw [range_snocK, lg, if_neg (show ¬ (i + 1 = 0) by omega)]
    generalize (List.range i).map (lng n rows) = L at *
    generalize (if i = 0 then (0 : Int) else (w : Int)) = v at *
    simp (disch := omega) only [st110_3, dlt_t, cond_true, dle_t, Bool.true_and, Bool.and_self, decide_true, er, hlr, ofn, ib_t, hl, tn_cast, dln_t, lrow, g1, lu, grow_t, ll, List.length_singleton, wi]
  · have e : longs rows = (List.range n).map (lng n rows) := by unfold longs; rw [hl]
    rw [e]
    simp (disch := omega) only [st110_3, dlt_f, cond_false]
theorem out110 {w m : Nat} {p : Int} (hm : m ≤ 1000000) (hwm : w ≤ m) {R : List (List Int)} (hR : ∀ r ∈ R, r.length = m ∧ ld r < m) (hl : R.length ≤ 1000000) {F0 : Nat} : ∀ (r pre out : List (List Int)) (F : Nat), r.length < F → pre ++ r = R → out.length + r.length ≤ 1000000 →
    iter (fun s k => st110_11 cf108 cf153 cf155 F0 s k (fun s' => match s' with | ((t8, _), (t11, _), (t12, _), (t13, _), _) => (some (t12, ())))) F (((w : Int), ()), ((R, ()), ((out, ()), (((pre.length : Int), ()), ())))) = some (out ++ (r.filter fun r => decide (w ≤ ld r)).map (List.drop w), ())
  | [], pre, out, F, hF, he, ho => by
    obtain ⟨F, rfl⟩ : ∃ f, F = f + 1 := ⟨F - 1, by simp at hF; omega⟩
    have hlen : pre.length = R.length := by rw [← he]; simp
    simp only [iter]
    simp (disch := omega) only [st110_11, dln_t, cond_true, ofn, dlt_f, cond_false]
    simp
  | x :: r, pre, out, F, hF, he, ho => by
    obtain ⟨F, rfl⟩ : ∃ f, F = f + 1 := ⟨F - 1, by simp at hF; omega⟩
    have hpl : pre.length < R.length := by rw [← he]; simp
    have hx : R.getD pre.length [] = x := by rw [← he]; exact getD_preL
    obtain ⟨x1, x2⟩ := hR x (by rw [← he]; simp)
    have g1 : cf153 (x, ()) = some ((ld x : Int), ()) := by rw [g153_ok (by omega), ldI_lt x1 x2]
    have wi : w6 ((pre.length : Int) + 1) = ((pre ++ [x]).length : Int) := by rw [w6_id (by omega) (by omega)]; simp
    have e1 : x.take m = x := by rw [← x1, List.take_length]
    have g2 : cf155 (x.drop w, ()) = some (x.drop w, ()) := g155_ok (by simp; omega)
    have ho' : out.length + 1 + r.length ≤ 1000000 := by simp at ho; omega
    have ih := fun out ho => out110 (p := p) hm hwm hR hl (F0 := F0) r (pre ++ [x]) out F (by simp at hF; omega) (by simpa using he) ho
    rw [← wi] at ih
    simp only [iter]
    generalize iter (fun s k => st110_11 cf108 cf153 cf155 F0 s k (fun s' => match s' with | ((t8, _), (t11, _), (t12, _), (t13, _), _) => (some (t12, ())))) F = K at ih ⊢
    rw [List.filter_cons]
    by_cases q : w ≤ ld x
    · have := ih (out ++ [x.drop w]) (by simp; omega)
      rw [decide_eq_true q, if_pos rfl, List.map_cons]
      simp (disch := omega) only [st110_11, dln_t, cond_true, ofn, dlt_t, ib_t, tn_cast, hx, g1, dle_t, x1, Bool.and_self, decide_true, e1, g2, grow_t, List.length_singleton]
      show K (((w : Int), ()), ((R, ()), ((out ++ [x.drop w], ()), ((w6 ((pre.length : Int) + 1), ()), ())))) = _
      rw [this]; simp
    · have := ih out (by omega)
      rw [decide_eq_false q]
      simp (disch := omega) only [st110_11, dln_t, cond_true, ofn, dlt_t, ib_t, tn_cast, hx, g1, dle_f, cond_false]
      simpa using this
where
  getD_preL {pre r : List (List Int)} {x : List Int} : (pre ++ x :: r).getD pre.length [] = x := by
    rw [List.getD_eq_getElem?_getD, List.getElem?_append_right (Nat.le_refl _)]; simp
noncomputable def cf110 : G110 := by
  classical exact fun x => if isP x.1 = true ∧ x.2.1 = ((show List (List Int) from x.2.2.1).length : Int) ∧ (∃ w : Nat, w ≤ 100000 ∧ ∀ r ∈ (show List (List Int) from x.2.2.1), Can x.1 w r) ∧ (show List (List Int) from x.2.2.1).length ≤ 100000 then some (kerL x.1 ((show List (List Int) from x.2.2.1).getD 0 []).length x.2.2.1, ()) else none
theorem k110 : KOne Try.prog 110 ⟨[.v i64, .v i64, .v (.slice 24 (.slice 2 i64))], [.slice 24 (.slice 2 i64)], true, false, 0, cf110⟩ := ok110 _ _ _ (.cons k108 (.cons k153 (.cons k155 .nil))) cf110 fun x y h => by
  obtain ⟨p, n, rows, _⟩ := x
  simp only [cf110] at h
  split at h
  · rename_i hc
    injection h with h; subst h
    obtain ⟨hP, hnn, ⟨w, hw, hr⟩, hn⟩ := hc
    replace hnn : n = (List.length rows : Int) := hnn
    subst hnn
    replace hn : List.length rows ≤ 100000 := hn
    have hp := isP_pos hP
    have hlc := longs_can (p := p) (by omega) hr
    have rr := ech_RR hP hlc
    have ll : (longs rows).length = List.length rows := by simp [longs]
    have le := ech_len (p := p) (rows := longs rows)
    have g1 := g108_ok hP hlc (by omega) (by omega)
    refine ⟨2 * List.length rows + 2, ?_⟩
    refine (longs110 (n := List.length rows) hr rfl hw hn (by omega)).trans ?_
    show (match cf108 (p, longs rows, ()) with | some r16 => _ | none => none) = some (kerL p (List.getD rows 0 []).length rows, ())
    rw [g1, kerL_w hr]
    by_cases q : rows = []
    · subst q
      exact out110 (p := p) (w := 0) (m := 0) (by omega) (by omega) (R := ech p (longs [])) (by intro r h; cases h) (by simp [longs, ech]) _ [] [] _ (by simp [longs, ech]) rfl (by simp [longs, ech])
    · rw [if_neg (by have := List.length_pos_iff.2 q; omega)]
      exact out110 (p := p) (w := w) (m := w + List.length rows) (by omega) (by omega) (R := ech p (longs rows)) (fun r h => ⟨(rr.can r h).len, rr.lt r h⟩) (by omega) (ech p (longs rows)) [] [] _ (by omega) rfl (by simp; omega)
  · cases h
theorem g110_ok {p : Int} {w n : Nat} {rows : List (List Int)} (hP : isP p = true) (hl : rows.length = n) (hr : ∀ r ∈ rows, Can p w r) (hw : w ≤ 100000) (hn : rows.length ≤ 100000) : cf110 (p, (n : Int), rows, ()) = some (kerL p w rows, ()) := by
  have : cf110 (p, (n : Int), rows, ()) = some (kerL p (rows.getD 0 []).length rows, ()) := if_pos ⟨hP, by rw [← hl], ⟨w, hw, hr⟩, hn⟩
  rw [this, kerL_w hr]

end Go.Proofs.YtkoifikjfnbcpaaEv
