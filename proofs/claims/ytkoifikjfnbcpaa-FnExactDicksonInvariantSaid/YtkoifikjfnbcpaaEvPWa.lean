/- Dickson invariants: the program's way. -/
import Derived.Test.YtkoifikjfnbcpaaEvPW
set_option linter.unusedVariables false
set_option linter.unusedSimpArgs false
namespace Go.Proofs.YtkoifikjfnbcpaaEv
open Go Go.RowKit Go.Proofs

abbrev pol (p : Int) (n : Nat) (ts : List term.den) : poly.den := (p, (n : Int), ts, ())
theorem split_getG {α : Type} {a b : List α} {i : Nat} {d : α} (h : a.length = b.length) (hi : i < a.length) : (a.take i ++ b.drop i).getD i d = b.getD i d := by
  simp only [List.getD_eq_getElem?_getD]
  rw [List.getElem?_append_right (by simp; omega), List.length_take, Nat.min_eq_left (by omega), List.getElem?_drop]
  simp
theorem split_setG {α : Type} {a b : List α} {i : Nat} {x : α} (h : a.length = b.length) (hi : i < a.length) (hx : a[i]? = some x) : (a.take i ++ b.drop i).set i x = a.take (i + 1) ++ b.drop (i + 1) := by
  have e : a[i] = x := by rw [List.getElem?_eq_getElem hi] at hx; injection hx
  rw [take_snoc hi, List.set_append_right _ _ (by simp; omega)]
  rw [List.length_take, Nat.min_eq_left (by omega), Nat.sub_self, List.append_assoc, e]
  congr 1
  rw [List.drop_eq_getElem_cons (show i < b.length by omega)]
  rfl

theorem dig45 {p v i2 a48 a49 : Int} {n : Nat} {z : poly.den} {L : List poly.den} (hp : 2 ≤ p ∧ p ≤ 13) (hn : n ≤ 3) (hv : 0 ≤ v ∧ v ≤ 13) {F0 F : Nat} (hF : n < F) {g86 : G86} {g87 : G87} {g103 : G103} {g104 : G104} {g105 : G105} {g106 : G106} {g102 : G102} {g101 : G101} {kx : ShVal sh45_12 → Option R45} :
    iter (fun s k => st45_12 g86 g87 g103 g104 g105 g106 g102 g101 F0 s k kx) F ((p, ()), (((n : Int), ()), ((i2, ()), ((z.1, z.2.1, z.2.2.1, ()), ((L, ()), ([], (((0 : Int), ()), ((v, ()), ((a48, ()), ((a49, ()), ())))))))))) =
      kx ((p, ()), (((n : Int), ()), ((i2, ()), ((z.1, z.2.1, z.2.2.1, ()), ((L, ()), (linL (digF p v) n, (((n : Int), ()), ((rsK p v n, ()), ((a48, ()), ((a49, ()), ())))))))))) := by
  have key := iter_run (step := fun s k => st45_12 g86 g87 g103 g104 g105 g106 g102 g101 F0 s k kx) (r := kx ((p, ()), (((n : Int), ()), ((i2, ()), ((z.1, z.2.1, z.2.2.1, ()), ((L, ()), (linL (digF p v) n, (((n : Int), ()), ((rsK p v n, ()), ((a48, ()), ((a49, ()), ()))))))))))) n F
    (fun i => ((p, ()), (((n : Int), ()), ((i2, ()), ((z.1, z.2.1, z.2.2.1, ()), ((L, ()), (linL (digF p v) i, (((i : Int), ()), ((rsK p v i, ()), ((a48, ()), ((a49, ()), ()))))))))))) hF (fun i hi k => ?_) (fun k => ?_)
  · exact key
  · have r := rsK_rng (p := p) (v := v) (by omega) hv (k := i)
    have wi : w6 ((i : Int) + 1) = ((i + 1 : Nat) : Int) := by rw [w6_i (by omega) (by omega)]; rfl
    have i3 : ib (i : Int) ((3 : Nat) : Int) = true := ib_t (by omega) (by omega)
    have e1 : Int.tmod (rsK p v i) p = digF p v i := Int.tmod_eq_emod_of_nonneg r.1
    have e2 : w6 (Int.tdiv (rsK p v i) p) = rsK p v (i + 1) := by
      have r2 := rsK_rng (p := p) (v := v) (by omega) hv (k := i + 1)
      rw [Int.tdiv_eq_ediv_of_nonneg r.1]
      exact w6_i (x := rsK p v (i + 1)) (by omega) (by omega)
    have el1 : linL (digF p v) (i + 1) = (leX i, digF p v i) :: linL (digF p v) i := rfl
    rw [el1]
    generalize linL (digF p v) i = M at *
    simp (disch := omega) only [st45_12, dlt_t, cond_true, ofn, tn_cast, i3, deq_f, Bool.not_false, e1, e2, wi]
    rfl
  · simp (disch := omega) only [st45_12, dlt_f, cond_false]

theorem fill45 {p i2 a48 a49 : Int} {n m : Nat} {z f : poly.den} {L B : List poly.den} (hB : B.length = m) (hm : m ≤ 1000) {F0 F : Nat} (hF : m < F) {g86 : G86} {g87 : G87} {g103 : G103} {g105 : G105} {g106 : G106} {g102 : G102} {g101 : G101} {kx : ShVal sh45_20 → Option R45} :
    iter (fun s k => st45_20 g86 g87 g103 cf104 g105 g106 g102 g101 F0 s k kx) F ((p, ()), (((n : Int), ()), ((i2, ()), ((z.1, z.2.1, z.2.2.1, ()), ((L, ()), ((f.1, f.2.1, f.2.2.1, ()), ((B, ()), ((a48, ()), ((a49, ()), (((m : Int), ()), (((0 : Int), ()), ()))))))))))) =
      kx ((p, ()), (((n : Int), ()), ((i2, ()), ((z.1, z.2.1, z.2.2.1, ()), ((L, ()), ((f.1, f.2.1, f.2.2.1, ()), ((List.replicate m (pol p n []), ()), ((a48, ()), ((a49, ()), (((m : Int), ()), (((m : Int), ()), ()))))))))))) := by
  have hl : (List.replicate m (pol p n [])).length = B.length := by simp [hB]
  have key := iter_run (step := fun s k => st45_20 g86 g87 g103 cf104 g105 g106 g102 g101 F0 s k kx) (r := kx ((p, ()), (((n : Int), ()), ((i2, ()), ((z.1, z.2.1, z.2.2.1, ()), ((L, ()), ((f.1, f.2.1, f.2.2.1, ()), ((List.replicate m (pol p n []), ()), ((a48, ()), ((a49, ()), (((m : Int), ()), (((m : Int), ()), ()))))))))))))
    m F (fun j => ((p, ()), (((n : Int), ()), ((i2, ()), ((z.1, z.2.1, z.2.2.1, ()), ((L, ()), ((f.1, f.2.1, f.2.2.1, ()), (((List.replicate m (pol p n [])).take j ++ B.drop j, ()), ((a48, ()), ((a49, ()), (((m : Int), ()), (((j : Int), ()), ())))))))))))) hF (fun j hj k => ?_) (fun k => ?_)
  · simpa using key
  · have s1 := split_setG (i := j) (x := pol p n []) hl (by simp; omega) (by simp [hj])
    have l1 : ((List.replicate m (pol p n [])).take j ++ B.drop j).length = m := by simp [hB]; omega
    have g : cf104 (p, (n : Int), ()) = some (pol p n [], ()) := rfl
    rw [← s1]
    generalize (List.replicate m (pol p n [])).take j ++ B.drop j = M at *
    have wi : w6 ((j : Int) + 1) = ((j + 1 : Nat) : Int) := by rw [w6_i (by omega) (by omega)]; rfl
    simp (disch := omega) only [st45_20, cond_true, ofn, dlt_t, ib_t, tn_cast, l1, g, wi]
  · rw [show (List.replicate m (pol p n [])).take m ++ B.drop m = List.replicate m (pol p n []) by rw [List.drop_eq_nil_of_le (by omega), List.append_nil, List.take_of_length_le (by simp)]]
    simp (disch := omega) only [st45_20, dlt_f, cond_false]

/-- What comes from the left. -/
def prv (p : Int) (cs : List (List term.den)) (j : Nat) : List term.den := if j = 0 then [] else plusP p 1 [] (cs.getD (j - 1) [])
def NIe (p : Int) (cs : List (List term.den)) (f : List term.den) (k j : Nat) : List term.den := if j < k then plusP p 1 (prv p cs j) (timesP p (cs.getD j []) f) else if j = k then prv p cs j else []
def NI (p : Int) (n : Nat) (cs : List (List term.den)) (f : List term.den) (k : Nat) : List poly.den := (List.range (cs.length + 1)).map fun j => pol p n (NIe p cs f k j)
theorem NI_len {p : Int} {n : Nat} {cs : List (List term.den)} {f : List term.den} {k : Nat} : (NI p n cs f k).length = cs.length + 1 := by simp [NI]
theorem NI_get {p : Int} {n : Nat} {cs : List (List term.den)} {f : List term.den} {k j : Nat} {d : poly.den} (h : j ≤ cs.length) : (NI p n cs f k).getD j d = pol p n (NIe p cs f k j) := by
  simp [NI, List.getD_eq_getElem?_getD, List.getElem?_range (show j < cs.length + 1 by omega)]
theorem NI_zero {p : Int} {n : Nat} {cs : List (List term.den)} {f : List term.den} : NI p n cs f 0 = List.replicate (cs.length + 1) (pol p n []) := by
  apply List.ext_getElem?
  intro j
  rw [NI, List.getElem?_map, List.getElem?_replicate]
  by_cases h : j < cs.length + 1
  · rw [List.getElem?_range h, if_pos h]
    simp only [Option.map_some, NIe, prv]
    by_cases q : j = 0
    · subst q; simp
    · simp [q]
  · rw [if_neg h, List.getElem?_eq_none (by simp; omega)]; rfl
theorem NI_step {p : Int} {n : Nat} {cs : List (List term.den)} {f : List term.den} {k : Nat} (h : k < cs.length) : ((NI p n cs f k).set k (pol p n (plusP p 1 (prv p cs k) (timesP p (cs.getD k []) f)))).set (k + 1) (pol p n (plusP p 1 [] (cs.getD k []))) = NI p n cs f (k + 1) := by
  apply List.ext_getElem?
  intro j
  rw [List.getElem?_set, List.getElem?_set, List.length_set, NI_len]
  simp only [NI, List.getElem?_map]
  by_cases hj : j < cs.length + 1
  · rw [List.getElem?_range hj]
    simp only [Option.map_some]
    by_cases q1 : k + 1 = j
    · subst q1
      rw [if_pos rfl, if_pos (by omega)]
      simp [NIe, prv]
    · rw [if_neg q1]
      by_cases q2 : k = j
      · subst q2
        rw [if_pos rfl, if_pos (by omega)]
        simp [NIe]
      · rw [if_neg q2]
        simp only [NIe]
        by_cases q3 : j < k
        · rw [if_pos q3, if_pos (by omega)]
        · rw [if_neg q3, if_neg (by omega), if_neg (by omega), if_neg (by omega)]
  · rw [List.getElem?_eq_none (show (List.range (cs.length + 1)).length ≤ j by simp; omega)]
    rw [if_neg (by omega), if_neg (by omega)]; rfl
theorem prv_can {p : Int} {s j : Nat} {cs : List (List term.den)} (hp : 0 < p) (h : DI p s cs) (hs : s ≤ 13) : CanT p (prv p cs j) ∧ DegLe 13 (prv p cs j) ∧ ∀ e, coT (prv p cs j) e = if j = 0 then 0 else coT (cs.getD (j - 1) []) e := by
  unfold prv
  by_cases q : j = 0
  · rw [if_pos q]; exact ⟨can_nil, deg_nil, fun e => by rw [if_pos q]; rfl⟩
  · rw [if_neg q]
    obtain ⟨c1, c2⟩ := h.all hs (j - 1)
    obtain ⟨d1, d2⟩ := plusP_can (k := 1) hp (a := []) can_nil c1
    refine ⟨d1, plusP_deg hp can_nil c1 deg_nil c2, fun e => ?_⟩
    rw [if_neg q, d2, Int.one_mul, show coT [] e = 0 from rfl, Int.zero_add]
    have := coT_rng (e := e) hp c1
    exact Int.emod_eq_of_lt this.1 this.2
/-- Together they are the next coefficients. -/
theorem NI_end {p : Int} {n s : Nat} {cs : List (List term.den)} (hp : 0 < p) (hn : n ≤ 3) (hs : s ≤ 12) (h : DI p s cs) : NI p n cs (formD p n s) cs.length = (nextP p cs (formD p n s)).map (pol p n) := by
  obtain ⟨f1, f2⟩ := formD_can (p := p) (v := (s : Int)) hp hn
  unfold NI nextP
  rw [List.map_map]
  refine List.map_congr_left fun j hj => ?_
  have hj := List.mem_range.1 hj
  show pol p n _ = pol p n _
  congr 2
  obtain ⟨t1, t2⟩ := h.all (by omega) j
  obtain ⟨v1, v2⟩ := timesP_can (a := cs.getD j []) hp (small t1 t2 (by omega)) (small f1 f2 (by omega))
  obtain ⟨u1, u2, u3⟩ := prv_can (j := j) hp h (by omega)
  have w1 : CanT p (if j = 0 then [] else cs.getD (j - 1) []) := by
    by_cases q : j = 0
    · rw [if_pos q]; exact can_nil
    · rw [if_neg q]; exact (h.all (by omega) _).1
  have w2 : ∀ e, coT (if j = 0 then [] else cs.getD (j - 1) []) e = if j = 0 then 0 else coT (cs.getD (j - 1) []) e := fun e => by
    by_cases q : j = 0
    · rw [if_pos q, if_pos q]; rfl
    · rw [if_neg q, if_neg q]
  unfold NIe
  by_cases q : j < cs.length
  · rw [if_pos q]
    refine can_unique (plusP_can hp u1 v1).1 (plusP_can hp v1 w1).1 fun e => ?_
    rw [(plusP_can hp u1 v1).2, (plusP_can hp v1 w1).2, u3, w2]
    congr 1; omega
  · rw [if_neg q, if_pos (by omega)]
    have e1 : cs.getD j [] = [] := getD_out (by omega)
    show prv p cs j = plusP p 1 (timesP p (cs.getD j []) (formD p n s)) (if j = 0 then [] else cs.getD (j - 1) [])
    rw [e1]
    unfold prv
    have : j ≠ 0 := by rw [h.len] at q; omega
    rw [if_neg this, if_neg this]; rfl

theorem next45 {p i2 a48 a49 : Int} {n s : Nat} {z : poly.den} {cs : List (List term.den)} (hp : 2 ≤ p ∧ p ≤ 13) (hn : n ≤ 3) (hs : s ≤ 12) (h : DI p s cs) {F0 F : Nat} (hF : cs.length < F) {g86 : G86} {g87 : G87} {g103 : G103} {g104 : G104} {g102 : G102} {g101 : G101} {kx : ShVal sh45_25 → Option R45} :
    iter (fun s k => st45_25 g86 g87 g103 g104 cf105 cf106 g102 g101 F0 s k kx) F ((p, ()), (((n : Int), ()), ((i2, ()), ((z.1, z.2.1, z.2.2.1, ()), ((p, (n : Int), formD p n s, ()), ((List.replicate (cs.length + 1) (pol p n []), ()), ((a48, ()), ((a49, ()), ((cs.map (pol p n), ()), (((cs.length : Int), ()), (((0 : Int), ()), ()))))))))))) =
      kx ((p, ()), (((n : Int), ()), ((i2, ()), ((z.1, z.2.1, z.2.2.1, ()), ((p, (n : Int), formD p n s, ()), (((nextP p cs (formD p n s)).map (pol p n), ()), ((a48, ()), ((a49, ()), ((cs.map (pol p n), ()), (((cs.length : Int), ()), (((cs.length : Int), ()), ()))))))))))) := by
  have hlen := h.len
  obtain ⟨f1, f2⟩ := formD_can (p := p) (v := (s : Int)) (by omega) hn
  have key := iter_run (step := fun s k => st45_25 g86 g87 g103 g104 cf105 cf106 g102 g101 F0 s k kx) (r := kx ((p, ()), (((n : Int), ()), ((i2, ()), ((z.1, z.2.1, z.2.2.1, ()), ((p, (n : Int), formD p n s, ()), (((nextP p cs (formD p n s)).map (pol p n), ()), ((a48, ()), ((a49, ()), ((cs.map (pol p n), ()), (((cs.length : Int), ()), (((cs.length : Int), ()), ()))))))))))))
    cs.length F (fun j => ((p, ()), (((n : Int), ()), ((i2, ()), ((z.1, z.2.1, z.2.2.1, ()), ((p, (n : Int), formD p n s, ()), ((NI p n cs (formD p n s) j, ()), ((a48, ()), ((a49, ()), ((cs.map (pol p n), ()), (((cs.length : Int), ()), (((j : Int), ()), ())))))))))))) hF (fun j hj k => ?_) (fun k => ?_)
  · rw [NI_zero] at key; exact key
  · have ll := NI_len (p := p) (n := n) (cs := cs) (f := formD p n s) (k := j)
    have lm : (cs.map (pol p n)).length = cs.length := by simp
    have gc : ∀ d, (cs.map (pol p n)).getD j d = pol p n (cs.getD j []) := fun d => by simp [List.getD_eq_getElem?_getD, List.getElem?_eq_getElem hj]
    have g0 : ∀ d, (NI p n cs (formD p n s) j).getD j d = pol p n (prv p cs j) := fun d => by rw [NI_get (by omega)]; simp [NIe]
    have g1 : ∀ X d, ((NI p n cs (formD p n s) j).set j X).getD (j + 1) d = pol p n [] := fun X d => by
      rw [List.getD_eq_getElem?_getD, List.getElem?_set, if_neg (by omega), ← List.getD_eq_getElem?_getD, NI_get (by omega)]
      unfold NIe; rw [if_neg (by omega), if_neg (by omega)]
    obtain ⟨t1, t2⟩ := h.all (by omega) j
    obtain ⟨u1, u2, _⟩ := prv_can (j := j) (by omega) h (by omega)
    have hm := g106_ok (v := (n : Int)) (v' := (n : Int)) (a := cs.getD j []) (b := formD p n s) ⟨by omega, t1, f1, t2.mono (by omega), f2.mono (by omega)⟩
    obtain ⟨v1, _⟩ := timesP_can (a := cs.getD j []) (p := p) (by omega) (small t1 t2 (by omega)) (small f1 f2 (by omega))
    have v2 := timesP_deg (p := p) (by omega) t1 f1 t2 f2 (by omega) (by omega)
    have l1 := can_len t1 t2 (by omega)
    have l2 := can_len u1 u2 (by omega)
    have l3 := can_len v1 v2 (by omega)
    have ha1 := g105_ok (v := (n : Int)) (v' := (n : Int)) (k := 1) (by omega) u1 v1 (by omega) (by omega) (by omega)
    have ha2 := g105_ok (v := (n : Int)) (v' := (n : Int)) (k := 1) (p := p) (by omega) can_nil t1 (by omega) (by simp) (by omega)
    have wi : w6 ((j : Int) + 1) = ((j + 1 : Nat) : Int) := by rw [w6_i (by omega) (by omega)]; rfl
    rw [← NI_step hj]
    generalize NI p n cs (formD p n s) j = M at *
    generalize cs.map (pol p n) = CS at *
    simp (disch := omega) only [st45_25, dlt_t, cond_true, ofn, lm, ib_t, tn_cast, gc, ll, hm, g0, ha1, wi, List.length_set, g1, ha2]
  · rw [NI_end (by omega) hn hs h]
    simp (disch := omega) only [st45_25, dlt_f, cond_false]

theorem dl_pos {p : Int} {n s : Nat} (hp : 0 < p) (hn : n ≤ 3) (hs : s ≤ 13) : (dl p n s).length = s + 1 := (dl_DI hp hn hs).len
theorem run45 {p i2 : Int} {n m : Nat} {z : poly.den} (hp : 2 ≤ p ∧ p ≤ 13) (hn : n ≤ 3) (hm : m ≤ 13) {F0 : Nat} (hF0 : 20 ≤ F0) {F : Nat} (hF : m < F) {kx : ShVal sh45_8 → Option R45} :
    iter (fun s k => st45_8 cf82 cf87 cf103 cf104 cf105 cf106 cf102 cf101 F0 s k kx) F ((p, ()), (((n : Int), ()), ((i2, ()), ((z.1, z.2.1, z.2.2.1, ()), (([pol p n (oneP p e0 1)], ()), (((m : Int), ()), (((0 : Int), ()), ()))))))) =
      kx ((p, ()), (((n : Int), ()), ((i2, ()), ((z.1, z.2.1, z.2.2.1, ()), (((dl p n m).map (pol p n), ()), (((m : Int), ()), (((m : Int), ()), ()))))))) := by
  have key := iter_run (step := fun s k => st45_8 cf82 cf87 cf103 cf104 cf105 cf106 cf102 cf101 F0 s k kx) (r := kx ((p, ()), (((n : Int), ()), ((i2, ()), ((z.1, z.2.1, z.2.2.1, ()), (((dl p n m).map (pol p n), ()), (((m : Int), ()), (((m : Int), ()), ())))))))) m F
    (fun s => ((p, ()), (((n : Int), ()), ((i2, ()), ((z.1, z.2.1, z.2.2.1, ()), (((dl p n s).map (pol p n), ()), (((m : Int), ()), (((s : Int), ()), ())))))))) hF (fun s hs k => ?_) (fun k => ?_)
  · exact key
  · have h := dl_DI (p := p) (n := n) (by omega) hn (s := s) (by omega)
    have hlen := h.len
    have en : dl p n (s + 1) = nextP p (dl p n s) (formD p n s) := rfl
    rw [en]
    generalize dl p n s = cs at *
    have lm : (cs.map (pol p n)).length = cs.length := by simp
    have wi : w6 ((s : Int) + 1) = ((s + 1 : Nat) : Int) := by rw [w6_i (by omega) (by omega)]; rfl
    have wl : w6 ((cs.length : Int) + 1) = ((cs.length + 1 : Nat) : Int) := by rw [w6_i (by omega) (by omega)]; rfl
    simp (disch := omega) only [st45_8, dlt_t, cond_true, ru45_12]
    rw [dig45 hp hn (by omega) (by omega)]
    have g := g103_lin (p := p) (v := (n : Int)) (f := digF p (s : Int)) (k := n) (by omega) hn
    simp only [g]
    have er : (List.replicate (tn ((cs.length + 1 : Nat) : Int)) (Ty.dflt poly)).length = cs.length + 1 := by rw [List.length_replicate]; rfl
    simp (disch := omega) only [lm, ofn, dln_t, cond_true, wl, dle_t, decide_true, Bool.and_self, ru45_20]
    rw [er, dln_t (by omega), cond_true]
    refine (fill45 (p := p) (f := pol p n (formD p n s)) (m := cs.length + 1) er (by omega) (by omega)).trans ?_
    simp only [lm, ru45_25]
    rw [dln_t (by omega), cond_true]
    refine (next45 hp hn (by omega) h (by omega)).trans ?_
    simp only [wi]
  · simp (disch := omega) only [st45_8, dlt_f, cond_false]

end Go.Proofs.YtkoifikjfnbcpaaEv
