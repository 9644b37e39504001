/- The polynomial functions of the program and of the reference: sums, products, degrees. -/
import Derived.Test.YtkoifikjfnbcpaaEvPN
set_option linter.unusedVariables false
set_option linter.unusedSimpArgs false
namespace Go.Proofs.YtkoifikjfnbcpaaEv
open Go Go.RowKit Go.Proofs

/-! ### degrees -/
theorem getD_last {ts : List term.den} {d : term.den} (h : ts ≠ []) : ts.getLast? = some (ts.getD (ts.length - 1) d) := by
  have hl : 0 < ts.length := List.length_pos_iff.2 h
  rw [List.getLast?_eq_getElem?, List.getD_eq_getElem?_getD, List.getElem?_eq_getElem (by omega)]; rfl
theorem degI_last {ts : List term.den} {d : term.den} (h : ts ≠ []) : degI ts = degX (ts.getD (ts.length - 1) d).1 := by
  unfold degI; rw [getD_last (d := d) h]
def okTs (ts : List term.den) : Prop := ts.length ≤ 1000000 ∧ ∀ t ∈ ts, okX t.1
theorem okTs.last {ts : List term.den} {d : term.den} (h : okTs ts) (hn : ts ≠ []) : okX (ts.getD (ts.length - 1) d).1 := by
  have hl : 0 < ts.length := List.length_pos_iff.2 hn
  rw [List.getD_eq_getElem?_getD, List.getElem?_eq_getElem (by omega)]
  exact h.2 _ (List.getElem_mem _)
noncomputable def cf115 : G115 := by
  classical exact fun x => if okTs x.1.2.2.1 then some (degI x.1.2.2.1, ()) else none
theorem k115 : KOne Try.prog 115 ⟨[.v poly], [i64], false, false, 0, cf115⟩ := ok115 _ (.cons k158 .nil) cf115 fun x y h => by
  obtain ⟨⟨p, v, ts, _⟩, _⟩ := x
  simp only [cf115] at h
  split at h
  · rename_i hc
    injection h with h; subst h
    replace hc : okTs ts := hc
    have h1 := hc.1
    refine ⟨0, ?_⟩
    show (bif decide (ts.length ≤ _) then _ else _) = _
    by_cases q : ts = []
    · subst q; rfl
    · have hl : 0 < ts.length := List.length_pos_iff.2 q
      have wi : w6 ((ts.length : Int) - 1) = ((ts.length - 1 : Nat) : Int) := by rw [w6_i (by omega) (by omega)]; omega
      have g : cf158 ((ts.getD (ts.length - 1) (Ty.dflt term)).1, ()) = some (degX (ts.getD (ts.length - 1) (Ty.dflt term)).1, ()) := if_pos (hc.last q)
      simp (disch := omega) only [dln_t, cond_true, ofn, deq_f, cond_false, wi, ib_t, tn_cast]
      show (match cf158 ((ts.getD (ts.length - 1) (Ty.dflt term)).1, ()) with | some r5 => some (r5.1, ()) | none => none) = some (degI ts, ())
      rw [g, degI_last (d := Ty.dflt term) q]
  · cases h
theorem g115_ok {p v : Int} {ts : List term.den} (h : okTs ts) : cf115 ((p, v, ts, ()), ()) = some (degI ts, ()) := if_pos h
noncomputable def cf117 : G117 := by
  classical exact fun x => if okTs x.1.2.2.1 then some (degI x.1.2.2.1, ()) else none
theorem k117 : KOne Try.prog 117 ⟨[.v poly], [i64], false, false, 0, cf117⟩ := ok117 _ (.cons k159 .nil) cf117 fun x y h => by
  obtain ⟨⟨p, v, ts, _⟩, _⟩ := x
  simp only [cf117] at h
  split at h
  · rename_i hc
    injection h with h; subst h
    replace hc : okTs ts := hc
    have h1 := hc.1
    refine ⟨0, ?_⟩
    show (bif decide (ts.length ≤ _) then _ else _) = _
    by_cases q : ts = []
    · subst q; rfl
    · have hl : 0 < ts.length := List.length_pos_iff.2 q
      have wi : w6 ((ts.length : Int) - 1) = ((ts.length - 1 : Nat) : Int) := by rw [w6_i (by omega) (by omega)]; omega
      have g : cf159 ((ts.getD (ts.length - 1) (Ty.dflt term)).1, ()) = some (degX (ts.getD (ts.length - 1) (Ty.dflt term)).1, ()) := if_pos (hc.last q)
      simp (disch := omega) only [dln_t, cond_true, ofn, deq_f, cond_false, wi, ib_t, tn_cast]
      show (match cf159 ((ts.getD (ts.length - 1) (Ty.dflt term)).1, ()) with | some r5 => some (r5.1, ()) | none => none) = some (degI ts, ())
      rw [g, degI_last (d := Ty.dflt term) q]
  · cases h
theorem g117_ok {p v : Int} {ts : List term.den} (h : okTs ts) : cf117 ((p, v, ts, ()), ()) = some (degI ts, ()) := if_pos h

/-! ### the reference's products -/
theorem nT_rng {p : Int} {ts : List term.den} (h : CanT p ts) {t : term.den} (ht : t ∈ ts) : 0 < nT t ∧ nT t < p := (h.ok t ht).2
theorem mulb {p x y : Int} (hp : p ≤ 1000000) (hx : 0 < x ∧ x < p) (hy : 0 < y ∧ y < p) : 0 ≤ x * y ∧ x * y ≤ 1000000000000 := by
  have h1 : 0 ≤ x * y := Int.mul_nonneg (by omega) (by omega)
  have h2 : x * y ≤ 1000000 * y := Int.mul_le_mul_of_nonneg_right (by omega) (by omega)
  omega
noncomputable def S99 (F0 : Nat) (kx : ShVal sh99_10 → Option R99) : ShVal sh99_10 → (ShVal sh99_10 → Option R99) → Option R99 := fun s k => st99_10 cf97 cf115 cf98 F0 s k kx
theorem putP_length {p : Int} {ts : List term.den} {e : ex.den} {x : Int} : (putP p ts e x).length ≤ ts.length + 1 := putP_len
theorem rowP_len {p : Int} {t : term.den} : ∀ {b out : List term.den}, (rowP p t out b).length ≤ out.length + b.length
  | [], out => Nat.le_refl _
  | s :: b, out => by
    have h := rowP_len (p := p) (t := t) (b := b) (out := putP p out (addX t.1 s.1) (nT t * nT s))
    have := putP_len (p := p) (ts := out) (e := addX t.1 s.1) (x := nT t * nT s)
    show (rowP p t (putP p out (addX t.1 s.1) (nT t * nT s)) b).length ≤ _
    simp only [List.length_cons]; omega
theorem addX_w {a b : ex.den} (ha : okX a) (hb : okX b) (h1 : degX a ≤ 100) (h2 : degX b ≤ 100) : ((w8 (x0 a + x0 b), w8 (x1 a + x1 b), w8 (x2 a + x2 b), ()) : ex.den) = addX a b := by
  have ha := okX_rng ha
  have hb := okX_rng hb
  rw [degX_eq] at h1 h2
  rw [w8_i (by omega) (by omega), w8_i (by omega) (by omega), w8_i (by omega) (by omega)]; rfl

theorem in99 {p v p' v' : Int} {z : poly.den} {t : term.den} {prea ra : List term.den} {kx : ShVal sh99_10 → Option R99} {F0 : Nat} (hp : 0 < p ∧ p ≤ 1000000) (ht : okX t.1 ∧ degX t.1 ≤ 100) (hn : 0 < nT t ∧ nT t < p) (hal : (prea ++ t :: ra).length ≤ 1000000) :
    ∀ (r pre out : List term.den) (F : Nat), r.length < F → (pre ++ r).length ≤ 1000000 → out.length + r.length ≤ 1000000 → CanT p out → (∀ s ∈ r, okX s.1 ∧ degX s.1 ≤ 100) → (∀ s ∈ r, 0 < nT s ∧ nT s < p) →
    iter (S99 F0 kx) F ((p', v', prea ++ t :: ra, ()), ((p, v, pre ++ r, ()), ((z.1, z.2.1, z.2.2.1, ()), ((p, v, out, ()), (((prea.length : Int), ()), (((pre.length : Int), ()), ())))))) =
      kx ((p', v', prea ++ t :: ra, ()), ((p, v, pre ++ r, ()), ((z.1, z.2.1, z.2.2.1, ()), ((p, v, rowP p t out r, ()), (((prea.length : Int), ()), ((((pre ++ r).length : Int), ()), ()))))))
  | [], pre, out, F, hF, hl, ho, hc, hr, hn' => by
    obtain ⟨F, rfl⟩ : ∃ f, F = f + 1 := ⟨F - 1, by simp at hF; omega⟩
    rw [List.append_nil] at hl ⊢
    simp only [iter, S99, st99_10]
    simp (disch := omega) only [dln_t, cond_true, ofn, dlt_f, cond_false]
    rfl
  | s :: r, pre, out, F, hF, hl, ho, hc, hr, hn' => by
    obtain ⟨F, rfl⟩ : ∃ f, F = f + 1 := ⟨F - 1, by simp at hF; omega⟩
    have hpl : pre.length < (pre ++ s :: r).length := by simp
    have hpa : prea.length < (prea ++ t :: ra).length := by simp
    have hs := hr s (.head _)
    have hb := mulb hp.2 hn (hn' s (.head _))
    have ha := okX_add ht.1 hs.1 ht.2 hs.2
    have wk : w6 (nT t * nT s) = nT t * nT s := w6_i (by omega) (by omega)
    have ew := addX_w ht.1 hs.1 ht.2 hs.2
    have g := g98_ok (v := v) (ts := out) (e := addX t.1 s.1) (x := nT t * nT s) ⟨hp.1, hp.2, hc, ha, by omega, by omega, by simp at ho; omega⟩
    have wi : w6 ((pre.length : Int) + 1) = ((pre ++ [s]).length : Int) := by rw [w6_i (by omega) (by omega)]; simp
    have pl := putP_len (p := p) (ts := out) (e := addX t.1 s.1) (x := nT t * nT s)
    have ih := in99 (v := v) (v' := v') (p' := p') (z := z) (kx := kx) (F0 := F0) hp ht hn hal r (pre ++ [s]) (putP p out (addX t.1 s.1) (nT t * nT s)) F (by simp at hF; omega) (by simpa using hl) (by simp at ho; omega) (putP_can hp.1 hc ha).1 (fun x hx => hr x (.tail _ hx)) fun x hx => hn' x (.tail _ hx)
    rw [show (pre ++ [s]) ++ r = pre ++ s :: r by simp, ← wi] at ih
    show S99 F0 kx _ (iter (S99 F0 kx) F) = _
    generalize iter (S99 F0 kx) F = K at ih ⊢
    simp only [S99, st99_10]
    simp (disch := omega) only [dln_t, cond_true, ofn, dlt_t, ib_t, tn_cast, getD_pre]
    have g' : cf98 ((p, v, out, ()), ((w8 (x0 t.1 + x0 s.1), w8 (x1 t.1 + x1 s.1), w8 (x2 t.1 + x2 s.1), ()) : ex.den), w6 (nT t * nT s), ()) = some ((p, v, putP p out (addX t.1 s.1) (nT t * nT s), ()), ()) := by rw [ew, wk]; exact g
    show (match cf98 ((p, v, out, ()), ((w8 (x0 t.1 + x0 s.1), w8 (x1 t.1 + x1 s.1), w8 (x2 t.1 + x2 s.1), ()) : ex.den), w6 (nT t * nT s), ()) with | some r45 => _ | none => none) = _
    rw [g']
    exact ih

noncomputable def S99a (F0 : Nat) : ShVal sh99_7 → (ShVal sh99_7 → Option R99) → Option R99 := fun s k => st99_7 cf97 cf115 cf98 F0 s k (fun s' => match s' with | ((t2_0, t2_1, t2_2, _), (t3_0, t3_1, t3_2, _), (t4_0, t4_1, t4_2, _), (t6_0, t6_1, t6_2, _), (t7, _), _) => (some ((t6_0, (t6_1, (t6_2, ()))), (true, ()))))
theorem run99 {p v p' v' : Int} {z : poly.den} {b : List term.den} {F0 : Nat} (hp : 0 < p ∧ p ≤ 1000000) (hF0 : b.length < F0) (hbl : b.length ≤ 100000) (hb : CanT p b) (hbs : ∀ s ∈ b, okX s.1 ∧ degX s.1 ≤ 100) :
    ∀ (r pre out : List term.den) (F : Nat), r.length < F → (pre ++ r).length ≤ 1000000 → DegLe 100 out → (out.length + b.length ≤ 1000000 ∨ True) → CanT p out → CanT p r → (∀ s ∈ r, okX s.1 ∧ degX s.1 ≤ 12) → (∀ s ∈ b, degX s.1 ≤ 12) → DegLe 24 out →
    iter (S99a F0) F ((p', v', pre ++ r, ()), ((p, v, b, ()), ((z.1, z.2.1, z.2.2.1, ()), ((p, v, out, ()), (((pre.length : Int), ()), ()))))) = some ((p, v, r.foldl (fun out t => rowP p t out b) out, ()), true, ())
  | [], pre, out, F, hF, hl, _, _, hc, hr, hd, hd2, hd3 => by
    obtain ⟨F, rfl⟩ : ∃ f, F = f + 1 := ⟨F - 1, by simp at hF; omega⟩
    rw [List.append_nil] at hl ⊢
    simp only [iter, S99a, st99_7]
    simp (disch := omega) only [dln_t, cond_true, ofn, dlt_f, cond_false]
    rfl
  | t :: r, pre, out, F, hF, hl, _, _, hc, hr, hd, hd2, hd3 => by
    obtain ⟨F, rfl⟩ : ∃ f, F = f + 1 := ⟨F - 1, by simp at hF; omega⟩
    have hpl : pre.length < (pre ++ t :: r).length := by simp
    have ht := hd t (.head _)
    have ht' : okX t.1 ∧ degX t.1 ≤ 100 := ⟨ht.1, by omega⟩
    have hol := can_len hc hd3 (by omega)
    obtain ⟨c1, c2⟩ := rowP_can hp.1 ht' (b := b) hc hbs
    have d1 : DegLe 24 (rowP p t out b) := degLe_of c1 fun e he => by
      rw [c2, coT_deg hc hd3 he, lsum_zero fun s hs => if_neg fun q => by
        have := hd2 s hs
        rw [← q, degX_add] at he; omega]
      simp
    have wi : w6 ((pre.length : Int) + 1) = ((pre ++ [t]).length : Int) := by rw [w6_i (by omega) (by omega)]; simp
    have ih := run99 (v := v) (v' := v') (p' := p') (z := z) (F0 := F0) hp hF0 hbl hb hbs r (pre ++ [t]) (rowP p t out b) F (by simp at hF; omega) (by simpa using hl) (d1.mono (by omega)) (.inr trivial) c1 hr.tail (fun x hx => hd x (.tail _ hx)) hd2 d1
    rw [show (pre ++ [t]) ++ r = pre ++ t :: r by simp, ← wi] at ih
    show S99a F0 _ (iter (S99a F0) F) = _
    generalize iter (S99a F0) F = K at ih ⊢
    simp only [S99a, st99_7]
    simp (disch := omega) only [dln_t, cond_true, ofn, dlt_t]
    have key := in99 (v := v) (v' := v') (p' := p') (z := z) (t := t) (prea := pre) (ra := r) (F0 := F0) (kx := fun s' => match s' with | ((t2_0, t2_1, t2_2, _), (t3_0, t3_1, t3_2, _), (t4_0, t4_1, t4_2, _), (t6_0, t6_1, t6_2, _), (t7, _), (t8, _), _) => K ((t2_0, (t2_1, (t2_2, ()))), ((t3_0, (t3_1, (t3_2, ()))), ((t4_0, (t4_1, (t4_2, ()))), ((t6_0, (t6_1, (t6_2, ()))), (((w6 (t7 + (1 : Int))), ()), ())))))) hp ht' (nT_rng hr (.head _)) hl b [] out F0 hF0 (by simpa using Nat.le_trans hbl (by omega)) (by omega) hc hbs fun s hs => nT_rng hb hs
    exact key.trans ih

noncomputable def okMul (p : Int) (a b : List term.den) : Prop := (0 < p ∧ p ≤ 1000000) ∧ CanT p a ∧ CanT p b ∧ DegLe 12 a ∧ DegLe 12 b
/-- Whether a product's degree is not too great. -/
def fits (a b : List term.den) : Bool := decide (a = []) || decide (b = []) || decide (degI a + degI b ≤ 12)
def timesO (p : Int) (a b : List term.den) : List term.den := bif fits a b then timesP p a b else []
noncomputable def cf99 : G99 := by
  classical exact fun x => if x.2.1.1 = x.1.1 ∧ x.2.1.2.1 = x.1.2.1 ∧ okMul x.1.1 x.1.2.2.1 x.2.1.2.2.1 then some ((x.1.1, x.1.2.1, timesO x.1.1 x.1.2.2.1 x.2.1.2.2.1, ()), fits x.1.2.2.1 x.2.1.2.2.1, ()) else none
theorem okTs_of {p d : Int} {a : List term.den} (h : CanT p a) (hd : DegLe d a) (h1 : d ≤ 40) : okTs a := ⟨Nat.le_trans (can_len h hd h1) (by omega), fun t ht => (h.ok t ht).1⟩
theorem timesP_nil_r {p : Int} : ∀ (a out : List term.den), a.foldl (fun out t => rowP p t out []) out = out
  | [], out => rfl
  | t :: a, out => timesP_nil_r a out
theorem k99 : KOne Try.prog 99 ⟨[.v poly, .v poly], [poly, .bool], true, false, 0, cf99⟩ := ok99 _ _ _ (.cons k97 (.cons k115 (.cons k98 .nil))) cf99 fun x y h => by
  obtain ⟨⟨p, v, a, _⟩, ⟨q, w, b, _⟩, _⟩ := x
  simp only [cf99] at h
  split at h
  · rename_i hc
    injection h with h; subst h
    obtain ⟨e1, e2, hp, ha, hb, hd, he⟩ := hc
    replace e1 : q = p := e1
    replace e2 : w = v := e2
    subst e1; subst e2
    have la := can_len ha hd (by omega)
    have lb := can_len hb he (by omega)
    refine ⟨List.length b + List.length a + 1, ?_⟩
    have hda := degI_rng ha hd (by omega)
    have hdb := degI_rng hb he (by omega)
    have g1 := g115_ok (p := q) (v := w) (okTs_of ha hd (by omega))
    have g2 := g115_ok (p := q) (v := w) (okTs_of hb he (by omega))
    show (bif decide (List.length a ≤ _) then _ else _) = _
    rw [dln_t (by omega), cond_true]
    by_cases q1 : a = []
    · subst q1
      show _ = some ((q, w, timesO q [] b, ()), fits [] b, ())
      simp [fits, timesO, timesP]
    have hla : 0 < List.length a := List.length_pos_iff.2 q1
    show (bif decide ((List.length a : Int) = 0) then _ else (bif decide (List.length b ≤ 9223372036854775807) then (bif decide ((List.length b : Int) = 0) then _ else (match cf115 ((q, w, a, ()), ()) with | some r10 => (match cf115 ((q, w, b, ()), ()) with | some r11 => _ | none => none) | none => none)) else none)) = _
    rw [deq_f (by omega), cond_false, dln_t (by omega), cond_true]
    by_cases q2 : b = []
    · subst q2
      have e2 : fits a [] = true := by simp [fits]
      have e1 : timesO q a [] = [] := by simp only [timesO, e2, cond_true]; exact timesP_nil_r a []
      show _ = some ((q, w, timesO q a [], ()), fits a [], ())
      rw [e1, e2]; rfl
    have hlb : 0 < List.length b := List.length_pos_iff.2 q2
    rw [deq_f (by omega), cond_false]
    rw [g1, g2]
    show (bif decide ((12 : Int) < w6 (degI a + degI b)) then _ else _) = _
    rw [w6_i (by omega) (by omega)]
    by_cases q3 : (12 : Int) < degI a + degI b
    · rw [dlt_t q3, cond_true]
      have : fits a b = false := by simp [fits, q1, q2]; omega
      show _ = some ((q, w, timesO q a b, ()), fits a b, ())
      simp only [timesO, this]; rfl
    · rw [dlt_f (by omega), cond_false]
      have : fits a b = true := by simp [fits]; right; omega
      show _ = some ((q, w, timesO q a b, ()), fits a b, ())
      simp only [timesO, this, cond_true]
      exact run99 (F0 := List.length b + List.length a + 1) (z := Ty.dflt poly) hp (by omega) (by omega) hb (small hb he (by omega)) a [] [] (List.length b + List.length a + 1) (by omega) (by simp; omega) (by intro t ht; cases ht) (.inr trivial) can_nil ha (fun s hs => ⟨(ha.ok s hs).1, hd s hs⟩) he (by intro t ht; cases ht)
  · cases h
theorem g99_ok {p v : Int} {a b : List term.den} (h : okMul p a b) : cf99 ((p, v, a, ()), (p, v, b, ()), ()) = some ((p, v, timesO p a b, ()), fits a b, ()) := if_pos ⟨rfl, rfl, h⟩

/-! ### one monomial -/
def oneP (p : Int) (e : ex.den) (x : Int) : List term.den := putP p [] e x
noncomputable def cf96 : G96 := by
  classical exact fun x => if (0 < x.1 ∧ x.1 ≤ 1000000) ∧ okX x.2.2.1 ∧ -1000000000000 ≤ x.2.2.2.1 ∧ x.2.2.2.1 ≤ 1000000000000 then some ((x.1, x.2.1, oneP x.1 x.2.2.1 x.2.2.2.1, ()), ()) else none
theorem k96 : KOne Try.prog 96 ⟨[.v i64, .v i64, .v ex, .v i64], [poly], true, false, 0, cf96⟩ := ok96 _ _ (.cons k97 (.cons k98 .nil)) cf96 fun x y h => by
  obtain ⟨p, v, e, n, _⟩ := x
  simp only [cf96] at h
  split at h
  · rename_i hc
    injection h with h; subst h
    obtain ⟨h1, h2, h3, h4⟩ := hc
    refine ⟨0, ?_⟩
    have g := g98_ok (v := v) (ts := []) (e := e) (x := n) ⟨h1.1, h1.2, can_nil, h2, h3, h4, by simp⟩
    simp only [fn96, cf97]
    show (match cf98 ((p, v, [], ()), e, n, ()) with | some r9 => _ | none => none) = _
    rw [g]; rfl
  · cases h
theorem g96_ok {p v n : Int} {e : ex.den} (hp : 0 < p ∧ p ≤ 1000000) (he : okX e) (hn : -1000000000000 ≤ n ∧ n ≤ 1000000000000) : cf96 (p, v, e, n, ()) = some ((p, v, oneP p e n, ()), ()) := if_pos ⟨hp, he, hn.1, hn.2⟩
noncomputable def cf148 : G148 := by
  classical exact fun x => if (0 < x.1 ∧ x.1 ≤ 1000000) ∧ okX x.2.2.1 then some ((x.1, x.2.1, oneP x.1 x.2.2.1 x.2.2.2.1, ()), ()) else none
theorem one_same {p v n : Int} {e : ex.den} (hp : 0 < p ∧ p ≤ 1000000) (he : okX e) : sumP p v [(e, n)] = (p, v, oneP p e n, ()) := by
  obtain ⟨s1, s2⟩ := sumP_can (v := v) (m := [(e, n)]) hp.1 hp.2 fun k hk => by
    rcases lkeys_cons.1 k hk with rfl | h
    · exact he
    · cases h
  obtain ⟨q1, q2⟩ := putP_can (x := n) (ts := []) hp.1 can_nil he
  have : (sumP p v [(e, n)]).2.2.1 = oneP p e n := can_unique s1 q1 fun e' => by
    show _ = coT (putP p [] e n) e'
    rw [s2, q2]
    show mgI [(e, n)] e' % p = _
    rw [mgI_cons]
    by_cases q : e' = e
    · rw [if_pos q, if_pos q.symm, show coT [] e = 0 from rfl, Int.add_zero]
    · rw [if_neg q, if_neg fun w => q w.symm]; show (0 : Int) % p = 0; simp
  show (p, v, (sumP p v [(e, n)]).2.2.1, ()) = _
  rw [this]
theorem g103_ok {p v : Int} {m : Lg} (h : 0 < p ∧ p ≤ 1000000) (hl : (lkeys m).length ≤ 1000000) : cf103 (m, p, v, ()) = some (sumP p v m, ()) := if_pos ⟨h.1, h.2, hl⟩
theorem k148 : KOne Try.prog 148 ⟨[.v i64, .v i64, .v ex, .v i64], [poly], true, false, 0, cf148⟩ := ok148 _ (.cons k103 .nil) cf148 fun x y h => by
  obtain ⟨p, v, e, n, _⟩ := x
  simp only [cf148] at h
  split at h
  · rename_i hc
    injection h with h; subst h
    obtain ⟨h1, h2⟩ := hc
    refine ⟨0, ?_⟩
    have g := g103_ok (v := v) (m := [(e, n)]) h1 (by have := (lkeys_cons (x := e) (y := n) (m := [])).2; simp [lkeys] at this ⊢)
    rw [one_same h1 h2] at g
    show (match cf103 ([(e, n)], p, v, ()) with | some r7 => _ | none => none) = _
    rw [g]
  · cases h
theorem g148_ok {p v n : Int} {e : ex.den} (hp : 0 < p ∧ p ≤ 1000000) (he : okX e) : cf148 (p, v, e, n, ()) = some ((p, v, oneP p e n, ()), ()) := if_pos ⟨hp, he⟩
def e0 : ex.den := ((0 : Int), (0 : Int), (0 : Int), ())
theorem okX_e0 : okX e0 := by
  show ((0 : Int) ≤ 0 ∧ (0 : Int) ≤ 255) ∧ ((0 : Int) ≤ 0 ∧ (0 : Int) ≤ 255) ∧ ((0 : Int) ≤ 0 ∧ (0 : Int) ≤ 255)
  omega
noncomputable def cf102 : G102 := by
  classical exact fun x => if (0 < x.1 ∧ x.1 ≤ 1000000) then some ((x.1, x.2.1, oneP x.1 e0 x.2.2.1, ()), ()) else none
theorem k102 : KOne Try.prog 102 ⟨[.v i64, .v i64, .v i64], [poly], true, false, 0, cf102⟩ := ok102 _ (.cons k148 .nil) cf102 fun x y h => by
  obtain ⟨p, v, n, _⟩ := x
  simp only [cf102] at h
  split at h
  · rename_i hc
    injection h with h; subst h
    refine ⟨0, ?_⟩
    show (match cf148 (p, v, e0, n, ()) with | some r6 => _ | none => none) = _
    rw [g148_ok hc okX_e0]
  · cases h
theorem g102_ok {p v n : Int} (hp : 0 < p ∧ p ≤ 1000000) : cf102 (p, v, n, ()) = some ((p, v, oneP p e0 n, ()), ()) := if_pos hp
def cf104 : G104 := fun x => some ((x.1, x.2.1, [], ()), ())
theorem k104 : KOne Try.prog 104 ⟨[.v i64, .v i64], [poly], true, false, 0, cf104⟩ := ok104 .nil cf104 fun x y h => by
  obtain ⟨p, v, _⟩ := x
  simp only [cf104] at h
  injection h with h; subst h
  exact ⟨0, rfl⟩

/-! ### the program's sums -/
noncomputable def S105a (F0 : Nat) (kx : ShVal sh105_3 → Option R105) : ShVal sh105_3 → (ShVal sh105_3 → Option R105) → Option R105 := fun s k => st105_3 cf103 F0 s k kx
theorem run105a {p v p' v' k : Int} {b : List term.den} {z : poly.den} {F0 : Nat} {kx : ShVal sh105_3 → Option R105} : ∀ (r pre : List term.den) (m : Lg) (F : Nat), r.length < F → (pre ++ r).length ≤ 1000000 → (∀ e, -1000000000000 ≤ mgI m e ∧ mgI m e ≤ 1000000000000) → (∀ t ∈ r, 0 ≤ nT t ∧ nT t ≤ 1000000) → (∀ e, 0 ≤ mgI m e ∧ mgI m e ≤ (pre.length : Int) * 1000000) →
    iter (S105a F0 kx) F ((k, ()), ((p, v, pre ++ r, ()), ((p', v', b, ()), ((z.1, z.2.1, z.2.2.1, ()), (m, ((pre ++ r, ()), ((((pre ++ r).length : Int), ()), (((pre.length : Int), ()), ())))))))) =
      kx ((k, ()), ((p, v, pre ++ r, ()), ((p', v', b, ()), ((z.1, z.2.1, z.2.2.1, ()), (logK 1 r m, ((pre ++ r, ()), ((((pre ++ r).length : Int), ()), ((((pre ++ r).length : Int), ()), ()))))))))
  | [], pre, m, F, hF, hl, _, _, _ => by
    obtain ⟨F, rfl⟩ : ∃ f, F = f + 1 := ⟨F - 1, by simp at hF; omega⟩
    rw [List.append_nil] at hl ⊢
    simp only [iter, S105a, st105_3]
    simp (disch := omega) only [dlt_f, cond_false]
    rfl
  | t :: r, pre, m, F, hF, hl, h1, h2, h3 => by
    obtain ⟨F, rfl⟩ : ∃ f, F = f + 1 := ⟨F - 1, by simp at hF; omega⟩
    have hpl : pre.length < (pre ++ t :: r).length := by simp
    have ht := h2 t (.head _)
    have wi : w6 ((pre.length : Int) + 1) = ((pre ++ [t]).length : Int) := by rw [w6_i (by omega) (by omega)]; simp
    have hm := h3 t.1
    have hpre : (pre.length : Int) ≤ 1000000 := by omega
    have wk : w6 (mgI m t.1 + nT t) = mgI m t.1 + 1 * nT t := by rw [w6_i (by omega) (by omega), Int.one_mul]
    have h3' : ∀ e, 0 ≤ mgI ((t.1, mgI m t.1 + 1 * nT t) :: m) e ∧ mgI ((t.1, mgI m t.1 + 1 * nT t) :: m) e ≤ ((pre ++ [t]).length : Int) * 1000000 := fun e => by
      rw [mgI_cons]
      have := h3 e
      simp only [List.length_append, List.length_singleton]
      split <;> omega
    have ih := run105a (k := k) (p := p) (v := v) (p' := p') (v' := v') (b := b) (z := z) (F0 := F0) (kx := kx) r (pre ++ [t]) ((t.1, mgI m t.1 + 1 * nT t) :: m) F (by simp at hF; omega) (by simpa using hl) (fun e => by
      have := h3' e
      have : ((pre ++ [t]).length : Int) ≤ 1000000 := by simp at hl ⊢; omega
      omega) (fun x hx => h2 x (.tail _ hx)) h3'
    rw [show (pre ++ [t]) ++ r = pre ++ t :: r by simp, ← wi] at ih
    show S105a F0 kx _ (iter (S105a F0 kx) F) = _
    generalize iter (S105a F0 kx) F = K at ih ⊢
    simp only [S105a, st105_3]
    simp (disch := omega) only [dlt_t, cond_true, ofn, ib_t, tn_cast, getD_pre]
    show K ((k, ()), ((p, v, pre ++ t :: r, ()), ((p', v', b, ()), ((z.1, z.2.1, z.2.2.1, ()), ((t.1, w6 (mgI m t.1 + nT t)) :: m, ((pre ++ t :: r, ()), ((((pre ++ t :: r).length : Int), ()), (((w6 ((pre.length : Int) + 1)), ()), ())))))))) = _
    rw [wk]
    exact ih

end Go.Proofs.YtkoifikjfnbcpaaEv
