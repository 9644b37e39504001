/- Products of polynomials by their terms; degrees. -/
import Derived.Test.YtkoifikjfnbcpaaEvPM
import Derived.Test.YtkoifikjfnbcpaaEvLinB
set_option linter.unusedVariables false
set_option linter.unusedSimpArgs false
namespace Go.Proofs.YtkoifikjfnbcpaaEv
open Go Go.RowKit Go.Proofs

abbrev x0 (e : ex.den) : Int := e.1
abbrev x1 (e : ex.den) : Int := e.2.1
abbrev x2 (e : ex.den) : Int := e.2.2.1
def addX (a b : ex.den) : ex.den := (x0 a + x0 b, x1 a + x1 b, x2 a + x2 b, ())
theorem degX_add {a b : ex.den} : degX (addX a b) = degX a + degX b := by
  show (x0 a + x0 b) + (x1 a + x1 b) + (x2 a + x2 b) = (x0 a + x1 a + x2 a) + (x0 b + x1 b + x2 b)
  omega
theorem okX_rng {a : ex.den} (h : okX a) : (0 ≤ x0 a ∧ x0 a ≤ 255) ∧ (0 ≤ x1 a ∧ x1 a ≤ 255) ∧ (0 ≤ x2 a ∧ x2 a ≤ 255) := h
theorem degX_eq (a : ex.den) : degX a = x0 a + x1 a + x2 a := rfl
theorem okX_add {a b : ex.den} (ha : okX a) (hb : okX b) (h1 : degX a ≤ 100) (h2 : degX b ≤ 100) : okX (addX a b) := by
  have ha := okX_rng ha
  have hb := okX_rng hb
  rw [degX_eq] at h1 h2
  show (0 ≤ x0 a + x0 b ∧ x0 a + x0 b ≤ 255) ∧ (0 ≤ x1 a + x1 b ∧ x1 a + x1 b ≤ 255) ∧ (0 ≤ x2 a + x2 b ∧ x2 a + x2 b ≤ 255)
  omega
theorem w8_i {x : Int} (h0 : 0 ≤ x) (h1 : x ≤ 255) : w8 x = x := by
  simp only [w8, IntKind.wrap, IntKind.bits, IntKind.signed]
  simp only [Bool.false_and, Bool.false_eq_true, if_false]
  omega

/-- No term of a degree above d. -/
def DegLe (d : Int) (ts : List term.den) : Prop := ∀ t ∈ ts, degX t.1 ≤ d
theorem DegLe.mono {d e : Int} {ts : List term.den} (h : DegLe d ts) (hd : d ≤ e) : DegLe e ts := fun t ht => Int.le_trans (h t ht) hd
def degI (ts : List term.den) : Int := match ts.getLast? with | none => -1 | some t => degX t.1
theorem key_deg {a b : ex.den} (ha : okX a) (hb : okX b) (h : keyX a < keyX b) : degX a ≤ degX b := by
  have ha := okX_rng ha
  have hb := okX_rng hb
  unfold keyX key3 at h
  rw [degX_eq, degX_eq]
  have h : (x0 a + x1 a + x2 a) * 65536 + (255 - x0 a) * 256 + (255 - x1 a) < (x0 b + x1 b + x2 b) * 65536 + (255 - x0 b) * 256 + (255 - x1 b) := h
  omega
theorem can_deg {p : Int} {ts : List term.den} (h : CanT p ts) : DegLe (degI ts) ts := by
  intro t ht
  unfold degI
  cases hl : ts.getLast? with
  | none => rw [List.getLast?_eq_none_iff] at hl; subst hl; cases ht
  | some s =>
    obtain ⟨pre, rfl⟩ := List.getLast?_eq_some_iff.1 hl
    rcases List.mem_append.1 ht with h1 | h1
    · have := (List.pairwise_append.1 h.srt).2.2 t h1 s (by simp)
      exact key_deg (h.ok t ht).1 (h.ok s (by simp)).1 this
    · have : t = s := by simpa using h1
      subst this; exact Int.le_refl _
theorem degI_le {d : Int} {ts : List term.den} (h : DegLe d ts) (hd : -1 ≤ d) : degI ts ≤ d := by
  unfold degI
  cases hl : ts.getLast? with
  | none => exact hd
  | some s => exact h s (List.mem_of_getLast? hl)
theorem degX_nn {a : ex.den} (h : okX a) : 0 ≤ degX a := by
  have h := okX_rng h
  rw [degX_eq]; omega
theorem degI_rng {p d : Int} {ts : List term.den} (h : CanT p ts) (hd : DegLe d ts) (h0 : -1 ≤ d) : -1 ≤ degI ts ∧ degI ts ≤ d := by
  refine ⟨?_, degI_le hd h0⟩
  unfold degI
  cases hl : ts.getLast? with
  | none => exact Int.le_refl _
  | some s => have := degX_nn (h.ok s (List.mem_of_getLast? hl)).1; simp only; omega

/-- Few terms, where the degrees are small. -/
theorem can_len {p d : Int} {ts : List term.den} (h : CanT p ts) (hd : DegLe d ts) (h1 : d ≤ 40) : ts.length ≤ 68921 := by
  have nd : (ts.map fun t => ((x0 t.1).toNat * 1681 + (x1 t.1).toNat * 41 + (x2 t.1).toNat)).Nodup := by
    refine List.pairwise_map.2 (List.Pairwise.imp_of_mem ?_ h.srt)
    intro a b ha hb hab e
    have oa := okX_rng (h.ok a ha).1
    have ob := okX_rng (h.ok b hb).1
    have da := hd a ha
    have db := hd b hb
    rw [degX_eq] at da db
    have e0 : x0 a.1 = x0 b.1 := by omega
    have e1 : x1 a.1 = x1 b.1 := by omega
    have e2 : x2 a.1 = x2 b.1 := by omega
    have hab : (x0 a.1 + x1 a.1 + x2 a.1) * 65536 + (255 - x0 a.1) * 256 + (255 - x1 a.1) < (x0 b.1 + x1 b.1 + x2 b.1) * 65536 + (255 - x0 b.1) * 256 + (255 - x1 b.1) := hab
    omega
  have := len_sub (R := List.range 68921) nd fun z hz => by
    obtain ⟨t, ht, rfl⟩ := List.mem_map.1 hz
    have ot := okX_rng (h.ok t ht).1
    have dt := hd t ht
    rw [degX_eq] at dt
    exact List.mem_range.2 (by omega)
  simpa using this

theorem coT_mem_ne {p : Int} : ∀ {ts : List term.den} {e : ex.den}, CanT p ts → coT ts e ≠ 0 → ∃ t ∈ ts, t.1 = e
  | [], e, _, h => absurd rfl h
  | t :: r, e, hc, h => by
    by_cases q : t.1 = e
    · exact ⟨t, .head _, q⟩
    · simp only [coT, if_neg q] at h
      obtain ⟨s, hs, e⟩ := coT_mem_ne hc.tail h
      exact ⟨s, .tail _ hs, e⟩
theorem mem_coT {p : Int} {ts : List term.den} {t : term.den} (h : CanT p ts) (ht : t ∈ ts) : coT ts t.1 ≠ 0 := by
  rw [coT_mem h ht]
  have := (h.ok t ht).2.1
  intro q
  have q : (show Int from t.2.1) = 0 := q
  have this : (0 : Int) < (show Int from t.2.1) := this
  omega
/-- Degrees by the numbers. -/
theorem degLe_of {p d : Int} {ts : List term.den} (h : CanT p ts) (hz : ∀ e, d < degX e → coT ts e = 0) : DegLe d ts := fun t ht => by
  rcases Int.lt_or_le d (degX t.1) with q | q
  · exact absurd (hz _ q) (mem_coT h ht)
  · exact q
theorem coT_deg {p d : Int} {ts : List term.den} (h : CanT p ts) (hd : DegLe d ts) {e : ex.den} (he : d < degX e) : coT ts e = 0 := by
  by_cases q : coT ts e = 0
  · exact q
  · obtain ⟨t, ht, rfl⟩ := coT_mem_ne h q
    have := hd t ht; omega
theorem plusP_deg {p k d : Int} (hp : 0 < p) {a r : List term.den} (ha : CanT p a) (hr : CanT p r) (h1 : DegLe d a) (h2 : DegLe d r) : DegLe d (plusP p k a r) := by
  obtain ⟨c1, c2⟩ := plusP_can (k := k) hp ha hr
  refine degLe_of c1 fun e he => ?_
  rw [c2, coT_deg ha h1 he, coT_deg hr h2 he]; simp

/-- The numbers of a product. -/
def mulN (a b : List term.den) (e : ex.den) : Int := lsum (fun t => lsum (fun s => if addX t.1 s.1 = e then nT t * nT s else 0) b) a
def rowP (p : Int) (t : term.den) (out b : List term.den) : List term.den := b.foldl (fun out s => putP p out (addX t.1 s.1) (nT t * nT s)) out
def timesP (p : Int) (a b : List term.den) : List term.den := a.foldl (fun out t => rowP p t out b) []
theorem rowP_can {p : Int} {t : term.den} (hp : 0 < p) (ht : okX t.1 ∧ degX t.1 ≤ 100) : ∀ {b out : List term.den}, CanT p out → (∀ s ∈ b, okX s.1 ∧ degX s.1 ≤ 100) →
    CanT p (rowP p t out b) ∧ ∀ e, coT (rowP p t out b) e = (coT out e + lsum (fun s => if addX t.1 s.1 = e then nT t * nT s else 0) b) % p
  | [], out, ho, _ => ⟨ho, fun e => by
      have := coT_rng (e := e) hp ho
      show coT out e = (coT out e + 0) % p
      rw [Int.add_zero, Int.emod_eq_of_lt this.1 this.2]⟩
  | s :: b, out, ho, hb => by
    have hs := hb s (.head _)
    obtain ⟨h1, h2⟩ := putP_can (x := nT t * nT s) hp ho (okX_add ht.1 hs.1 ht.2 hs.2)
    obtain ⟨i1, i2⟩ := rowP_can hp ht (b := b) h1 fun x hx => hb x (.tail _ hx)
    refine ⟨i1, fun e => ?_⟩
    show coT (rowP p t (putP p out (addX t.1 s.1) (nT t * nT s)) b) e = _
    rw [i2 e, h2 e]
    simp only [lsum]
    by_cases q : e = addX t.1 s.1
    · subst q; rw [if_pos rfl, if_pos rfl, Int.emod_add_emod]; congr 1; omega
    · rw [if_neg q, if_neg fun w => q w.symm]; congr 1; omega
theorem timesP_go {p : Int} (hp : 0 < p) {b : List term.den} (hb : ∀ s ∈ b, okX s.1 ∧ degX s.1 ≤ 100) : ∀ {a out : List term.den}, CanT p out → (∀ t ∈ a, okX t.1 ∧ degX t.1 ≤ 100) →
    CanT p (a.foldl (fun out t => rowP p t out b) out) ∧ ∀ e, coT (a.foldl (fun out t => rowP p t out b) out) e = (coT out e + mulN a b e) % p
  | [], out, ho, _ => ⟨ho, fun e => by
      have := coT_rng (e := e) hp ho
      show coT out e = (coT out e + 0) % p
      rw [Int.add_zero, Int.emod_eq_of_lt this.1 this.2]⟩
  | t :: a, out, ho, ha => by
    obtain ⟨h1, h2⟩ := rowP_can hp (ha t (.head _)) ho hb
    obtain ⟨i1, i2⟩ := timesP_go hp hb (a := a) h1 fun x hx => ha x (.tail _ hx)
    refine ⟨i1, fun e => ?_⟩
    show coT (a.foldl (fun out t => rowP p t out b) (rowP p t out b)) e = _
    rw [i2 e, h2 e, Int.emod_add_emod]
    simp only [mulN, lsum]
    congr 1; omega
theorem can_nil {p : Int} : CanT p [] := ⟨.nil, by simp⟩
theorem timesP_can {p : Int} (hp : 0 < p) {a b : List term.den} (ha : ∀ t ∈ a, okX t.1 ∧ degX t.1 ≤ 100) (hb : ∀ s ∈ b, okX s.1 ∧ degX s.1 ≤ 100) : CanT p (timesP p a b) ∧ ∀ e, coT (timesP p a b) e = mulN a b e % p := by
  obtain ⟨h1, h2⟩ := timesP_go hp hb (a := a) can_nil ha
  exact ⟨h1, fun e => by
    have := h2 e
    rw [show coT [] e = 0 from rfl, Int.zero_add] at this
    exact this⟩
theorem small {p d : Int} {a : List term.den} (ha : CanT p a) (hd : DegLe d a) (h : d ≤ 100) : ∀ t ∈ a, okX t.1 ∧ degX t.1 ≤ 100 := fun t ht => ⟨(ha.ok t ht).1, by have := hd t ht; omega⟩
theorem mulN_deg {d e : Int} {a b : List term.den} (ha : DegLe d a) (hb : DegLe e b) {x : ex.den} (hx : d + e < degX x) : mulN a b x = 0 :=
  lsum_zero fun t ht => lsum_zero fun s hs => if_neg fun q => by
    have h1 := ha t ht
    have h2 := hb s hs
    rw [← q, degX_add] at hx; omega
theorem timesP_deg {p d e : Int} (hp : 0 < p) {a b : List term.den} (ha : CanT p a) (hb : CanT p b) (h1 : DegLe d a) (h2 : DegLe e b) (l1 : d ≤ 100) (l2 : e ≤ 100) : DegLe (d + e) (timesP p a b) := by
  obtain ⟨c1, c2⟩ := timesP_can hp (small ha h1 l1) (small hb h2 l2)
  exact degLe_of c1 fun x hx => by rw [c2, mulN_deg h1 h2 hx]; simp

/-- Products laid into a map. -/
def logR (p : Int) (t : term.den) : List term.den → Lg → Lg
  | [], m => m
  | s :: r, m => logR p t r ((addX t.1 s.1, (mgI m (addX t.1 s.1) + nT t * nT s) % p) :: m)
def logM (p : Int) (b : List term.den) : List term.den → Lg → Lg
  | [], m => m
  | t :: a, m => logM p b a (logR p t b m)
theorem logR_get {p : Int} {t : term.den} : ∀ {b : List term.den} {m : Lg} (e : ex.den), mgI (logR p t b m) e % p = (mgI m e + lsum (fun s => if addX t.1 s.1 = e then nT t * nT s else 0) b) % p
  | [], m, e => by simp [logR, lsum]
  | s :: b, m, e => by
    simp only [logR, lsum]
    rw [logR_get (b := b) e, mgI_cons]
    by_cases q : addX t.1 s.1 = e
    · subst q; rw [if_pos rfl, if_pos rfl, Int.emod_add_emod]; congr 1; omega
    · rw [if_neg q, if_neg q]; congr 1; omega
theorem logM_get {p : Int} {b : List term.den} : ∀ {a : List term.den} {m : Lg} (e : ex.den), mgI (logM p b a m) e % p = (mgI m e + mulN a b e) % p
  | [], m, e => by simp [logM, mulN, lsum]
  | t :: a, m, e => by
    simp only [logM]
    rw [logM_get (a := a) e, Int.add_emod, logR_get e, ← Int.add_emod]
    simp only [mulN, lsum]
    congr 1; omega
theorem logR_rng {p : Int} (hp : 0 < p) {t : term.den} : ∀ {b : List term.den} {m : Lg}, (∀ e, 0 ≤ mgI m e ∧ mgI m e < p) → ∀ e, 0 ≤ mgI (logR p t b m) e ∧ mgI (logR p t b m) e < p
  | [], m, h, e => h e
  | s :: b, m, h, e => logR_rng hp (b := b) (fun e => by
      rw [mgI_cons]; split
      · exact ⟨Int.emod_nonneg _ (by omega), Int.emod_lt_of_pos _ hp⟩
      · exact h e) e
theorem logM_rng {p : Int} (hp : 0 < p) {b : List term.den} : ∀ {a : List term.den} {m : Lg}, (∀ e, 0 ≤ mgI m e ∧ mgI m e < p) → ∀ e, 0 ≤ mgI (logM p b a m) e ∧ mgI (logM p b a m) e < p
  | [], m, h, e => h e
  | t :: a, m, h, e => logM_rng hp (a := a) (logR_rng hp h) e
theorem logR_keys {p : Int} {t : term.den} : ∀ {b : List term.den} {m : Lg}, (∀ q ∈ lkeys (logR p t b m), q ∈ lkeys m ∨ ∃ s ∈ b, addX t.1 s.1 = q) ∧ (lkeys (logR p t b m)).length ≤ (lkeys m).length + b.length
  | [], m => ⟨fun q h => .inl h, Nat.le_refl _⟩
  | s :: r, m => by
    obtain ⟨a, b⟩ := logR_keys (p := p) (t := t) (b := r) (m := (addX t.1 s.1, (mgI m (addX t.1 s.1) + nT t * nT s) % p) :: m)
    obtain ⟨c, d⟩ := lkeys_cons (x := addX t.1 s.1) (y := (mgI m (addX t.1 s.1) + nT t * nT s) % p) (m := m)
    refine ⟨fun q h => ?_, ?_⟩
    · rcases a q h with h | ⟨s, hs, e⟩
      · rcases c q h with h | h
        · exact .inr ⟨s, .head _, h.symm⟩
        · exact .inl h
      · exact .inr ⟨s, .tail _ hs, e⟩
    · refine Nat.le_trans b ?_
      simp only [List.length_cons]; omega
theorem logM_keys {p : Int} {b : List term.den} : ∀ {a : List term.den} {m : Lg}, ∀ q ∈ lkeys (logM p b a m), q ∈ lkeys m ∨ ∃ t ∈ a, ∃ s ∈ b, addX t.1 s.1 = q
  | [], m, q, h => .inl h
  | t :: a, m, q, h => by
    rcases logM_keys (a := a) q h with h | ⟨t', ht, s, hs, e⟩
    · rcases logR_keys.1 q h with h | ⟨s, hs, e⟩
      · exact .inl h
      · exact .inr ⟨t, .head _, s, hs, e⟩
    · exact .inr ⟨t', .tail _ ht, s, hs, e⟩
/-- Keys of a small degree are few. -/
theorem keys_len {d : Int} {m : Lg} (h : ∀ q ∈ lkeys m, okX q ∧ degX q ≤ d) (hd : d ≤ 99) : (lkeys m).length ≤ 1000000 := by
  have nd : ((lkeys m).map fun e => ((x0 e).toNat * 10000 + (x1 e).toNat * 100 + (x2 e).toNat)).Nodup := by
    refine List.pairwise_map.2 (List.Pairwise.imp_of_mem ?_ (lkeys_nodup (m := m)))
    intro a b ha hb hab e
    have oa := okX_rng (h a ha).1
    have ob := okX_rng (h b hb).1
    have da := (h a ha).2
    have db := (h b hb).2
    rw [degX_eq] at da db
    have e0 : x0 a = x0 b := by omega
    have e1 : x1 a = x1 b := by omega
    have e2 : x2 a = x2 b := by omega
    exact hab (Prod.ext e0 (Prod.ext e1 (Prod.ext e2 rfl)))
  have := len_sub (R := List.range 1000000) nd fun z hz => by
    obtain ⟨t, ht, rfl⟩ := List.mem_map.1 hz
    have ot := okX_rng (h t ht).1
    have dt := (h t ht).2
    rw [degX_eq] at dt
    exact List.mem_range.2 (by omega)
  simpa using this
/-- The map's product is the reference's. -/
theorem mul_same {p v d e : Int} {a b : List term.den} (h1 : 0 < p) (h2 : p ≤ 1000000) (ha : CanT p a) (hb : CanT p b) (d1 : DegLe d a) (d2 : DegLe e b) (l1 : d ≤ 49) (l2 : e ≤ 49) :
    sumP p v (logM p b a []) = (p, v, timesP p a b, ()) ∧ (lkeys (logM p b a [])).length ≤ 1000000 := by
  have ok : ∀ q ∈ lkeys (logM p b a []), okX q ∧ degX q ≤ d + e := fun q hq => by
    rcases logM_keys q hq with h | ⟨t, ht, s, hs, rfl⟩
    · cases h
    · have := d1 t ht
      have := d2 s hs
      exact ⟨okX_add (ha.ok t ht).1 (hb.ok s hs).1 (by omega) (by omega), by rw [degX_add]; omega⟩
  obtain ⟨s1, s2⟩ := sumP_can (v := v) h1 h2 fun q hq => (ok q hq).1
  obtain ⟨q1, q2⟩ := timesP_can h1 (small ha d1 (by omega)) (small hb d2 (by omega))
  refine ⟨?_, keys_len ok (by omega)⟩
  have : (sumP p v (logM p b a [])).2.2.1 = timesP p a b := can_unique s1 q1 fun e => by
    rw [s2 e, q2 e]
    show mgI _ e % p = _
    rw [logM_get, show mgI [] e = 0 from rfl, Int.zero_add]
  show (p, v, (sumP p v (logM p b a [])).2.2.1, ()) = _
  rw [this]

end Go.Proofs.YtkoifikjfnbcpaaEv
