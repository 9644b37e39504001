/- The lists of numbers for which the sum of the numbers times rows is 0: by one reduced list of long rows, or row by row. -/
import Derived.Test.YtkoifikjfnbcpaaEvLinB
set_option linter.unusedVariables false
set_option linter.unusedSimpArgs false
namespace Go.Proofs.YtkoifikjfnbcpaaEv
open Go Go.RowKit

/-- A row in the space of some rows. -/
def Spn (p : Int) (m : Nat) (R : List (List Int)) (v : List Int) : Prop := ∀ Q : List Int → Prop, Lin p m Q → (∀ x, Can p m x → (∀ i, el x i = 0) → Q x) → (∀ r ∈ R, Q r) → Q v

section
variable {p : Int} {m : Nat}

theorem spn_lin {R : List (List Int)} : Lin p m (Spn p m R) := ⟨fun k a b ha hb qa qb Q l z h => l.sub k a b ha hb (qa Q l z h) (qb Q l z h), fun c a ha qa Q l z h => l.scl c a ha (qa Q l z h)⟩
theorem spn_zero {R : List (List Int)} {x : List Int} (hx : Can p m x) (h : ∀ i, el x i = 0) : Spn p m R x := fun Q l z _ => z x hx h
theorem spn_mem {R : List (List Int)} {x : List Int} (h : x ∈ R) : Spn p m R x := fun Q l z hr => hr x h
theorem spn_trans {R S : List (List Int)} {x : List Int} (h : Spn p m R x) (hr : ∀ r ∈ R, Spn p m S r) : Spn p m S x := fun Q l z hs => h Q l z fun r h' => hr r h' Q l z hs
theorem spn_zr (hP : isP p = true) {R : List (List Int)} {x : List Int} (hr : ∀ r ∈ R, Can p m r) (h : Spn p m R x) : Zr p (ech p R) x := by
  have hp := isP_pos hP
  exact h _ (zr_lin (by omega)) (fun x _ hx => zr_zero hx) (ech_zr hP hr)
theorem zr_spn (hP : isP p = true) {R : List (List Int)} {x : List Int} (hr : ∀ r ∈ R, Can p m r) (hx : Can p m x) (h : Zr p (ech p R) x) : Spn p m R x := fun Q l z hq => by
  have hp := isP_pos hP
  exact zr_Q (by omega) l z (ech_RR hP hr) hx h (ech_lin hP l fun r h' => ⟨hr r h', hq r h'⟩)
theorem ech_span (hP : isP p = true) {A B : List (List Int)} (ha : ∀ r ∈ A, Can p m r) (hb : ∀ r ∈ B, Can p m r) (h1 : ∀ a ∈ A, Spn p m B a) (h2 : ∀ b ∈ B, Spn p m A b) : ech p A = ech p B :=
  ech_eq hP ha hb (fun a h => spn_zr hP hb (h1 a h)) (fun b h => spn_zr hP ha (h2 b h))
theorem ech_self (hP : isP p = true) {A : List (List Int)} (ra : RR p m A) : ech p A = A := by
  have hp := isP_pos hP
  exact RR_unique (by omega) (ech_RR hP ra.can) ra (ech_lin hP (zr_lin (by omega)) fun r h => ⟨ra.can r h, zr_own (by omega) ra h⟩) (ech_zr hP ra.can)
theorem ech_spn (hP : isP p = true) {R : List (List Int)} (hr : ∀ r ∈ R, Can p m r) : ∀ x ∈ ech p R, Spn p m R x := ech_lin hP spn_lin fun r h => ⟨hr r h, spn_mem h⟩

/-- A sum of multiples. -/
def comb (p : Int) (m : Nat) (f : Nat → List Int) (c : Nat → Int) : Nat → List Int
  | 0 => List.replicate m 0
  | k + 1 => subm p (-(c k)) (comb p m f c k) (f k)
theorem el_rep (m i : Nat) : el (List.replicate m (0 : Int)) i = 0 := by
  rcases Nat.lt_or_ge i m with q | q
  · simp [el, List.getD_eq_getElem?_getD, q]
  · exact el_ge (by simpa using q)
theorem zeros_can (hp : 0 < p) : Can p m (List.replicate m 0) := ⟨by simp, fun i => by rw [el_rep]; omega⟩
theorem lsum_range {f : Nat → Int} {k : Nat} : lsum f (List.range (k + 1)) = lsum f (List.range k) + f k := by
  rw [List.range_succ, lsum_append]; simp [lsum]
theorem comb_can (hp : 0 < p) {f : Nat → List Int} {c : Nat → Int} : ∀ {k : Nat}, (∀ j, j < k → (f j).length = m) → Can p m (comb p m f c k)
  | 0, _ => zeros_can hp
  | k + 1, h => Can.subm hp (comb_can hp (fun j hj => h j (by omega))).len (h k (by omega))
theorem comb_el (hp : 0 < p) {f : Nat → List Int} {c : Nat → Int} : ∀ {k : Nat}, (∀ j, j < k → (f j).length = m) → ∀ i, el (comb p m f c k) i = lsum (fun j => c j * el (f j) i) (List.range k) % p
  | 0, _, i => by
    show el (List.replicate m 0) i = _
    rw [el_rep]; simp [lsum]
  | k + 1, h, i => by
    have ih := comb_el hp (c := c) (k := k) (fun j hj => h j (by omega)) i
    have hl := (comb_can hp (c := c) (k := k) (fun j hj => h j (by omega))).len
    simp only [comb]
    rw [el_subm (by rw [hl, h k (by omega)]), ih, lsum_range, Int.emod_sub_emod, Int.neg_mul]
    congr 1; omega
theorem comb_Q (hp : 0 < p) {Q : List Int → Prop} (l : Lin p m Q) (z : ∀ x, Can p m x → (∀ i, el x i = 0) → Q x) {f : Nat → List Int} {c : Nat → Int} : ∀ {k : Nat}, (∀ j, j < k → Can p m (f j) ∧ Q (f j)) → Q (comb p m f c k)
  | 0, _ => z _ (zeros_can hp) (el_rep m)
  | k + 1, h => l.sub _ _ _ (comb_can hp fun j hj => (h j (by omega)).1.len) (h k (by omega)).1 (comb_Q hp l z fun j hj => h j (by omega)) (h k (by omega)).2
end

section
variable {p : Int} {w n : Nat}

theorem el_drop {r : List Int} {i : Nat} : el (r.drop w) i = el r (w + i) := by simp [el, List.getD_eq_getElem?_getD, List.getElem?_drop]
theorem el_app_l {a b : List Int} {i : Nat} (h : i < a.length) : el (a ++ b) i = el a i := by simp [el, List.getD_eq_getElem?_getD, List.getElem?_append_left h]
theorem el_app_r {a b : List Int} {i : Nat} : el (a ++ b) (a.length + i) = el b i := by
  simp [el, List.getD_eq_getElem?_getD, List.getElem?_append_right (Nat.le_add_right _ _)]
theorem drop_can {r : List Int} (h : Can p (w + n) r) : Can p n (r.drop w) := ⟨by simp [h.len], fun i => by rw [el_drop]; exact h.rng _⟩
theorem app_can {a b : List Int} (ha : Can p w a) (hb : Can p n b) : Can p (w + n) (a ++ b) := by
  refine ⟨by simp [ha.len, hb.len], fun i => ?_⟩
  rcases Nat.lt_or_ge i a.length with q | q
  · rw [el_app_l q]; exact ha.rng i
  · rw [show i = a.length + (i - a.length) by omega, el_app_r]; exact hb.rng _
/-- Nothing, and some numbers behind. -/
def pad (w : Nat) (c : List Int) : List Int := List.replicate w 0 ++ c
theorem pad_can (hp : 0 < p) {c : List Int} (h : Can p n c) : Can p (w + n) (pad w c) := app_can (zeros_can hp) h
theorem pad_l {c : List Int} {i : Nat} (h : i < w) : el (pad w c) i = 0 := by unfold pad; rw [el_app_l (by simpa using h), el_rep]
theorem pad_r {c : List Int} {i : Nat} : el (pad w c) (w + i) = el c i := by
  have := el_app_r (a := List.replicate w 0) (b := c) (i := i)
  simpa [pad] using this
theorem pad_drop {c : List Int} : (pad w c).drop w = c := by simp [pad]
theorem drop_pad {r : List Int} (h : Can p (w + n) r) (hl : w ≤ ld r) : pad w (r.drop w) = r := by
  refine row_ext (by simp [pad, h.len]) fun i => ?_
  rcases Nat.lt_or_ge i w with q | q
  · rw [pad_l q, ld_zero r i (by omega)]
  · rw [show i = w + (i - w) by omega, pad_r, el_drop]
theorem ld_drop {r : List Int} (h : w ≤ ld r) (hl : ld r < r.length) : ld (r.drop w) = ld r - w := by
  refine ld_eq ?_ fun j hj => ?_
  · rw [el_drop, show w + (ld r - w) = ld r by omega]; exact ld_ne r hl
  · rw [el_drop]; exact ld_zero r _ (by omega)

def uni (n i : Nat) : List Int := (List.replicate n (0 : Int)).set i 1
theorem uni_el {i j : Nat} (hi : i < n) : el (uni n i) j = if i = j then 1 else 0 := by
  simp only [el, uni, List.getD_eq_getElem?_getD, List.getElem?_set]
  by_cases q : i = j
  · subst q; simp [hi]
  · rw [if_neg q, if_neg q]
    have := el_rep n j
    simpa [el, List.getD_eq_getElem?_getD] using this
theorem uni_can (hp : 1 < p) {i : Nat} (hi : i < n) : Can p n (uni n i) := ⟨by simp [uni], fun j => by rw [uni_el hi]; split <;> omega⟩
/-- A row with its number behind. -/
def lng (n : Nat) (rows : List (List Int)) (i : Nat) : List Int := rows.getD i [] ++ uni n i
theorem row_can {rows : List (List Int)} (h : ∀ r ∈ rows, Can p w r) {i : Nat} (hi : i < rows.length) : Can p w (rows.getD i []) := by
  rw [List.getD_eq_getElem?_getD, List.getElem?_eq_getElem hi]; exact h _ (List.getElem_mem hi)
theorem lng_can (hp : 1 < p) {rows : List (List Int)} (h : ∀ r ∈ rows, Can p w r) (hn : rows.length = n) {i : Nat} (hi : i < n) : Can p (w + n) (lng n rows i) := app_can (row_can h (by omega)) (uni_can hp hi)
theorem lng_l {rows : List (List Int)} (h : ∀ r ∈ rows, Can p w r) {i j : Nat} (hi : i < rows.length) (hj : j < w) : el (lng n rows i) j = el (rows.getD i []) j := el_app_l (by rw [(row_can h hi).len]; exact hj)
theorem lng_r {rows : List (List Int)} (h : ∀ r ∈ rows, Can p w r) {i j : Nat} (hi : i < rows.length) (hn : i < n) : el (lng n rows i) (w + j) = if i = j then 1 else 0 := by
  have := el_app_r (a := rows.getD i []) (b := uni n i) (i := j)
  rw [(row_can h hi).len] at this
  rw [lng, this, uni_el hn]

/-- The numbers behind tell the numbers ahead. -/
def Gra (p : Int) (w n : Nat) (rows : List (List Int)) (v : List Int) : Prop := ∀ i, i < w → (el v i - lsum (fun j => el v (w + j) * el (rows.getD j []) i) (List.range n)) % p = 0
theorem gra_lin {rows : List (List Int)} : Lin p (w + n) (Gra p w n rows) := by
  refine ⟨fun k a b ha hb qa qb i hi => ?_, fun c a ha qa i hi => ?_⟩
  · have hl : a.length = b.length := by rw [ha.len, hb.len]
    have e : lsum (fun j => el (subm p k a b) (w + j) * el (rows.getD j []) i) (List.range n) % p = (lsum (fun j => el a (w + j) * el (rows.getD j []) i) (List.range n) - k * lsum (fun j => el b (w + j) * el (rows.getD j []) i) (List.range n)) % p := by
      rw [lsum_mod (g := fun j => el a (w + j) * el (rows.getD j []) i + (-k) * (el b (w + j) * el (rows.getD j []) i)) fun o _ => ?_, lsum_add, lsum_mul]
      · congr 1; rw [Int.neg_mul]; omega
      · rw [el_subm hl, Int.mul_emod, Int.emod_emod_of_dvd _ (Int.dvd_refl p), ← Int.mul_emod]
        congr 1; rw [Int.sub_mul, Int.neg_mul, Int.mul_assoc]; omega
    rw [Int.sub_emod, e, el_subm hl, Int.emod_emod_of_dvd _ (Int.dvd_refl p), ← Int.sub_emod]
    have h1 := qa i hi
    have h2 := qb i hi
    generalize lsum (fun j => el a (w + j) * el (rows.getD j []) i) (List.range n) = x at *
    generalize lsum (fun j => el b (w + j) * el (rows.getD j []) i) (List.range n) = y at *
    have : el a i - k * el b i - (x - k * y) = (el a i - x) - k * (el b i - y) := by rw [Int.mul_sub]; omega
    rw [this, Int.sub_emod, h1, Int.mul_emod, h2]; simp
  · have e : lsum (fun j => el (scl p c a) (w + j) * el (rows.getD j []) i) (List.range n) % p = (c * lsum (fun j => el a (w + j) * el (rows.getD j []) i) (List.range n)) % p := by
      rw [lsum_mod (g := fun j => c * (el a (w + j) * el (rows.getD j []) i)) fun o _ => ?_, lsum_mul]
      rw [el_scl, Int.mul_emod, Int.emod_emod_of_dvd _ (Int.dvd_refl p), ← Int.mul_emod]
      congr 1; rw [Int.mul_comm (el a (w + o)) c, Int.mul_assoc]
    rw [Int.sub_emod, e, el_scl, Int.emod_emod_of_dvd _ (Int.dvd_refl p), ← Int.sub_emod]
    have h1 := qa i hi
    generalize lsum (fun j => el a (w + j) * el (rows.getD j []) i) (List.range n) = x at *
    have : el a i * c - c * x = c * (el a i - x) := by rw [Int.mul_sub, Int.mul_comm]
    rw [this, Int.mul_emod, h1]; simp
theorem lsum_delta {f : Nat → Int} {k : Nat} : ∀ {n : Nat}, k < n → lsum (fun j => (if k = j then 1 else 0) * f j) (List.range n) = f k
  | n + 1, h => by
    rw [lsum_range]
    by_cases q : k = n
    · subst q
      rw [lsum_zero fun x hx => by have := List.mem_range.1 hx; rw [if_neg (by omega), Int.zero_mul], if_pos rfl]; omega
    · rw [lsum_delta (n := n) (by omega), if_neg q]; omega
theorem lng_gra {rows : List (List Int)} (h : ∀ r ∈ rows, Can p w r) (hn : rows.length = n) {i : Nat} (hi : i < n) : Gra p w n rows (lng n rows i) := fun k hk => by
  rw [lng_l h (by omega) hk]
  have e : lsum (fun j => el (lng n rows i) (w + j) * el (rows.getD j []) k) (List.range n) = lsum (fun j => (if i = j then 1 else 0) * el (rows.getD j []) k) (List.range n) := lsum_congr fun j hj => by rw [lng_r h (by omega) hi]
  rw [e, lsum_delta hi]; simp
theorem gra_zero {rows : List (List Int)} {v : List Int} (h : ∀ i, el v i = 0) : Gra p w n rows v := fun i hi => by
  rw [h i, lsum_zero fun j _ => by rw [h, Int.zero_mul]]; simp

/-- Numbers for which the sum of multiples is 0. -/
structure Ker (p : Int) (w n : Nat) (rows : List (List Int)) (c : List Int) : Prop where
  can : Can p n c
  zero : ∀ i, i < w → lsum (fun j => el c j * el (rows.getD j []) i) (List.range n) % p = 0
theorem neg_mod0 {x : Int} (h : -x % p = 0) : x % p = 0 := Int.emod_eq_zero_of_dvd (Int.dvd_neg.1 (Int.dvd_of_emod_eq_zero h))
theorem gra_ker {rows : List (List Int)} {v : List Int} (hv : Can p (w + n) v) (hl : w ≤ ld v) (h : Gra p w n rows v) : Ker p w n rows (v.drop w) := by
  refine ⟨drop_can hv, fun i hi => ?_⟩
  have := h i hi
  rw [ld_zero v i (by omega), Int.zero_sub] at this
  rw [← neg_mod0 this]
  congr 1
  exact lsum_congr fun j _ => by rw [el_drop]
def longs (rows : List (List Int)) : List (List Int) := (List.range rows.length).map (lng rows.length rows)
theorem ker_long (hp : 1 < p) {rows : List (List Int)} (h : ∀ r ∈ rows, Can p w r) {c : List Int} (k : Ker p w rows.length rows c) : Spn p (w + rows.length) (longs rows) (pad w c) := fun Q l z hq => by
  have hc : ∀ j, j < rows.length → Can p (w + rows.length) (lng rows.length rows j) := fun j hj => lng_can hp h rfl hj
  have e : comb p (w + rows.length) (lng rows.length rows) (el c) rows.length = pad w c := by
    refine row_ext (by rw [(comb_can (by omega) fun j hj => (hc j hj).len).len, (pad_can (by omega) k.can).len]) fun i => ?_
    rw [comb_el (by omega) fun j hj => (hc j hj).len]
    rcases Nat.lt_or_ge i w with q | q
    · rw [pad_l q, lsum_congr (g := fun j => el c j * el (rows.getD j []) i) fun j hj => by rw [lng_l h (List.mem_range.1 hj) q]]
      exact k.zero i q
    · obtain ⟨t, rfl⟩ : ∃ t, i = w + t := ⟨i - w, by omega⟩
      rw [pad_r]
      rcases Nat.lt_or_ge t rows.length with z | z
      · rw [lsum_congr (g := fun j => (if t = j then 1 else 0) * el c j) fun j hj => by
          rw [lng_r h (List.mem_range.1 hj) (List.mem_range.1 hj), Int.mul_comm]
          by_cases q : j = t
          · rw [if_pos q, if_pos q.symm]
          · rw [if_neg q, if_neg fun e => q e.symm], lsum_delta z]
        exact k.can.mod t
      · rw [el_ge (show c.length ≤ t by rw [k.can.len]; exact z), lsum_zero fun j hj => by
          have := List.mem_range.1 hj
          rw [lng_r h this this, if_neg (by omega), Int.mul_zero]]
        simp
  rw [← e]
  exact comb_Q (by omega) l z fun j hj => ⟨hc j hj, hq _ (List.mem_map_of_mem (List.mem_range.2 hj))⟩
theorem longs_can (hp : 1 < p) {rows : List (List Int)} (h : ∀ r ∈ rows, Can p w r) : ∀ r ∈ longs rows, Can p (w + rows.length) r := fun r hr => by
  obtain ⟨i, hi, rfl⟩ := List.mem_map.1 hr
  exact lng_can hp h rfl (List.mem_range.1 hi)

/-- The reference's kernel. -/
def kerL (p : Int) (w : Nat) (rows : List (List Int)) : List (List Int) := ((ech p (longs rows)).filter fun r => decide (w ≤ ld r)).map (List.drop w)
theorem kerL_RR (hP : isP p = true) {rows : List (List Int)} (h : ∀ r ∈ rows, Can p w r) : RR p rows.length (kerL p w rows) := by
  have hp := isP_pos hP
  have rr := ech_RR hP (longs_can (by omega) h)
  have mem : ∀ x ∈ kerL p w rows, ∃ r ∈ ech p (longs rows), w ≤ ld r ∧ x = r.drop w := fun x hx => by
    obtain ⟨r, hr, rfl⟩ := List.mem_map.1 hx
    obtain ⟨h1, h2⟩ := List.mem_filter.1 hr
    exact ⟨r, h1, by simpa using h2, rfl⟩
  have lens : ∀ r ∈ ech p (longs rows), ld r < r.length := fun r hr => by rw [(rr.can r hr).len]; exact rr.lt r hr
  refine ⟨fun x hx => ?_, fun x hx => ?_, fun x hx => ?_, ?_⟩
  · obtain ⟨r, h1, h2, rfl⟩ := mem x hx; exact drop_can (rr.can r h1)
  · obtain ⟨r, h1, h2, rfl⟩ := mem x hx
    rw [ld_drop h2 (lens r h1)]; have := rr.lt r h1; omega
  · obtain ⟨r, h1, h2, rfl⟩ := mem x hx
    rw [ld_drop h2 (lens r h1), el_drop, show w + (ld r - w) = ld r by omega]; exact rr.one r h1
  · refine List.pairwise_map.2 ?_
    refine List.Pairwise.imp_of_mem ?_ (rr.ord.sublist List.filter_sublist)
    intro a b ha hb hab
    obtain ⟨a1, a2⟩ := List.mem_filter.1 ha
    obtain ⟨b1, b2⟩ := List.mem_filter.1 hb
    have a2 : w ≤ ld a := by simpa using a2
    have b2 : w ≤ ld b := by simpa using b2
    rw [ld_drop a2 (lens a a1), ld_drop b2 (lens b b1), el_drop, show w + (ld b - w) = ld b by omega]
    exact ⟨by omega, hab.2⟩
theorem kerL_ker (hP : isP p = true) {rows : List (List Int)} (h : ∀ r ∈ rows, Can p w r) : ∀ x ∈ kerL p w rows, Ker p w rows.length rows x := fun x hx => by
  have hp := isP_pos hP
  obtain ⟨r, hr, rfl⟩ := List.mem_map.1 hx
  obtain ⟨h1, h2⟩ := List.mem_filter.1 hr
  have rr := ech_RR hP (longs_can (by omega) h)
  refine gra_ker (rr.can r h1) (by simpa using h2) (ech_lin hP gra_lin (fun v hv => ⟨longs_can (by omega) h v hv, ?_⟩) r h1)
  obtain ⟨i, hi, rfl⟩ := List.mem_map.1 hv
  exact lng_gra h rfl (List.mem_range.1 hi)
theorem ker_zr (hP : isP p = true) {rows : List (List Int)} (h : ∀ r ∈ rows, Can p w r) {c : List Int} (k : Ker p w rows.length rows c) : Zr p (kerL p w rows) c := fun i => by
  have hp := isP_pos hP
  have rr := ech_RR hP (longs_can (by omega) h)
  have z := spn_zr hP (longs_can (by omega) h) (ker_long (by omega) h k) (w + i)
  rw [pad_r] at z
  have e : ∀ {L : List (List Int)}, (∀ r ∈ L, ld r < r.length) → lsum (fun o => el (pad w c) (ld o) * el o (w + i)) L = lsum (fun o => el c (ld o) * el o i) ((L.filter fun r => decide (w ≤ ld r)).map (List.drop w)) := by
    intro L
    induction L with
    | nil => intro _; rfl
    | cons o L ih =>
      intro hl
      rw [List.filter_cons]
      simp only [lsum]
      rw [ih fun r hr => hl r (.tail _ hr)]
      by_cases q : w ≤ ld o
      · rw [decide_eq_true q, if_pos rfl]
        simp only [List.map_cons, lsum]
        have e1 : el (pad w c) (ld o) = el c (ld o - w) := by
          have := pad_r (w := w) (c := c) (i := ld o - w)
          rwa [show w + (ld o - w) = ld o by omega] at this
        rw [ld_drop q (hl o (.head _)), el_drop, e1]
      · rw [decide_eq_false q, pad_l (by omega)]; simp
  rw [e fun r hr => by rw [(rr.can r hr).len]; exact rr.lt r hr] at z
  exact z
/-- Lists that span the kernel have the kernel as their reduced list. -/
theorem ker_ech (hP : isP p = true) {rows out : List (List Int)} (h : ∀ r ∈ rows, Can p w r) (h1 : ∀ u ∈ out, Ker p w rows.length rows u) (h2 : ∀ c, Ker p w rows.length rows c → Spn p rows.length out c) : ech p out = kerL p w rows := by
  have hp := isP_pos hP
  have hc : ∀ u ∈ out, Can p rows.length u := fun u hu => (h1 u hu).can
  exact RR_unique (by omega) (ech_RR hP hc) (kerL_RR hP h) (ech_lin hP (zr_lin (by omega)) fun u hu => ⟨hc u hu, ker_zr hP h (h1 u hu)⟩) fun x hx => spn_zr hP hc (h2 x (kerL_ker hP h x hx))

/-- One row more, in the program's kernel. -/
def kerStep (p : Int) (w : Nat) (s : List (List Int) × List (List Int)) (v : List Int) : List (List Int) × List (List Int) :=
  if w ≤ ld (rest p s.1 v) then (s.1, s.2 ++ [(rest p s.1 v).drop w]) else (s.1.map (red p (scl p (inv p (el (rest p s.1 v) (ld (rest p s.1 v)))) (rest p s.1 v)) (ld (rest p s.1 v))) ++ [scl p (inv p (el (rest p s.1 v) (ld (rest p s.1 v)))) (rest p s.1 v)], s.2)
def kerI (p : Int) (w : Nat) (rows : List (List Int)) (i : Nat) : List (List Int) × List (List Int) := ((List.range i).map (lng rows.length rows)).foldl (kerStep p w) ([], [])

structure KInv (p : Int) (w : Nat) (rows : List (List Int)) (i : Nat) (known out : List (List Int)) : Prop where
  perm : ∃ b, known.Perm b ∧ RR p (w + rows.length) b
  low : ∀ o ∈ known, ld o < w
  new : ∀ o ∈ known, ∀ j, i ≤ j → el o (w + j) = 0
  gra : ∀ o ∈ known, Gra p w rows.length rows o
  ker : ∀ u ∈ out, Ker p w rows.length rows u
  spn : ∀ j, j < i → Spn p (w + rows.length) (known ++ out.map (pad w)) (lng rows.length rows j)
  len : known.length ≤ i ∧ out.length ≤ i

theorem kerI_succ {rows : List (List Int)} {i : Nat} : kerI p w rows (i + 1) = kerStep p w (kerI p w rows i) (lng rows.length rows i) := by
  simp [kerI, List.range_succ, List.foldl_append]
/-- What is left of a row with its number is not nothing. -/
theorem kinv_ld (hP : isP p = true) {rows : List (List Int)} (h : ∀ r ∈ rows, Can p w r) {i : Nat} {known out : List (List Int)} (hi : i < rows.length) (k : KInv p w rows i known out) :
    Can p (w + rows.length) (rest p known (lng rows.length rows i)) ∧ ld (rest p known (lng rows.length rows i)) < w + rows.length := by
  have hp := isP_pos hP
  obtain ⟨b, hb, rr⟩ := k.perm
  have cl := lng_can (by omega) h rfl hi
  have ck : ∀ o ∈ known, Can p (w + rows.length) o := fun o ho => rr.can o (hb.mem_iff.1 ho)
  have c := rest_can (by omega) ck cl
  refine ⟨c, ?_⟩
  have : el (rest p known (lng rows.length rows i)) (w + i) ≠ 0 := by
    rw [rest_keep (by omega) (fun o ho => ⟨ck o ho, k.new o ho i (Nat.le_refl _)⟩) cl, lng_r h hi hi, if_pos rfl]; omega
  have := ld_lt this
  rwa [c.len] at this
theorem kinv_step (hP : isP p = true) {rows : List (List Int)} (h : ∀ r ∈ rows, Can p w r) {i : Nat} {known out : List (List Int)} (hi : i < rows.length) (k : KInv p w rows i known out) :
    KInv p w rows (i + 1) (kerStep p w (known, out) (lng rows.length rows i)).1 (kerStep p w (known, out) (lng rows.length rows i)).2 := by
  have hp := isP_pos hP
  obtain ⟨b, hb, rr⟩ := k.perm
  obtain ⟨c, hl⟩ := kinv_ld hP h hi k
  have cl := lng_can (by omega) h rfl hi
  have ck : ∀ o ∈ known, Can p (w + rows.length) o := fun o ho => rr.can o (hb.mem_iff.1 ho)
  have gr : Gra p w rows.length rows (rest p known (lng rows.length rows i)) := rest_lin (by omega) gra_lin (fun o ho => ⟨ck o ho, k.gra o ho⟩) cl (lng_gra h rfl hi)
  unfold kerStep
  simp only
  split
  · rename_i hw
    refine ⟨k.perm, k.low, fun o ho j hj => k.new o ho j (by omega), k.gra, fun u hu => ?_, fun j hj Q l z hq => ?_, ⟨by have := k.len; show known.length ≤ i + 1; omega, by have := k.len; simp; omega⟩⟩
    · rcases List.mem_append.1 hu with hu | hu
      · exact k.ker u hu
      · obtain rfl : u = _ := by simpa using hu
        exact gra_ker c hw gr
    · have q1 : ∀ o ∈ known, Q o := fun o ho => hq o (List.mem_append_left _ ho)
      by_cases e : j = i
      · subst e
        refine rest_rev (by omega) l (fun o ho => ⟨ck o ho, q1 o ho⟩) cl ?_
        rw [← drop_pad c hw]
        exact hq _ (List.mem_append_right _ (by simp))
      · exact k.spn j (by omega) Q l z fun r hr => by
          rcases List.mem_append.1 hr with hr | hr
          · exact q1 r hr
          · exact hq r (List.mem_append_right _ (by rw [List.map_append]; exact List.mem_append_left _ hr))
  · rename_i hw
    have hne : ld (rest p known (lng rows.length rows i)) ≠ (rest p known (lng rows.length rows i)).length := by rw [c.len]; omega
    have et : known.map (red p (scl p (inv p (el (rest p known (lng rows.length rows i)) (ld (rest p known (lng rows.length rows i))))) (rest p known (lng rows.length rows i))) (ld (rest p known (lng rows.length rows i)))) ++ [scl p (inv p (el (rest p known (lng rows.length rows i)) (ld (rest p known (lng rows.length rows i))))) (rest p known (lng rows.length rows i))] = takeL p known (lng rows.length rows i) := by
      unfold takeL; rw [if_neg hne]
    have hper := take_perm (by omega) hb rr cl
    have rr' := stepR_RR hP rr cl
    have e1 : rest p b (lng rows.length rows i) = rest p known (lng rows.length rows i) := (rest_perm (by omega) hb rr cl).symm
    have own := own_of hP rr cl (by rw [e1]; exact hne)
    rw [e1] at own
    have es : stepR p b (lng rows.length rows i) = ins p (scl p (inv p (el (rest p known (lng rows.length rows i)) (ld (rest p known (lng rows.length rows i))))) (rest p known (lng rows.length rows i))) (ld (rest p known (lng rows.length rows i))) b := by
      unfold stepR; rw [e1, if_neg hne]
    have memn : ∀ o, o ∈ takeL p known (lng rows.length rows i) → o = scl p (inv p (el (rest p known (lng rows.length rows i)) (ld (rest p known (lng rows.length rows i))))) (rest p known (lng rows.length rows i)) ∨ ∃ x ∈ known, o = red p (scl p (inv p (el (rest p known (lng rows.length rows i)) (ld (rest p known (lng rows.length rows i))))) (rest p known (lng rows.length rows i))) (ld (rest p known (lng rows.length rows i))) x := by
      intro o ho
      rw [← et] at ho
      rcases List.mem_append.1 ho with ho | ho
      · obtain ⟨x, hx, rfl⟩ := List.mem_map.1 ho; exact .inr ⟨x, hx, rfl⟩
      · exact .inl (by simpa using ho)
    rw [et]
    generalize ho : scl p (inv p (el (rest p known (lng rows.length rows i)) (ld (rest p known (lng rows.length rows i))))) (rest p known (lng rows.length rows i)) = ow at *
    have go : Gra p w rows.length rows ow := by rw [← ho]; exact gra_lin.scl _ _ c gr
    have no : ∀ j, i + 1 ≤ j → el ow (w + j) = 0 := fun j hj => by
      rw [← ho, el_scl, rest_keep (by omega) (fun o ho => ⟨ck o ho, k.new o ho j (by omega)⟩) cl, lng_r h hi hi, if_neg (by omega)]; simp
    refine ⟨⟨_, hper, rr'⟩, fun o ho => ?_, fun o ho j hj => ?_, fun o ho => ?_, k.ker, fun j hj Q l z hq => ?_, ?_⟩
    · rcases memn o ho with rfl | ⟨x, hx, rfl⟩
      · rw [own.led]; omega
      · rw [(red_of (by omega) own rr (hb.mem_iff.1 hx)).2.1]; exact k.low x hx
    · rcases memn o ho with rfl | ⟨x, hx, rfl⟩
      · exact no j hj
      · rw [(red_of (by omega) own rr (hb.mem_iff.1 hx)).2.2.2.2 _ (no j hj)]; exact k.new x hx j (by omega)
    · rcases memn o ho with rfl | ⟨x, hx, rfl⟩
      · exact go
      · exact gra_lin.sub _ _ _ (ck x hx) own.can (k.gra x hx) go
    · have q1 : ∀ x ∈ stepR p b (lng rows.length rows i), Q x := fun x hx => hq x (List.mem_append_left _ (hper.mem_iff.2 hx))
      obtain ⟨q2, q3⟩ := stepR_rev hP l z rr cl q1
      by_cases e : j = i
      · subst e; exact q3
      · exact k.spn j (by omega) Q l z fun r hr => by
          rcases List.mem_append.1 hr with hr | hr
          · exact q2 r (hb.mem_iff.1 hr)
          · exact hq r (List.mem_append_right _ hr)
    · have := takeL_len (p := p) (out := known) (r := lng rows.length rows i)
      have := k.len
      exact ⟨by show (takeL p known (lng rows.length rows i)).length ≤ i + 1; omega, by show out.length ≤ i + 1; omega⟩
theorem kinv (hP : isP p = true) {rows : List (List Int)} (h : ∀ r ∈ rows, Can p w r) : ∀ {i : Nat}, i ≤ rows.length → KInv p w rows i (kerI p w rows i).1 (kerI p w rows i).2
  | 0, _ => ⟨⟨[], .nil, .nil⟩, by simp [kerI], by simp [kerI], by simp [kerI], by simp [kerI], by omega, by simp [kerI]⟩
  | i + 1, hi => by
    rw [kerI_succ]
    exact kinv_step hP h (by omega) (kinv hP h (i := i) (by omega))

theorem rest_sub (hp : 0 < p) {m : Nat} {a b : List (List Int)} (hb : a.Perm b) (rr : RR p m b) {k : Int} {x y : List Int} (hx : Can p m x) (hy : Can p m y) : rest p a (subm p k x y) = subm p k (rest p a x) (rest p a y) := by
  have ca : ∀ o ∈ a, Can p m o := fun o ho => rr.can o (hb.mem_iff.1 ho)
  have cx := rest_can hp ca hx
  have cy := rest_can hp ca hy
  have cs := Can.subm (k := k) hp hx.len hy.len
  have hl : x.length = y.length := by rw [hx.len, hy.len]
  refine row_ext (by rw [(rest_can hp ca cs).len, subm_len (by rw [cx.len, cy.len]), cx.len]) fun i => ?_
  rw [rest_el hp ca (apart_perm hb rr) cs, el_subm (r := rest p a x) (o := rest p a y) (by rw [cx.len, cy.len]), rest_el hp ca (apart_perm hb rr) hx, rest_el hp ca (apart_perm hb rr) hy]
  have e : lsum (fun o => el (subm p k x y) (ld o) * el o i) a % p = (lsum (fun o => el x (ld o) * el o i) a - k * lsum (fun o => el y (ld o) * el o i) a) % p := by
    rw [lsum_mod (g := fun o => el x (ld o) * el o i + (-k) * (el y (ld o) * el o i)) fun o _ => ?_, lsum_add, lsum_mul]
    · congr 1; rw [Int.neg_mul]; omega
    · rw [el_subm hl, Int.mul_emod, Int.emod_emod_of_dvd _ (Int.dvd_refl p), ← Int.mul_emod]
      congr 1; rw [Int.sub_mul, Int.neg_mul, Int.mul_assoc]; omega
  generalize lsum (fun o => el x (ld o) * el o i) a = u at *
  generalize lsum (fun o => el y (ld o) * el o i) a = v at *
  rw [Int.sub_emod, e, el_subm hl, Int.emod_emod_of_dvd _ (Int.dvd_refl p), ← Int.sub_emod]
  rw [Int.emod_sub_emod, Int.sub_emod _ (k * _), Int.mul_emod k, Int.emod_emod_of_dvd _ (Int.dvd_refl p), ← Int.mul_emod, ← Int.sub_emod]
  congr 1; rw [Int.mul_sub]; omega
theorem rest_scl (hp : 0 < p) {m : Nat} {a b : List (List Int)} (hb : a.Perm b) (rr : RR p m b) {c : Int} {x : List Int} (hx : Can p m x) : rest p a (scl p c x) = scl p c (rest p a x) := by
  have ca : ∀ o ∈ a, Can p m o := fun o ho => rr.can o (hb.mem_iff.1 ho)
  have cx := rest_can hp ca hx
  have cs := Can.scl (c := c) hp hx.len
  refine row_ext (by rw [(rest_can hp ca cs).len, scl_len, cx.len]) fun i => ?_
  rw [rest_el hp ca (apart_perm hb rr) cs, el_scl (r := rest p a x), rest_el hp ca (apart_perm hb rr) hx]
  have e : lsum (fun o => el (scl p c x) (ld o) * el o i) a % p = (c * lsum (fun o => el x (ld o) * el o i) a) % p := by
    rw [lsum_mod (g := fun o => c * (el x (ld o) * el o i)) fun o _ => ?_, lsum_mul]
    rw [el_scl, Int.mul_emod, Int.emod_emod_of_dvd _ (Int.dvd_refl p), ← Int.mul_emod]
    congr 1; rw [Int.mul_comm (el x (ld o)) c, Int.mul_assoc]
  generalize lsum (fun o => el x (ld o) * el o i) a = u at *
  rw [Int.sub_emod, e, el_scl, Int.emod_emod_of_dvd _ (Int.dvd_refl p), ← Int.sub_emod, mulmod_l]
  congr 1; rw [Int.sub_mul, Int.mul_comm c u]
theorem drop_sub {k : Int} {x y : List Int} (h : x.length = y.length) : (subm p k x y).drop w = subm p k (x.drop w) (y.drop w) := by
  refine row_ext (by simp [subm, h]) fun i => ?_
  rw [el_drop, el_subm h, el_subm (by simp [h]), el_drop, el_drop]
theorem drop_scl {c : Int} {x : List Int} : (scl p c x).drop w = scl p c (x.drop w) := by simp [scl]

/-- The program's kernel spans the kernel. -/
theorem kinv_all (hP : isP p = true) {rows : List (List Int)} (h : ∀ r ∈ rows, Can p w r) {known out : List (List Int)} (k : KInv p w rows rows.length known out) {c : List Int} (kc : Ker p w rows.length rows c) : Spn p rows.length out c := by
  have hp := isP_pos hP
  obtain ⟨b, hb, rr⟩ := k.perm
  have ck : ∀ o ∈ known, Can p (w + rows.length) o := fun o ho => rr.can o (hb.mem_iff.1 ho)
  have same : ∀ {u : List Int}, Can p rows.length u → rest p known (pad w u) = pad w u := fun {u} hu => by
    have cp := pad_can (w := w) (by omega) hu
    refine row_ext (by rw [(rest_can (by omega) ck cp).len, cp.len]) fun i => ?_
    rw [rest_el (by omega) ck (apart_perm hb rr) cp, lsum_zero fun o ho => by rw [pad_l (k.low o ho), Int.zero_mul], Int.sub_zero, cp.mod]
  have l : Lin p (w + rows.length) fun v => Spn p rows.length out ((rest p known v).drop w) := by
    refine ⟨fun t x y hx hy qx qy => ?_, fun t x hx qx => ?_⟩
    · have cx := rest_can (by omega) ck hx
      have cy := rest_can (by omega) ck hy
      rw [rest_sub (by omega) hb rr hx hy, drop_sub (by rw [cx.len, cy.len])]
      exact spn_lin.sub _ _ _ (drop_can cx) (drop_can cy) qx qy
    · have cx := rest_can (by omega) ck hx
      rw [rest_scl (by omega) hb rr hx, drop_scl]
      exact spn_lin.scl _ _ (drop_can cx) qx
  have zero : ∀ x, Can p (w + rows.length) x → (∀ i, el (rest p known x) i = 0) → Spn p rows.length out ((rest p known x).drop w) := fun x hx hz => spn_zero (drop_can (rest_can (by omega) ck hx)) fun i => by rw [el_drop]; exact hz _
  have q : Spn p rows.length out ((rest p known (pad w c)).drop w) := by
    refine spn_trans (S := known ++ out.map (pad w)) (ker_long (by omega) h kc) (fun r hr => ?_) (fun v => Spn p rows.length out ((rest p known v).drop w)) l (fun x hx hz => zero x hx fun i => ?_) fun r hr => ?_
    · obtain ⟨j, hj, rfl⟩ := List.mem_map.1 hr
      exact k.spn j (List.mem_range.1 hj)
    · rw [rest_el (by omega) ck (apart_perm hb rr) hx, hz i, lsum_zero fun o _ => by rw [hz, Int.zero_mul]]; simp
    · rcases List.mem_append.1 hr with hr | hr
      · refine zero r (ck r hr) fun i => ?_
        rw [rest_el (by omega) ck (apart_perm hb rr) (ck r hr), lsum_perm hb]
        exact zr_own (by omega) rr (hb.mem_iff.1 hr) i
      · obtain ⟨u, hu, rfl⟩ := List.mem_map.1 hr
        rw [same (k.ker u hu).can, pad_drop]; exact spn_mem hu
  rwa [same kc.can, pad_drop] at q
theorem kerI_ech (hP : isP p = true) {rows : List (List Int)} (h : ∀ r ∈ rows, Can p w r) : ech p (kerI p w rows rows.length).2 = kerL p w rows := by
  have k := kinv hP h (Nat.le_refl rows.length)
  exact ker_ech hP h k.ker fun c hc => kinv_all hP h k hc
end
end Go.Proofs.YtkoifikjfnbcpaaEv
