/- A matrix beside the unit, reduced: the unit comes first just where the determinant is no multiple of p. -/
import Derived.Test.YtkoifikjfnbcpaaEvLin
set_option linter.unusedVariables false
set_option linter.unusedSimpArgs false
namespace Go.Proofs.YtkoifikjfnbcpaaEv

section
variable {p : Int} {m n : Nat}

theorem RR.incr {out : List (List Int)} (rr : RR p m out) {i j : Nat} (hij : i < j) (hj : j < out.length) : ld (out[i]'(by omega)) < ld out[j] :=
  (List.pairwise_iff_getElem.1 rr.ord i j (by omega) hj hij).1
theorem RR.ge {out : List (List Int)} (rr : RR p m out) : ∀ (i : Nat) (hi : i < out.length), i ≤ ld out[i]
  | 0, _ => Nat.zero_le _
  | i + 1, hi => by
    have h1 := rr.ge i (by omega)
    have h2 := rr.incr (i := i) (j := i + 1) (by omega) hi
    omega
theorem RR.le {out : List (List Int)} (rr : RR p m out) (h : ∀ r ∈ out, ld r < out.length) : ∀ (k i : Nat) (hi : i < out.length), out.length - 1 - i = k → ld out[i] ≤ i
  | 0, i, hi, hk => by
    have := h _ (List.getElem_mem hi); omega
  | k + 1, i, hi, hk => by
    have h1 := rr.le h k (i + 1) (by omega) (by omega)
    have h2 := rr.incr (i := i) (j := i + 1) (by omega) (by omega)
    omega
theorem RR.all {out : List (List Int)} (rr : RR p m out) (h : ∀ r ∈ out, ld r < out.length) (i : Nat) (hi : i < out.length) : ld out[i] = i := by
  have h1 := rr.ge i hi
  have h2 := rr.le h _ i hi rfl
  omega

theorem lin_zero {S : Nat → Prop} (hp : 0 < p) : Lin p m (fun r => ∀ i, S i → el r i = 0) where
  sub k a b ha hb qa qb i hi := by rw [el_subm (by rw [ha.len, hb.len]), qa i hi, qb i hi]; simp
  scl c a ha qa i hi := by rw [el_scl, qa i hi]; simp

theorem unit_len (hP : isP p = true) {rows : List (List Int)} (hl : rows.length = n) (hr : ∀ r ∈ rows, Can p (n + n) r) (hu : ∀ (i : Nat) (hi : i < rows.length), el rows[i] (n + i) = 1 ∧ ∀ i', i < i' → i' < n → el rows[i] (n + i') = 0) :
    ∀ i, i ≤ n → (ech p (rows.take i)).length = i ∧ ∀ r ∈ ech p (rows.take i), ∀ i', i ≤ i' → i' < n → el r (n + i') = 0
  | 0, _ => by simp [ech]
  | i + 1, hi => by
    have hp := isP_pos hP
    obtain ⟨h1, h2⟩ := unit_len hP hl hr hu i (by omega)
    have hil : i < rows.length := by omega
    have e : ech p (rows.take (i + 1)) = stepR p (ech p (rows.take i)) rows[i] := by
      rw [List.take_add_one, List.getElem?_eq_getElem hil]; simp only [Option.toList_some, ech, List.foldl_append, List.foldl_cons, List.foldl_nil]
    have rr : RR p (n + n) (ech p (rows.take i)) := ech_RR hP fun r h => hr r (List.mem_of_mem_take h)
    have cr := hr _ (List.getElem_mem hil)
    obtain ⟨u1, u2⟩ := hu i hil
    rw [e]
    generalize ech p (rows.take i) = out at *
    generalize rows[i] = r at *
    have k1 : el (rest p out r) (n + i) = 1 := by
      rw [rest_keep (m := n + n) (by omega) (fun o ho => ⟨rr.can o ho, h2 o ho i (Nat.le_refl _) (by omega)⟩) cr]; exact u1
    have k2 : ld (rest p out r) ≠ (rest p out r).length := by
      have := ld_lt (r := rest p out r) (i := n + i) (by rw [k1]; omega); omega
    refine ⟨by unfold stepR; rw [if_neg k2, ins_len, h1], fun x hx i' h3 h4 => ?_⟩
    have := stepR_lin hP (lin_zero (p := p) (m := n + n) (S := fun j => ∃ i', i + 1 ≤ i' ∧ i' < n ∧ j = n + i') (by omega)) rr cr
      (fun o ho j hj => by obtain ⟨i', q1, q2, rfl⟩ := hj; exact h2 o ho i' (by omega) q2) (fun j hj => by obtain ⟨i', q1, q2, rfl⟩ := hj; exact u2 i' (by omega) q2) x hx
    exact this _ ⟨i', h3, h4, rfl⟩

def sumN : Nat → (Nat → Int) → Int
  | 0, _ => 0
  | n + 1, f => sumN n f + f n
theorem sumN_mod {x G : Nat → Int} (hp : p ≠ 0) : ∀ n, p ∣ sumN n (fun l => x l % p * G l) - sumN n (fun l => x l * G l)
  | 0 => by simp [sumN]
  | n + 1 => by
    obtain ⟨u, hu⟩ := sumN_mod (x := x) (G := G) hp n
    have e := Int.emod_def (x n) p
    refine ⟨u - x n / p * G n, ?_⟩
    simp only [sumN]
    rw [e]
    grind
theorem sumN_sub {x y G : Nat → Int} {k : Int} : ∀ n, sumN n (fun l => (x l - k * y l) * G l) = sumN n (fun l => x l * G l) - k * sumN n (fun l => y l * G l)
  | 0 => by simp [sumN]
  | n + 1 => by simp only [sumN]; rw [sumN_sub n]; grind
theorem sumN_mul {x G : Nat → Int} {c : Int} : ∀ n, sumN n (fun l => (x l * c) * G l) = sumN n (fun l => x l * G l) * c
  | 0 => by simp [sumN]
  | n + 1 => by simp only [sumN]; rw [sumN_mul n]; grind

/-- The left half is the right half times the matrix. -/
def Half (p : Int) (n : Nat) (G : Nat → Nat → Int) (r : List Int) : Prop := ∀ j, j < n → p ∣ el r j - sumN n (fun l => el r (n + l) * G l j)
theorem half_lin (hp : p ≠ 0) {G : Nat → Nat → Int} : Lin p (n + n) (Half p n G) where
  sub k a b ha hb qa qb j hj := by
    have hl : a.length = b.length := by rw [ha.len, hb.len]
    simp only [el_subm hl]
    obtain ⟨u1, h1⟩ := qa j hj
    obtain ⟨u2, h2⟩ := qb j hj
    obtain ⟨u3, h3⟩ := sumN_mod (x := fun l => el a (n + l) - k * el b (n + l)) (G := fun l => G l j) hp n
    simp only [sumN_sub (x := fun l => el a (n + l)) (y := fun l => el b (n + l))] at h3
    have e := Int.emod_def (el a j - k * el b j) p
    refine ⟨u1 - k * u2 - u3 - (el a j - k * el b j) / p, ?_⟩
    rw [e]
    grind
  scl c a ha qa j hj := by
    simp only [el_scl]
    obtain ⟨u1, h1⟩ := qa j hj
    obtain ⟨u3, h3⟩ := sumN_mod (x := fun l => el a (n + l) * c) (G := fun l => G l j) hp n
    simp only [sumN_mul (x := fun l => el a (n + l))] at h3
    have e := Int.emod_def (el a j * c) p
    refine ⟨u1 * c - u3 - el a j * c / p, ?_⟩
    rw [e]
    grind

/-- Every row leads in its own column, or some row is 0 in the left half. -/
theorem led_or {out : List (List Int)} (rr : RR p (n + n) out) (hl : out.length = n) : (∀ (i : Nat) (hi : i < out.length), ld out[i] = i) ∨ ∃ r ∈ out, (∀ j, j < n → el r j = 0) ∧ ∃ l, l < n ∧ el r (n + l) = 1 := by
  by_cases h : ∀ r ∈ out, ld r < out.length
  · exact .inl fun i hi => rr.all h i hi
  · right
    obtain ⟨r, hr⟩ := Classical.not_forall.1 h
    obtain ⟨hr, hge⟩ := Classical.not_imp.1 hr
    refine ⟨r, hr, fun j hj => ld_zero r j (by omega), ld r - n, ?_, ?_⟩
    · have := rr.lt r hr; omega
    · rw [show n + (ld r - n) = ld r by omega]; exact rr.one r hr
theorem led_unit {out : List (List Int)} (rr : RR p (n + n) out) (hl : out.length = n) (h : ∀ (i : Nat) (hi : i < out.length), ld out[i] = i) (i j : Nat) (hi : i < out.length) (hj : j < out.length) : el out[i] j = if i = j then 1 else 0 := by
  by_cases q : i = j
  · subst q
    rw [if_pos rfl]
    have := rr.one _ (List.getElem_mem hi); rw [h i hi] at this; exact this
  · rw [if_neg q]
    rcases Nat.lt_or_ge i j with z | z
    · have := (List.pairwise_iff_getElem.1 rr.ord i j hi hj z).2; rw [h j hj] at this; exact this
    · exact ld_zero _ j (by rw [h i hi]; omega)

def det1 (G : Nat → Nat → Int) : Int := G 0 0
def det2 (G : Nat → Nat → Int) : Int := G 0 0 * G 1 1 - G 0 1 * G 1 0
def det3 (G : Nat → Nat → Int) : Int := G 0 0 * (G 1 1 * G 2 2 - G 1 2 * G 2 1) - G 0 1 * (G 1 0 * G 2 2 - G 1 2 * G 2 0) + G 0 2 * (G 1 0 * G 2 1 - G 1 1 * G 2 0)
def detN (n : Nat) (G : Nat → Nat → Int) : Int := if n = 2 then det2 G else if n = 3 then det3 G else det1 G

theorem no_one (hp : 2 ≤ p) {x : Int} (h : p ∣ 1 + p * x) : False := by
  obtain ⟨u, hu⟩ := h
  have : p * (u - x) = 1 := by grind
  have h1 : p ∣ 1 := ⟨u - x, this.symm⟩
  have := Int.le_of_dvd (by omega) h1
  omega

theorem unit_det (hp : 2 ≤ p) (hn : n = 1 ∨ n = 2 ∨ n = 3) {G C : Nat → Nat → Int} (h : ∀ i, i < n → ∀ j, j < n → p ∣ (if i = j then 1 else 0) - sumN n (fun l => C i l * G l j)) : ¬ p ∣ detN n G := by
  intro hd
  obtain ⟨d, hd⟩ := hd
  rcases hn with rfl | rfl | rfl
  · obtain ⟨a, ha⟩ := h 0 (by omega) 0 (by omega)
    simp only [sumN, if_true] at ha
    simp only [detN, det1] at hd
    simp at hd
    exact no_one hp (x := -a) ⟨C 0 0 * d, by grind⟩
  · obtain ⟨a, ha⟩ := h 0 (by omega) 0 (by omega)
    obtain ⟨b, hb⟩ := h 0 (by omega) 1 (by omega)
    obtain ⟨c, hc⟩ := h 1 (by omega) 0 (by omega)
    obtain ⟨e, he⟩ := h 1 (by omega) 1 (by omega)
    simp only [sumN, if_true] at ha hb hc he
    simp at hb hc
    simp [detN, det2] at hd
    have e1 : (C 0 0 * G 0 0 + C 0 1 * G 1 0) * (C 1 0 * G 0 1 + C 1 1 * G 1 1) - (C 0 0 * G 0 1 + C 0 1 * G 1 1) * (C 1 0 * G 0 0 + C 1 1 * G 1 0) = (C 0 0 * C 1 1 - C 0 1 * C 1 0) * (G 0 0 * G 1 1 - G 0 1 * G 1 0) := by grind
    rw [hd] at e1
    have a1 : C 0 0 * G 0 0 + C 0 1 * G 1 0 = 1 - p * a := by omega
    have a2 : C 1 0 * G 0 1 + C 1 1 * G 1 1 = 1 - p * e := by omega
    have a3 : C 0 0 * G 0 1 + C 0 1 * G 1 1 = - (p * b) := by omega
    have a4 : C 1 0 * G 0 0 + C 1 1 * G 1 0 = - (p * c) := by omega
    rw [a1, a2, a3, a4] at e1
    exact no_one hp (x := - a - e + p * (a * e) - p * (b * c)) ⟨(C 0 0 * C 1 1 - C 0 1 * C 1 0) * d, by grind⟩
  · obtain ⟨x00, h00⟩ := h 0 (by omega) 0 (by omega)
    obtain ⟨x01, h01⟩ := h 0 (by omega) 1 (by omega)
    obtain ⟨x02, h02⟩ := h 0 (by omega) 2 (by omega)
    obtain ⟨x10, h10⟩ := h 1 (by omega) 0 (by omega)
    obtain ⟨x11, h11⟩ := h 1 (by omega) 1 (by omega)
    obtain ⟨x12, h12⟩ := h 1 (by omega) 2 (by omega)
    obtain ⟨x20, h20⟩ := h 2 (by omega) 0 (by omega)
    obtain ⟨x21, h21⟩ := h 2 (by omega) 1 (by omega)
    obtain ⟨x22, h22⟩ := h 2 (by omega) 2 (by omega)
    simp only [sumN, if_true] at h00 h01 h02 h10 h11 h12 h20 h21 h22
    simp only [Nat.zero_ne_one, Nat.one_ne_zero, if_false, show ((0 : Nat) = 2) = False by simp, show ((2 : Nat) = 0) = False by simp, show ((1 : Nat) = 2) = False by simp, show ((2 : Nat) = 1) = False by simp] at h01 h02 h10 h12 h20 h21
    simp [detN, det3] at hd
    generalize C 0 0 = c00 at *
    generalize C 0 1 = c01 at *
    generalize C 0 2 = c02 at *
    generalize C 1 0 = c10 at *
    generalize C 1 1 = c11 at *
    generalize C 1 2 = c12 at *
    generalize C 2 0 = c20 at *
    generalize C 2 1 = c21 at *
    generalize C 2 2 = c22 at *
    generalize G 0 0 = g00 at *
    generalize G 0 1 = g01 at *
    generalize G 0 2 = g02 at *
    generalize G 1 0 = g10 at *
    generalize G 1 1 = g11 at *
    generalize G 1 2 = g12 at *
    generalize G 2 0 = g20 at *
    generalize G 2 1 = g21 at *
    generalize G 2 2 = g22 at *
    clear h
    have e1 : (c00 * g00 + c01 * g10 + c02 * g20) * ((c10 * g01 + c11 * g11 + c12 * g21) * (c20 * g02 + c21 * g12 + c22 * g22) - (c10 * g02 + c11 * g12 + c12 * g22) * (c20 * g01 + c21 * g11 + c22 * g21))
        - (c00 * g01 + c01 * g11 + c02 * g21) * ((c10 * g00 + c11 * g10 + c12 * g20) * (c20 * g02 + c21 * g12 + c22 * g22) - (c10 * g02 + c11 * g12 + c12 * g22) * (c20 * g00 + c21 * g10 + c22 * g20))
        + (c00 * g02 + c01 * g12 + c02 * g22) * ((c10 * g00 + c11 * g10 + c12 * g20) * (c20 * g01 + c21 * g11 + c22 * g21) - (c10 * g01 + c11 * g11 + c12 * g21) * (c20 * g00 + c21 * g10 + c22 * g20))
        = (c00 * (c11 * c22 - c12 * c21) - c01 * (c10 * c22 - c12 * c20) + c02 * (c10 * c21 - c11 * c20)) * (g00 * (g11 * g22 - g12 * g21) - g01 * (g10 * g22 - g12 * g20) + g02 * (g10 * g21 - g11 * g20)) := by
      clear hd h00 h01 h02 h10 h11 h12 h20 h21 h22
      grind
    rw [hd] at e1
    have a00 : c00 * g00 + c01 * g10 + c02 * g20 = 1 - p * x00 := by omega
    have a01 : c00 * g01 + c01 * g11 + c02 * g21 = - (p * x01) := by omega
    have a02 : c00 * g02 + c01 * g12 + c02 * g22 = - (p * x02) := by omega
    have a10 : c10 * g00 + c11 * g10 + c12 * g20 = - (p * x10) := by omega
    have a11 : c10 * g01 + c11 * g11 + c12 * g21 = 1 - p * x11 := by omega
    have a12 : c10 * g02 + c11 * g12 + c12 * g22 = - (p * x12) := by omega
    have a20 : c20 * g00 + c21 * g10 + c22 * g20 = - (p * x20) := by omega
    have a21 : c20 * g01 + c21 * g11 + c22 * g21 = - (p * x21) := by omega
    have a22 : c20 * g02 + c21 * g12 + c22 * g22 = 1 - p * x22 := by omega
    rw [a00, a01, a02, a10, a11, a12, a20, a21, a22] at e1
    clear hd h00 h01 h02 h10 h11 h12 h20 h21 h22 a00 a01 a02 a10 a11 a12 a20 a21 a22
    generalize c00 * (c11 * c22 - c12 * c21) - c01 * (c10 * c22 - c12 * c20) + c02 * (c10 * c21 - c11 * c20) = D at e1
    refine no_one hp (x := - x00 - x11 - x22 + p * (x00 * x11 - x01 * x10 + x00 * x22 - x02 * x20 + x11 * x22 - x12 * x21) - p * p * (x00 * (x11 * x22 - x12 * x21) - x01 * (x10 * x22 - x12 * x20) + x02 * (x10 * x21 - x11 * x20))) ⟨D * d, ?_⟩
    rw [show p * (D * d) = D * (p * d) by grind, ← e1]
    clear e1
    grind

theorem zero_det (hn : n = 1 ∨ n = 2 ∨ n = 3) {G : Nat → Nat → Int} {c : Nat → Int} (h : ∀ j, j < n → p ∣ sumN n (fun l => c l * G l j)) {k : Nat} (hk : k < n) (hc : c k = 1) : p ∣ detN n G := by
  rcases hn with rfl | rfl | rfl
  · obtain ⟨a, ha⟩ := h 0 (by omega)
    obtain rfl : k = 0 := by omega
    simp only [sumN, hc] at ha
    exact ⟨a, by simp [detN, det1]; omega⟩
  · obtain ⟨a, ha⟩ := h 0 (by omega)
    obtain ⟨b, hb⟩ := h 1 (by omega)
    simp only [sumN] at ha hb
    simp [detN, det2]
    obtain rfl | rfl : k = 0 ∨ k = 1 := by omega
    · exact ⟨a * G 1 1 - b * G 1 0, by rw [hc] at ha hb; grind⟩
    · exact ⟨b * G 0 0 - a * G 0 1, by rw [hc] at ha hb; grind⟩
  · obtain ⟨a, ha⟩ := h 0 (by omega)
    obtain ⟨b, hb⟩ := h 1 (by omega)
    obtain ⟨d, hd⟩ := h 2 (by omega)
    simp only [sumN] at ha hb hd
    simp [detN, det3]
    obtain rfl | rfl | rfl : k = 0 ∨ k = 1 ∨ k = 2 := by omega
    · exact ⟨a * (G 1 1 * G 2 2 - G 1 2 * G 2 1) - b * (G 1 0 * G 2 2 - G 1 2 * G 2 0) + d * (G 1 0 * G 2 1 - G 1 1 * G 2 0), by rw [hc] at ha hb hd; grind⟩
    · exact ⟨- a * (G 0 1 * G 2 2 - G 0 2 * G 2 1) + b * (G 0 0 * G 2 2 - G 0 2 * G 2 0) - d * (G 0 0 * G 2 1 - G 0 1 * G 2 0), by rw [hc] at ha hb hd; grind⟩
    · exact ⟨a * (G 0 1 * G 1 2 - G 0 2 * G 1 1) - b * (G 0 0 * G 1 2 - G 0 2 * G 1 0) + d * (G 0 0 * G 1 1 - G 0 1 * G 1 0), by rw [hc] at ha hb hd; grind⟩

/-- The reduced list of a matrix beside the unit. -/
theorem unit_ech (hP : isP p = true) (hn : n = 1 ∨ n = 2 ∨ n = 3) {G : Nat → Nat → Int} {rows : List (List Int)} (hl : rows.length = n) (hr : ∀ r ∈ rows, Can p (n + n) r) (hu : ∀ (i : Nat) (hi : i < rows.length), ∀ l, l < n → el rows[i] (n + l) = if i = l then 1 else 0)
    (hg : ∀ (i : Nat) (hi : i < rows.length), ∀ j, j < n → el rows[i] j = G i j) :
    (ech p rows).length = n ∧ RR p (n + n) (ech p rows) ∧ ((∀ (i : Nat) (hi : i < (ech p rows).length), ld (ech p rows)[i] = i) ↔ detN n G % p ≠ 0) := by
  have hp := isP_pos hP
  have rr : RR p (n + n) (ech p rows) := ech_RR hP hr
  have h1 := (unit_len hP hl hr (fun i hi => ⟨by rw [hu i hi i (by omega), if_pos rfl], fun i' h1 h2 => by rw [hu i hi i' h2, if_neg (by omega)]⟩) n (Nat.le_refl _)).1
  rw [← hl, List.take_length, hl] at h1
  have hq : ∀ x ∈ ech p rows, Half p n G x := ech_lin hP (half_lin (by omega)) fun r h => ⟨hr r h, fun j hj => by
    obtain ⟨i, hi, rfl⟩ := List.getElem_of_mem h
    rw [hg i hi j hj]
    have : sumN n (fun l => el rows[i] (n + l) * G l j) = G i j := by
      have e : ∀ k, k ≤ n → sumN k (fun l => el rows[i] (n + l) * G l j) = if i < k then G i j else 0 := by
        intro k
        induction k with
        | zero => intro _; simp [sumN]
        | succ k ih =>
          intro hk
          simp only [sumN]
          rw [ih (by omega), hu i hi k (by omega)]
          by_cases q : i = k
          · subst q; rw [if_neg (by omega), if_pos rfl, if_pos (by omega)]; simp
          · rw [if_neg q]
            by_cases z : i < k
            · rw [if_pos z, if_pos (by omega)]; simp
            · rw [if_neg z, if_neg (by omega)]; simp
      rw [e n (Nat.le_refl _), if_pos (by omega)]
    rw [this]; simp⟩
  refine ⟨h1, rr, fun h hd => ?_, fun hd => ?_⟩
  · refine unit_det (by omega) hn (G := G) (C := fun i l => el ((ech p rows).getD i []) (n + l)) (fun i hi j hj => ?_) (Int.dvd_of_emod_eq_zero hd)
    have hi' : i < (ech p rows).length := by omega
    have e : (ech p rows).getD i [] = (ech p rows)[i] := by simp [List.getD_eq_getElem?_getD, List.getElem?_eq_getElem hi']
    simp only [e]
    have := hq _ (List.getElem_mem hi') j hj
    rw [led_unit rr h1 h i j hi' (by omega)] at this
    exact this
  · rcases led_or rr h1 with q | ⟨r, hr1, hz, l, hl1, hl2⟩
    · exact q
    · refine absurd (Int.emod_eq_zero_of_dvd (zero_det hn (G := G) (c := fun l => el r (n + l)) (fun j hj => ?_) hl1 hl2)) hd
      have := hq r hr1 j hj
      rw [hz j hj] at this
      obtain ⟨u, hu⟩ := this
      exact ⟨-u, by grind⟩

end
end Go.Proofs.YtkoifikjfnbcpaaEv
