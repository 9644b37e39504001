/- Rows of numbers modulo p, and the reduced list of some rows. -/
import Derived.RowKit
set_option linter.unusedVariables false
set_option linter.unusedSimpArgs false
namespace Go.Proofs.YtkoifikjfnbcpaaEv

def isP (p : Int) : Bool := decide (p = 2) || (decide (p = 3) || (decide (p = 5) || (decide (p = 7) || (decide (p = 11) || decide (p = 13)))))
theorem isP_cases {p : Int} (h : isP p = true) : p = 2 ∨ p = 3 ∨ p = 5 ∨ p = 7 ∨ p = 11 ∨ p = 13 := by
  simpa [isP] using h
theorem isP_pos {p : Int} (h : isP p = true) : 2 ≤ p ∧ p ≤ 13 := by
  have := isP_cases h; omega

def invA (p r : Int) : Nat → Int → Int
  | 0, _ => 0
  | f + 1, k => if k < p then (if k * r % p = 1 then k else invA p r f (k + 1)) else 0
/-- The number with which x has the product 1. -/
def inv (p x : Int) : Int := invA p (x % p) 13 1
theorem invA_all : ∀ p ∈ [(2 : Int), 3, 5, 7, 11, 13], ∀ r : Fin 13, (r.val : Int) < p → 0 < r.val → (1 ≤ invA p r.val 13 1 ∧ invA p r.val 13 1 < p) ∧ r.val * invA p r.val 13 1 % p = 1 := by decide
theorem inv_ok {p x : Int} (hp : isP p = true) (hx : x % p ≠ 0) : (1 ≤ inv p x ∧ inv p x < p) ∧ x * inv p x % p = 1 := by
  have h2 := isP_pos hp
  have h3 := Int.emod_nonneg x (show p ≠ 0 by omega)
  have h4 := Int.emod_lt_of_pos x (show 0 < p by omega)
  have hm : p ∈ [(2 : Int), 3, 5, 7, 11, 13] := by have := isP_cases hp; simp; exact this
  obtain ⟨r, hr⟩ := Int.eq_ofNat_of_zero_le h3
  have h13 : r < 13 := by omega
  have := invA_all p hm ⟨r, h13⟩ (by simp; omega) (by simp; omega)
  simp only at this
  unfold inv
  have e1 : (r : Int) = x % p := hr.symm
  rw [e1] at this
  refine ⟨this.1, ?_⟩
  have h5 := this.2
  rw [Int.mul_emod, Int.emod_emod_of_dvd _ (Int.dvd_refl p), ← Int.mul_emod] at h5
  exact h5

/-! ### rows -/
abbrev el (r : List Int) (i : Nat) : Int := r.getD i 0
def ld : List Int → Nat
  | [] => 0
  | a :: r => if a = 0 then ld r + 1 else 0
theorem el_nil (i : Nat) : el [] i = 0 := by simp [el]
theorem el_cons_zero (a : Int) (r : List Int) : el (a :: r) 0 = a := by simp [el]
theorem el_cons_succ (a : Int) (r : List Int) (i : Nat) : el (a :: r) (i + 1) = el r i := by simp [el]
theorem el_ge {r : List Int} {i : Nat} (h : r.length ≤ i) : el r i = 0 := by
  simp [el, List.getD_eq_getElem?_getD, List.getElem?_eq_none h]
theorem ld_le : ∀ r : List Int, ld r ≤ r.length
  | [] => Nat.le_refl _
  | a :: r => by
    simp only [ld]; have := ld_le r
    split <;> simp <;> omega
theorem ld_zero : ∀ (r : List Int) (i : Nat), i < ld r → el r i = 0
  | [], i, h => by simp [ld] at h
  | a :: r, i, h => by
    simp only [ld] at h
    split at h
    · rename_i ha
      cases i with
      | zero => rw [el_cons_zero]; exact ha
      | succ i => rw [el_cons_succ]; exact ld_zero r i (by omega)
    · omega
theorem ld_ne : ∀ (r : List Int), ld r < r.length → el r (ld r) ≠ 0
  | [], h => by simp [ld] at h
  | a :: r, h => by
    simp only [ld] at h ⊢
    split
    · rename_i ha
      rw [if_pos ha] at h
      rw [el_cons_succ]; exact ld_ne r (by simpa using h)
    · rename_i ha; rw [el_cons_zero]; exact ha
theorem ld_min {r : List Int} {i : Nat} (h : el r i ≠ 0) : ld r ≤ i := by
  rcases Nat.lt_or_ge i (ld r) with q | q
  · exact absurd (ld_zero r i q) h
  · exact q
theorem ld_lt {r : List Int} {i : Nat} (h : el r i ≠ 0) : ld r < r.length := by
  have h1 := ld_min h
  rcases Nat.lt_or_ge i r.length with q | q
  · omega
  · exact absurd (el_ge q) h
theorem ld_eq {r : List Int} {i : Nat} (h : el r i ≠ 0) (h0 : ∀ j, j < i → el r j = 0) : ld r = i := by
  have h1 := ld_min h
  rcases Nat.lt_or_ge (ld r) i with q | q
  · exact absurd (h0 _ q) (ld_ne r (ld_lt h))
  · omega
theorem row_ext {a b : List Int} (hl : a.length = b.length) (h : ∀ i, el a i = el b i) : a = b := by
  refine List.ext_getElem hl fun i h1 h2 => ?_
  have := h i
  simpa [el, List.getD_eq_getElem?_getD, List.getElem?_eq_getElem h1, List.getElem?_eq_getElem h2] using this

def subm (p k : Int) (r o : List Int) : List Int := List.zipWith (fun a b => (a - k * b) % p) r o
def scl (p c : Int) (r : List Int) : List Int := r.map fun a => a * c % p
theorem subm_len {p k : Int} {r o : List Int} (h : r.length = o.length) : (subm p k r o).length = r.length := by simp [subm, h]
theorem scl_len {p c : Int} {r : List Int} : (scl p c r).length = r.length := by simp [scl]
theorem el_subm {p k : Int} {r o : List Int} (h : r.length = o.length) (i : Nat) : el (subm p k r o) i = (el r i - k * el o i) % p := by
  rcases Nat.lt_or_ge i r.length with q | q
  · simp [el, subm, List.getD_eq_getElem?_getD, List.getElem?_zipWith, List.getElem?_eq_getElem q, List.getElem?_eq_getElem (show i < o.length by omega)]
  · rw [el_ge q, el_ge (show o.length ≤ i by omega), el_ge (by rw [subm_len h]; exact q)]; simp
theorem el_scl {p c : Int} {r : List Int} (i : Nat) : el (scl p c r) i = el r i * c % p := by
  rcases Nat.lt_or_ge i r.length with q | q
  · simp [el, scl, List.getD_eq_getElem?_getD, List.getElem?_eq_getElem q]
  · rw [el_ge q, el_ge (by rw [scl_len]; exact q)]; simp

/-- A row of m numbers modulo p. -/
structure Can (p : Int) (m : Nat) (r : List Int) : Prop where
  len : r.length = m
  rng : ∀ i, 0 ≤ el r i ∧ el r i < p
theorem Can.mod {p : Int} {m : Nat} {r : List Int} (h : Can p m r) (i : Nat) : el r i % p = el r i := Int.emod_eq_of_lt (h.rng i).1 (h.rng i).2
theorem Can.subm {p k : Int} {m : Nat} {r o : List Int} (hp : 0 < p) (h1 : r.length = m) (h2 : o.length = m) : Can p m (subm p k r o) :=
  ⟨by rw [subm_len (by omega)]; exact h1, fun i => by rw [el_subm (by omega)]; exact ⟨Int.emod_nonneg _ (by omega), Int.emod_lt_of_pos _ hp⟩⟩
theorem Can.scl {p c : Int} {m : Nat} {r : List Int} (hp : 0 < p) (h1 : r.length = m) : Can p m (scl p c r) :=
  ⟨by rw [scl_len]; exact h1, fun i => by rw [el_scl]; exact ⟨Int.emod_nonneg _ (by omega), Int.emod_lt_of_pos _ hp⟩⟩

def rest (p : Int) : List (List Int) → List Int → List Int
  | [], r => r
  | o :: os, r => rest p os (subm p (el r (ld o)) r o)
def red (p : Int) (own : List Int) (at_ : Nat) (o : List Int) : List Int := subm p (el o at_) o own
def ins (p : Int) (own : List Int) (at_ : Nat) : List (List Int) → List (List Int)
  | [] => [own]
  | o :: os => if at_ < ld o then own :: (o :: os).map (red p own at_) else red p own at_ o :: ins p own at_ os
def stepR (p : Int) (out : List (List Int)) (r : List Int) : List (List Int) :=
  if ld (rest p out r) = (rest p out r).length then out else ins p (scl p (inv p (el (rest p out r) (ld (rest p out r)))) (rest p out r)) (ld (rest p out r)) out
/-- The reduced list of some rows. -/
def ech (p : Int) (rows : List (List Int)) : List (List Int) := rows.foldl (stepR p) []

/-- A reduced list. -/
structure RR (p : Int) (m : Nat) (out : List (List Int)) : Prop where
  can : ∀ r ∈ out, Can p m r
  lt : ∀ r ∈ out, ld r < m
  one : ∀ r ∈ out, el r (ld r) = 1
  ord : out.Pairwise fun a b => ld a < ld b ∧ el a (ld b) = 0

theorem RR.nil {p : Int} {m : Nat} : RR p m [] := ⟨by simp, by simp, by simp, .nil⟩
theorem RR.tail {p : Int} {m : Nat} {o : List Int} {os : List (List Int)} (h : RR p m (o :: os)) : RR p m os :=
  ⟨fun r hr => h.can r (.tail _ hr), fun r hr => h.lt r (.tail _ hr), fun r hr => h.one r (.tail _ hr), (List.pairwise_cons.1 h.ord).2⟩

section
variable {p : Int} {m : Nat}

theorem rest_can (hp : 0 < p) : ∀ {out : List (List Int)} {r : List Int}, (∀ o ∈ out, Can p m o) → Can p m r → Can p m (rest p out r)
  | [], r, _, h => h
  | o :: os, r, ho, h => rest_can (out := os) hp (fun x hx => ho x (.tail _ hx)) (Can.subm hp h.len (ho o (.head _)).len)
theorem rest_keep (hp : 0 < p) {i : Nat} : ∀ {out : List (List Int)} {r : List Int}, (∀ o ∈ out, Can p m o ∧ el o i = 0) → Can p m r → el (rest p out r) i = el r i
  | [], r, _, h => rfl
  | o :: os, r, ho, h => by
    have h1 := ho o (.head _)
    simp only [rest]
    rw [rest_keep hp (fun x hx => ho x (.tail _ hx)) (Can.subm hp h.len h1.1.len), el_subm (by rw [h.len, h1.1.len]), h1.2, Int.mul_zero, Int.sub_zero, h.mod]
theorem rest_zero (hp : 1 < p) : ∀ {out : List (List Int)} {r : List Int}, RR p m out → Can p m r → ∀ o ∈ out, el (rest p out r) (ld o) = 0
  | [], r, _, h, o, ho => by cases ho
  | o :: os, r, rr, h, o', ho => by
    have c := rr.can o (.head _)
    have c1 : Can p m (subm p (el r (ld o)) r o) := Can.subm (by omega) h.len c.len
    simp only [rest]
    rcases List.mem_cons.1 ho with rfl | ho
    · rw [rest_keep (by omega) (m := m) (fun x hx => ⟨rr.can x (.tail _ hx), ld_zero x _ ((List.pairwise_cons.1 rr.ord).1 x hx).1⟩) c1, el_subm (by rw [h.len, c.len]), rr.one _ (.head _)]
      simp
    · exact rest_zero hp rr.tail c1 o' ho

/-- A row that fits into a reduced list. -/
structure Own (p : Int) (m : Nat) (own : List Int) (at_ : Nat) (out : List (List Int)) : Prop where
  can : Can p m own
  lt : at_ < m
  led : ld own = at_
  one : el own at_ = 1
  zero : ∀ o ∈ out, el own (ld o) = 0

theorem red_of (hp : 1 < p) {own : List Int} {at_ : Nat} {out : List (List Int)} (w : Own p m own at_ out) (rr : RR p m out) {o : List Int} (ho : o ∈ out) :
    Can p m (red p own at_ o) ∧ ld (red p own at_ o) = ld o ∧ el (red p own at_ o) at_ = 0 ∧ ld o ≠ at_ ∧ ∀ i, el own i = 0 → el (red p own at_ o) i = el o i := by
  have c := rr.can o ho
  have hl : o.length = own.length := by rw [c.len, w.can.len]
  have ez : ∀ i, el own i = 0 → el (red p own at_ o) i = el o i := fun i hi => by
    rw [red, el_subm hl, hi, Int.mul_zero, Int.sub_zero, c.mod]
  have hne : ld o ≠ at_ := fun q => by have := w.zero o ho; rw [q, w.one] at this; omega
  refine ⟨Can.subm (by omega) c.len w.can.len, ?_, ?_, hne, ez⟩
  · refine ld_eq ?_ fun j hj => ?_
    · rw [ez _ (w.zero o ho), rr.one o ho]; omega
    · rcases Nat.lt_or_ge j at_ with q | q
      · rw [ez j (ld_zero own j (by rw [w.led]; exact q))]; exact ld_zero o j hj
      · have h0 : el o at_ = 0 := ld_zero o _ (by omega)
        rw [red, el_subm hl, h0, Int.zero_mul, Int.sub_zero, c.mod]; exact ld_zero o j hj
  · rw [red, el_subm hl, w.one]; simp

theorem ins_mem {own : List Int} {at_ : Nat} : ∀ {out : List (List Int)} {x : List Int}, x ∈ ins p own at_ out → x = own ∨ ∃ o ∈ out, x = red p own at_ o
  | [], x, h => by simp [ins] at h; exact .inl h
  | o :: os, x, h => by
    simp only [ins] at h
    split at h
    · rcases List.mem_cons.1 h with h | h
      · exact .inl h
      · obtain ⟨y, hy, e⟩ := List.mem_map.1 h; exact .inr ⟨y, hy, e.symm⟩
    · rcases List.mem_cons.1 h with h | h
      · exact .inr ⟨o, .head _, h⟩
      · rcases ins_mem h with q | ⟨y, hy, e⟩
        · exact .inl q
        · exact .inr ⟨y, .tail _ hy, e⟩
theorem ins_len {own : List Int} {at_ : Nat} : ∀ {out : List (List Int)}, (ins p own at_ out).length = out.length + 1
  | [] => rfl
  | o :: os => by
    simp only [ins]
    split
    · simp
    · simp [ins_len (out := os)]
theorem Own.tail {own : List Int} {at_ : Nat} {o : List Int} {os : List (List Int)} (w : Own p m own at_ (o :: os)) : Own p m own at_ os := ⟨w.can, w.lt, w.led, w.one, fun x hx => w.zero x (.tail _ hx)⟩

theorem ins_ord (hp : 1 < p) {own : List Int} {at_ : Nat} : ∀ {out : List (List Int)}, Own p m own at_ out → RR p m out → (ins p own at_ out).Pairwise fun a b => ld a < ld b ∧ el a (ld b) = 0
  | [], w, rr => by simp [ins]
  | o :: os, w, rr => by
    have ho := List.pairwise_cons.1 rr.ord
    simp only [ins]
    split
    · rename_i h
      refine List.pairwise_cons.2 ⟨fun x hx => ?_, ?_⟩
      · obtain ⟨y, hy, rfl⟩ := List.mem_map.1 hx
        obtain ⟨_, r2, _⟩ := red_of hp w rr hy
        rw [r2, w.led]
        refine ⟨?_, w.zero y hy⟩
        rcases List.mem_cons.1 hy with rfl | hy
        · exact h
        · have := (ho.1 y hy).1; omega
      · refine List.pairwise_map.2 ?_
        refine List.Pairwise.imp_of_mem ?_ rr.ord
        intro a b ha hb hab
        obtain ⟨_, r2, _, _, r5⟩ := red_of hp w rr ha
        obtain ⟨_, s2, _⟩ := red_of hp w rr hb
        rw [r2, s2, r5 _ (w.zero b hb)]
        exact hab
    · rename_i h
      obtain ⟨_, r2, r3, r4, r5⟩ := red_of hp w rr (.head _)
      refine List.pairwise_cons.2 ⟨fun x hx => ?_, ins_ord hp w.tail rr.tail⟩
      rcases ins_mem hx with rfl | ⟨y, hy, rfl⟩
      · rw [r2, w.led]; exact ⟨by omega, r3⟩
      · obtain ⟨_, s2, _⟩ := red_of hp w rr (.tail _ hy)
        rw [r2, s2, r5 _ (w.zero y (.tail _ hy))]
        exact ho.1 y hy
theorem ins_RR (hp : 1 < p) {own : List Int} {at_ : Nat} {out : List (List Int)} (w : Own p m own at_ out) (rr : RR p m out) : RR p m (ins p own at_ out) := by
  refine ⟨fun x hx => ?_, fun x hx => ?_, fun x hx => ?_, ins_ord hp w rr⟩
  · rcases ins_mem hx with rfl | ⟨y, hy, rfl⟩
    · exact w.can
    · exact (red_of hp w rr hy).1
  · rcases ins_mem hx with rfl | ⟨y, hy, rfl⟩
    · rw [w.led]; exact w.lt
    · rw [(red_of hp w rr hy).2.1]; exact rr.lt y hy
  · rcases ins_mem hx with rfl | ⟨y, hy, rfl⟩
    · rw [w.led]; exact w.one
    · obtain ⟨_, r2, _, _, r5⟩ := red_of hp w rr hy
      rw [r2, r5 _ (w.zero y hy)]; exact rr.one y hy

/-- What is left of a row, made fit. -/
theorem own_of (hP : isP p = true) {out : List (List Int)} {r : List Int} (rr : RR p m out) (hr : Can p m r) (hl : ld (rest p out r) ≠ (rest p out r).length) :
    Own p m (scl p (inv p (el (rest p out r) (ld (rest p out r)))) (rest p out r)) (ld (rest p out r)) out := by
  have hp := isP_pos hP
  have c := rest_can (p := p) (m := m) (by omega) rr.can hr
  have hlt : ld (rest p out r) < (rest p out r).length := by have := ld_le (rest p out r); omega
  have hne := ld_ne _ hlt
  have hmod : el (rest p out r) (ld (rest p out r)) % p ≠ 0 := by rw [c.mod]; exact hne
  obtain ⟨_, i2⟩ := inv_ok hP hmod
  have h1 : el (scl p (inv p (el (rest p out r) (ld (rest p out r)))) (rest p out r)) (ld (rest p out r)) = 1 := by rw [el_scl]; exact i2
  refine ⟨Can.scl (by omega) c.len, by rw [← c.len]; exact hlt, ld_eq (by rw [h1]; omega) fun j hj => ?_, h1, fun o ho => ?_⟩
  · rw [el_scl, ld_zero _ j hj]; simp
  · rw [el_scl, rest_zero (by omega) rr hr o ho]; simp
theorem stepR_RR (hP : isP p = true) {out : List (List Int)} {r : List Int} (rr : RR p m out) (hr : Can p m r) : RR p m (stepR p out r) := by
  have hp := isP_pos hP
  unfold stepR
  split
  · exact rr
  · rename_i h; exact ins_RR (by omega) (own_of hP rr hr h) rr
theorem fold_RR (hP : isP p = true) : ∀ {rows out : List (List Int)}, RR p m out → (∀ r ∈ rows, Can p m r) → RR p m (rows.foldl (stepR p) out)
  | [], out, rr, _ => rr
  | r :: rs, out, rr, h => fold_RR (rows := rs) hP (stepR_RR hP rr (h r (.head _))) fun x hx => h x (.tail _ hx)
theorem ech_RR (hP : isP p = true) {rows : List (List Int)} (h : ∀ r ∈ rows, Can p m r) : RR p m (ech p rows) := fold_RR hP .nil h

/-- What holds of rows and of all that is made of them. -/
structure Lin (p : Int) (m : Nat) (Q : List Int → Prop) : Prop where
  sub : ∀ k a b, Can p m a → Can p m b → Q a → Q b → Q (subm p k a b)
  scl : ∀ c a, Can p m a → Q a → Q (scl p c a)
theorem rest_lin {Q : List Int → Prop} (hp : 0 < p) (l : Lin p m Q) : ∀ {out : List (List Int)} {r : List Int}, (∀ o ∈ out, Can p m o ∧ Q o) → Can p m r → Q r → Q (rest p out r)
  | [], r, _, _, h => h
  | o :: os, r, ho, c, h => rest_lin (out := os) hp l (fun x hx => ho x (.tail _ hx)) (Can.subm hp c.len (ho o (.head _)).1.len) (l.sub _ _ _ c (ho o (.head _)).1 h (ho o (.head _)).2)
theorem stepR_lin (hP : isP p = true) {Q : List Int → Prop} (l : Lin p m Q) {out : List (List Int)} {r : List Int} (rr : RR p m out) (hr : Can p m r) (h : ∀ o ∈ out, Q o) (hq : Q r) : ∀ x ∈ stepR p out r, Q x := by
  have hp := isP_pos hP
  unfold stepR
  split
  · exact h
  · rename_i hl
    have c := rest_can (p := p) (m := m) (by omega) rr.can hr
    have q := rest_lin (by omega) l (fun o ho => ⟨rr.can o ho, h o ho⟩) hr hq
    have w := own_of hP rr hr hl
    intro x hx
    rcases ins_mem hx with rfl | ⟨y, hy, rfl⟩
    · exact l.scl _ _ c q
    · exact l.sub _ _ _ (rr.can y hy) w.can (h y hy) (l.scl _ _ c q)
theorem fold_lin (hP : isP p = true) {Q : List Int → Prop} (l : Lin p m Q) : ∀ {rows out : List (List Int)}, RR p m out → (∀ r ∈ rows, Can p m r ∧ Q r) → (∀ o ∈ out, Q o) → ∀ x ∈ rows.foldl (stepR p) out, Q x
  | [], out, _, _, h => h
  | r :: rs, out, rr, hr, h => fold_lin (rows := rs) hP l (stepR_RR hP rr (hr r (.head _)).1) (fun x hx => hr x (.tail _ hx)) (stepR_lin hP l rr (hr r (.head _)).1 h (hr r (.head _)).2)
theorem ech_lin (hP : isP p = true) {Q : List Int → Prop} (l : Lin p m Q) {rows : List (List Int)} (h : ∀ r ∈ rows, Can p m r ∧ Q r) : ∀ x ∈ ech p rows, Q x := fold_lin hP l .nil h (by simp)

end
end Go.Proofs.YtkoifikjfnbcpaaEv
