/- The reduced list of some rows is told by their space: two lists of rows of which each one's rows lie in the other's space have the same reduced list. -/
import Derived.Test.YtkoifikjfnbcpaaEvLinA
set_option linter.unusedVariables false
set_option linter.unusedSimpArgs false
namespace Go.Proofs.YtkoifikjfnbcpaaEv
open Go Go.RowKit

theorem mulmod_l {a b p : Int} : a % p * b % p = a * b % p := by rw [Int.mul_emod, Int.emod_emod_of_dvd _ (Int.dvd_refl p), ← Int.mul_emod]
theorem lsum_append {α : Type} {f : α → Int} : ∀ {a b : List α}, lsum f (a ++ b) = lsum f a + lsum f b
  | [], b => by simp [lsum]
  | x :: r, b => by simp only [List.cons_append, lsum, lsum_append (a := r)]; omega
theorem lsum_zero {α : Type} {f : α → Int} : ∀ {l : List α}, (∀ x ∈ l, f x = 0) → lsum f l = 0
  | [], _ => rfl
  | x :: r, h => by simp only [lsum]; rw [h x (.head _), lsum_zero fun y hy => h y (.tail _ hy)]; rfl
theorem lsum_add {α : Type} {f g : α → Int} : ∀ {l : List α}, lsum (fun x => f x + g x) l = lsum f l + lsum g l
  | [] => rfl
  | x :: r => by simp only [lsum, lsum_add (l := r)]; omega
theorem lsum_mul {α : Type} {f : α → Int} {k : Int} : ∀ {l : List α}, lsum (fun x => k * f x) l = k * lsum f l
  | [] => by simp [lsum]
  | x :: r => by simp only [lsum, lsum_mul (l := r), Int.mul_add]
theorem lsum_mod {α : Type} {p : Int} {f g : α → Int} : ∀ {l : List α}, (∀ x ∈ l, f x % p = g x % p) → lsum f l % p = lsum g l % p
  | [], _ => rfl
  | x :: r, h => by
    simp only [lsum]
    rw [Int.add_emod, h x (.head _), lsum_mod (l := r) fun y hy => h y (.tail _ hy), ← Int.add_emod]
theorem lsum_one {α : Type} {f : α → Int} {l : List α} {y : α} (hy : y ∈ l) (hn : l.Pairwise fun a b => a = y → b = y → False) (h : ∀ x ∈ l, x ≠ y → f x = 0) : lsum f l = f y := by
  induction l with
  | nil => cases hy
  | cons x r ih =>
    have hn' := List.pairwise_cons.1 hn
    simp only [lsum]
    by_cases q : x = y
    · subst q
      rw [lsum_zero fun z hz => h z (.tail _ hz) fun e => hn'.1 z hz rfl e]; omega
    · rw [h x (.head _) q, ih (by rcases List.mem_cons.1 hy with e | e; exact absurd e.symm q; exact e) hn'.2 fun z hz => h z (.tail _ hz)]; omega

section
variable {p : Int} {m : Nat}

/-- Nothing is left of a row. -/
def Zr (p : Int) (out : List (List Int)) (r : List Int) : Prop := ∀ i, (el r i - lsum (fun o => el r (ld o) * el o i) out) % p = 0

theorem zr_rest (hp : 0 < p) {out : List (List Int)} {r : List Int} (rr : RR p m out) (hr : Can p m r) : Zr p out r ↔ ld (rest p out r) = (rest p out r).length := by
  have e := rest_el hp rr.can rr.apart hr
  constructor
  · intro h
    have hl := ld_le (rest p out r)
    rcases Nat.lt_or_ge (ld (rest p out r)) (rest p out r).length with q | q
    · exact absurd (by rw [e]; exact h _) (ld_ne _ q)
    · omega
  · intro h i
    rw [← e]
    rcases Nat.lt_or_ge i (rest p out r).length with q | q
    · exact ld_zero _ i (by omega)
    · exact el_ge q

theorem zr_lin (hp : 0 < p) {out : List (List Int)} : Lin p m (Zr p out) := by
  refine ⟨fun k a b ha hb qa qb i => ?_, fun c a ha qa i => ?_⟩
  · have hl : a.length = b.length := by rw [ha.len, hb.len]
    have e : lsum (fun o => el (subm p k a b) (ld o) * el o i) out % p = (lsum (fun o => el a (ld o) * el o i) out - k * lsum (fun o => el b (ld o) * el o i) out) % p := by
      rw [lsum_mod (g := fun o => el a (ld o) * el o i + (-k) * (el b (ld o) * el o i)) fun o _ => ?_, lsum_add, lsum_mul]
      · congr 1; rw [Int.neg_mul]; omega
      · rw [el_subm hl, Int.mul_emod, Int.emod_emod_of_dvd _ (Int.dvd_refl p), ← Int.mul_emod]
        congr 1; rw [Int.sub_mul, Int.neg_mul, Int.mul_assoc]; omega
    rw [Int.sub_emod, e, el_subm hl, Int.emod_emod_of_dvd _ (Int.dvd_refl p), ← Int.sub_emod]
    have h1 := qa i
    have h2 := qb i
    generalize lsum (fun o => el a (ld o) * el o i) out = x at *
    generalize lsum (fun o => el b (ld o) * el o i) out = y at *
    have : el a i - k * el b i - (x - k * y) = (el a i - x) - k * (el b i - y) := by rw [Int.mul_sub]; omega
    rw [this, Int.sub_emod, h1, Int.mul_emod, h2]; simp
  · have e : lsum (fun o => el (scl p c a) (ld o) * el o i) out % p = (c * lsum (fun o => el a (ld o) * el o i) out) % p := by
      rw [lsum_mod (g := fun o => c * (el a (ld o) * el o i)) fun o _ => ?_, lsum_mul]
      rw [el_scl, Int.mul_emod, Int.emod_emod_of_dvd _ (Int.dvd_refl p), ← Int.mul_emod]
      congr 1; rw [Int.mul_comm (el a (ld o)) c, Int.mul_assoc]
    rw [Int.sub_emod, e, el_scl, Int.emod_emod_of_dvd _ (Int.dvd_refl p), ← Int.sub_emod]
    have h1 := qa i
    generalize lsum (fun o => el a (ld o) * el o i) out = x at *
    have : el a i * c - c * x = c * (el a i - x) := by rw [Int.mul_sub, Int.mul_comm]
    rw [this, Int.mul_emod, h1]; simp

theorem RR.inj {out : List (List Int)} (rr : RR p m out) : out.Pairwise fun a b => ld a < ld b := rr.ord.imp fun h => h.1
theorem RR.off {out : List (List Int)} (rr : RR p m out) {a b : List Int} (ha : a ∈ out) (hb : b ∈ out) (h : a ≠ b) : ld a ≠ ld b ∧ el a (ld b) = 0 := by
  have hh : ∀ {l : List (List Int)}, (l.Pairwise fun a b => ld a < ld b ∧ el a (ld b) = 0) → a ∈ l → b ∈ l → ld a ≠ ld b ∧ el a (ld b) = 0 := by
    intro l
    induction l with
    | nil => intro _ h; cases h
    | cons x l ih =>
      intro hp ha hb
      have hp' := List.pairwise_cons.1 hp
      rcases List.mem_cons.1 ha with e | ha' <;> rcases List.mem_cons.1 hb with e' | hb'
      · exact absurd (e.trans e'.symm) h
      · subst e; exact ⟨Nat.ne_of_lt (hp'.1 b hb').1, (hp'.1 b hb').2⟩
      · subst e'; exact ⟨Nat.ne_of_gt (hp'.1 a ha').1, ld_zero a _ (hp'.1 a ha').1⟩
      · exact ih hp'.2 ha' hb'
  exact hh rr.ord ha hb

theorem zr_own (hp : 1 < p) {out : List (List Int)} (rr : RR p m out) {x : List Int} (hx : x ∈ out) : Zr p out x := fun i => by
  have : lsum (fun o => el x (ld o) * el o i) out = el x i := by
    rw [lsum_one (y := x) hx (rr.inj.imp fun {a b} h e1 e2 => by rw [e1, e2] at h; omega) fun o ho hne => by rw [(rr.off hx ho fun e => hne e.symm).2, Int.zero_mul], rr.one x hx, Int.one_mul]
  rw [this]; simp

theorem zr_lead (hp : 1 < p) {out : List (List Int)} (rr : RR p m out) {v : List Int} (hv : Can p m v) (h : Zr p out v) (hne : ld v < m) : ∃ o ∈ out, ld o = ld v := by
  by_cases q : ∃ o ∈ out, ld o = ld v
  · exact q
  exfalso
  have hl : ld v < v.length := by rw [hv.len]; exact hne
  have h1 := h (ld v)
  rw [lsum_zero (f := fun o => el v (ld o) * el o (ld v)) fun o ho => ?_, Int.sub_zero, hv.mod] at h1
  · exact ld_ne v hl h1
  · rcases Nat.lt_trichotomy (ld o) (ld v) with z | z | z
    · rw [ld_zero v _ z, Int.zero_mul]
    · exact absurd ⟨o, ho, z⟩ q
    · rw [ld_zero o _ z, Int.mul_zero]

theorem sorted_eq {A B : List (List Int)} (ha : A.Pairwise fun a b => ld a < ld b) (hb : B.Pairwise fun a b => ld a < ld b) (h : ∀ x, x ∈ A ↔ x ∈ B) : A = B := by
  induction A generalizing B with
  | nil =>
    cases B with
    | nil => rfl
    | cons b B => exact absurd ((h b).2 (.head _)) (by simp)
  | cons a A ih =>
    cases B with
    | nil => exact absurd ((h a).1 (.head _)) (by simp)
    | cons b B =>
      have ha' := List.pairwise_cons.1 ha
      have hb' := List.pairwise_cons.1 hb
      have e : a = b := by
        rcases List.mem_cons.1 ((h a).1 (.head _)) with q | q
        · exact q
        · rcases List.mem_cons.1 ((h b).2 (.head _)) with z | z
          · exact z.symm
          · have := hb'.1 a q; have := ha'.1 b z; omega
      subst e
      rw [ih ha'.2 hb'.2 fun x => ⟨fun hx => ?_, fun hx => ?_⟩]
      · rcases List.mem_cons.1 ((h x).1 (.tail _ hx)) with q | q
        · subst q; have := ha'.1 x hx; omega
        · exact q
      · rcases List.mem_cons.1 ((h x).2 (.tail _ hx)) with q | q
        · subst q; have := hb'.1 x hx; omega
        · exact q

theorem RR_sub (hp : 1 < p) {A B : List (List Int)} (ra : RR p m A) (rb : RR p m B) (h1 : ∀ a ∈ A, Zr p B a) (h2 : ∀ b ∈ B, Zr p A b) : ∀ a ∈ A, a ∈ B := by
  intro a ha
  obtain ⟨b, hb, hl⟩ := zr_lead hp rb (ra.can a ha) (h1 a ha) (ra.lt a ha)
  have : a = b := by
    refine row_ext (by rw [(ra.can a ha).len, (rb.can b hb).len]) fun i => ?_
    have h := h1 a ha i
    rw [lsum_one (y := b) hb (rb.inj.imp fun {x y} h e1 e2 => by rw [e1, e2] at h; omega) fun o ho hne => ?_] at h
    · rw [hl, ra.one a ha, Int.one_mul] at h
      have r1 := (ra.can a ha).rng i
      have r2 := (rb.can b hb).rng i
      have := Int.emod_emod_of_dvd (el a i - el b i) (Int.dvd_refl p)
      have h3 : el a i % p = el b i % p := Int.emod_eq_emod_iff_emod_sub_eq_zero.2 h
      rwa [(ra.can a ha).mod, (rb.can b hb).mod] at h3
    · obtain ⟨a', ha', hl'⟩ := zr_lead hp ra (rb.can o ho) (h2 o ho) (rb.lt o ho)
      have ne : a ≠ a' := fun e => by
        subst e
        exact (rb.off ho hb hne).1 (by rw [← hl', hl])
      rw [← hl', (ra.off ha ha' ne).2, Int.zero_mul]
  rw [this]; exact hb
theorem RR_unique (hp : 1 < p) {A B : List (List Int)} (ra : RR p m A) (rb : RR p m B) (h1 : ∀ a ∈ A, Zr p B a) (h2 : ∀ b ∈ B, Zr p A b) : A = B :=
  sorted_eq ra.inj rb.inj fun x => ⟨RR_sub hp ra rb h1 h2 x, RR_sub hp rb ra h2 h1 x⟩

/-- What holds of what is made of rows holds of the rows. -/
theorem rest_rev (hp : 0 < p) {Q : List Int → Prop} (l : Lin p m Q) : ∀ {out : List (List Int)} {r : List Int}, (∀ o ∈ out, Can p m o ∧ Q o) → Can p m r → Q (rest p out r) → Q r
  | [], r, _, _, h => h
  | o :: os, r, ho, c, h => by
    have co := (ho o (.head _)).1
    have c1 : Can p m (subm p (el r (ld o)) r o) := Can.subm hp c.len co.len
    have q := rest_rev hp l (out := os) (fun x hx => ho x (.tail _ hx)) c1 h
    have e : subm p (-(el r (ld o))) (subm p (el r (ld o)) r o) o = r := by
      refine row_ext (by rw [subm_len (by rw [c1.len, co.len]), c1.len, c.len]) fun i => ?_
      rw [el_subm (by rw [c1.len, co.len]), el_subm (by rw [c.len, co.len]), Int.emod_sub_emod, Int.neg_mul]
      rw [show el r i - el r (ld o) * el o i - -(el r (ld o) * el o i) = el r i by omega, c.mod]
    rw [← e]
    exact l.sub _ _ _ c1 co q (ho o (.head _)).2
theorem ins_mem_own {own : List Int} {at_ : Nat} : ∀ {out : List (List Int)}, own ∈ ins p own at_ out
  | [] => .head _
  | o :: os => by
    simp only [ins]
    split
    · exact .head _
    · exact .tail _ ins_mem_own
theorem ins_mem_red {own : List Int} {at_ : Nat} : ∀ {out : List (List Int)} {o : List Int}, o ∈ out → red p own at_ o ∈ ins p own at_ out
  | x :: os, o, h => by
    simp only [ins]
    split
    · exact .tail _ (List.mem_map_of_mem h)
    · rcases List.mem_cons.1 h with rfl | h
      · exact .head _
      · exact .tail _ (ins_mem_red h)
theorem stepR_rev (hP : isP p = true) {Q : List Int → Prop} (l : Lin p m Q) (hz : ∀ x, Can p m x → (∀ i, el x i = 0) → Q x) {out : List (List Int)} {r : List Int} (rr : RR p m out) (hr : Can p m r) (h : ∀ x ∈ stepR p out r, Q x) : (∀ o ∈ out, Q o) ∧ Q r := by
  have hp := isP_pos hP
  have c := rest_can (p := p) (m := m) (by omega) rr.can hr
  unfold stepR at h
  split at h
  · rename_i hl
    refine ⟨h, rest_rev (by omega) l (fun o ho => ⟨rr.can o ho, h o ho⟩) hr (hz _ c fun i => ?_)⟩
    rcases Nat.lt_or_ge i (rest p out r).length with q | q
    · exact ld_zero _ i (by omega)
    · exact el_ge q
  · rename_i hl
    have w := own_of hP rr hr hl
    have hlt : ld (rest p out r) < (rest p out r).length := by have := ld_le (rest p out r); omega
    have hmod : el (rest p out r) (ld (rest p out r)) % p ≠ 0 := by rw [c.mod]; exact ld_ne _ hlt
    obtain ⟨_, i2⟩ := inv_ok hP hmod
    generalize hat : ld (rest p out r) = at_ at *
    generalize hx : el (rest p out r) at_ = x at *
    generalize hi : inv p x = y at *
    have qo : Q (scl p y (rest p out r)) := h _ ins_mem_own
    have all : ∀ o ∈ out, Q o := fun o ho => by
      have q := h _ (ins_mem_red ho)
      have co := rr.can o ho
      have cr := (red_of (by omega) w rr ho).1
      have e : subm p (-(el o at_)) (red p (scl p y (rest p out r)) at_ o) (scl p y (rest p out r)) = o := by
        refine row_ext (by rw [subm_len (by rw [cr.len, w.can.len]), cr.len, co.len]) fun i => ?_
        rw [el_subm (by rw [cr.len, w.can.len]), red, el_subm (by rw [co.len, w.can.len]), Int.emod_sub_emod, Int.neg_mul]
        rw [show ∀ a b : Int, a - b - -b = a by intros; omega, co.mod]
      rw [← e]
      exact l.sub _ _ _ cr w.can q qo
    refine ⟨all, rest_rev (by omega) l (fun o ho => ⟨rr.can o ho, all o ho⟩) hr ?_⟩
    have e : scl p x (scl p y (rest p out r)) = rest p out r := by
      refine row_ext (by rw [scl_len, scl_len]) fun i => ?_
      rw [el_scl, el_scl, mulmod_l]
      rw [show el (rest p out r) i * y * x = el (rest p out r) i * (x * y) by rw [Int.mul_assoc, Int.mul_comm y x], Int.mul_emod, i2, Int.mul_one, Int.emod_emod_of_dvd _ (Int.dvd_refl p), c.mod]
    rw [← e]
    exact l.scl _ _ w.can qo
theorem fold_rev (hP : isP p = true) {Q : List Int → Prop} (l : Lin p m Q) (hz : ∀ x, Can p m x → (∀ i, el x i = 0) → Q x) : ∀ {rows out : List (List Int)}, RR p m out → (∀ r ∈ rows, Can p m r) → (∀ x ∈ rows.foldl (stepR p) out, Q x) → (∀ o ∈ out, Q o) ∧ ∀ r ∈ rows, Q r
  | [], out, _, _, h => ⟨h, by simp⟩
  | r :: rs, out, rr, hr, h => by
    obtain ⟨h1, h2⟩ := fold_rev hP l hz (rows := rs) (stepR_RR hP rr (hr r (.head _))) (fun x hx => hr x (.tail _ hx)) h
    obtain ⟨h3, h4⟩ := stepR_rev hP l hz rr (hr r (.head _)) h1
    exact ⟨h3, fun x hx => by rcases List.mem_cons.1 hx with rfl | hx; exact h4; exact h2 x hx⟩
theorem zr_zero {out : List (List Int)} {x : List Int} (h : ∀ i, el x i = 0) : Zr p out x := fun i => by
  rw [h i, lsum_zero fun o _ => by rw [h, Int.zero_mul]]; simp
/-- The rows lie in the space of their reduced list. -/
theorem ech_zr (hP : isP p = true) {rows : List (List Int)} (h : ∀ r ∈ rows, Can p m r) : ∀ r ∈ rows, Zr p (ech p rows) r := by
  have hp := isP_pos hP
  exact (fold_rev hP (zr_lin (m := m) (by omega)) (fun x _ hx => zr_zero hx) .nil h (fun x hx => zr_own (by omega) (ech_RR hP h) hx)).2
/-- A row in a reduced list's space: what holds of the list holds of the row. -/
theorem zr_Q (hp : 1 < p) {Q : List Int → Prop} (l : Lin p m Q) (hz : ∀ x, Can p m x → (∀ i, el x i = 0) → Q x) {out : List (List Int)} {r : List Int} (rr : RR p m out) (hr : Can p m r) (h : Zr p out r) (ho : ∀ o ∈ out, Q o) : Q r := by
  refine rest_rev (by omega) l (fun o h' => ⟨rr.can o h', ho o h'⟩) hr (hz _ (rest_can (by omega) rr.can hr) fun i => ?_)
  rw [rest_el (by omega) rr.can rr.apart hr]; exact h i
/-- Two lists of rows with the same space have the same reduced list. -/
theorem ech_eq (hP : isP p = true) {A B : List (List Int)} (ha : ∀ r ∈ A, Can p m r) (hb : ∀ r ∈ B, Can p m r) (h1 : ∀ a ∈ A, Zr p (ech p B) a) (h2 : ∀ b ∈ B, Zr p (ech p A) b) : ech p A = ech p B := by
  have hp := isP_pos hP
  exact RR_unique (by omega) (ech_RR hP ha) (ech_RR hP hb) (ech_lin hP (zr_lin (by omega)) fun r hr => ⟨ha r hr, h1 r hr⟩) (ech_lin hP (zr_lin (by omega)) fun r hr => ⟨hb r hr, h2 r hr⟩)

end
end Go.Proofs.YtkoifikjfnbcpaaEv
