/- Writing the frame's own variables. -/
import Derived.Test.YtkoifikjfnbcpaaEvSndJ
set_option linter.unusedVariables false
set_option linter.unusedSimpArgs false
namespace Go.Proofs.YtkoifikjfnbcpaaEv
open Go Go.RowKit

theorem RdL.cells1 {α : Type} {R : α → List Value → List Nat → Prop} (hR : ∀ x cs b, R x cs b → ∀ c ∈ cs, c.oneCell' = true) {n : Nat} : ∀ {l : List α} {cs : List Value} {bs : List Nat}, RdL R n l cs bs → cs.length = l.length * n → ∀ c ∈ cs, c.oneCell' = true
  | [], cs, bs, _, hl => by
    obtain rfl : cs = [] := List.eq_nil_of_length_eq_zero (by simpa using hl)
    intro c hc; cases hc
  | x :: xs, cs, bs, ⟨b1, b2, h1, h2, _⟩, hl => by
    intro c hc
    rw [← List.take_append_drop n cs] at hc
    rcases List.mem_append.1 hc with hc | hc
    · exact hR _ _ _ h1 c hc
    · exact RdL.cells1 hR h2 (by simp [hl, Nat.succ_mul]) c hc

theorem Rd.cells1 {h : Mem} : ∀ {t : Ty} {x : t.den} {cs : List Value} {bs : List Nat}, Rd h t x cs bs → ∀ c ∈ cs, c.oneCell' = true := by
  intro t
  induction t with
  | int k => rintro x cs bs ⟨rfl, _⟩ c hc; simp at hc; subst hc; rfl
  | bool => rintro x cs bs ⟨rfl, _⟩ c hc; simp at hc; subst hc; rfl
  | unit => rintro x cs bs ⟨rfl, _⟩ c hc; cases hc
  | pair a b iha ihb =>
    rintro x cs bs ⟨b1, b2, h1, h2, _⟩ c hc
    rw [← List.take_append_drop a.size cs] at hc
    rcases List.mem_append.1 hc with hc | hc
    · exact iha h1 c hc
    · exact ihb h2 c hc
  | arr n t ih => rintro x cs bs ⟨hl, hr⟩; exact hr.cells1 (fun x cs b hx => ih hx) (by rw [tlist_length]; exact hl)
  | slice e t ih =>
    rintro x cs bs ⟨hd, blk, bs', rfl, hs, _⟩ c hc
    simp at hc; subst hc
    rcases hs with ⟨rfl, _⟩ | ⟨b, o, cap, c, fr, rfl, _⟩ <;> rfl

theorem LeavesB.cells1 {g : Gh} {h : Mem} : ∀ {ls : List Leaf} {cs : List Value} {bs : List Nat}, LeavesB g h ls cs bs → ∀ c ∈ cs, c.oneCell' = true
  | [], cs, bs, ⟨h, _⟩ => by subst h; intro c hc; cases hc
  | l :: r, cs, bs, ⟨b1, b2, h1, h2, _⟩ => by
    intro c hc
    rw [← List.take_append_drop l.ty.size cs] at hc
    rcases List.mem_append.1 hc with hc | hc
    · exact h1.rd.cells1 c hc
    · exact LeavesB.cells1 h2 c hc

theorem splice_all (cs vs : List Value) (h : vs.length = cs.length) : splice cs 0 vs = vs := by
  unfold splice; simp [h]

theorem splice_splice (cs : List Value) (o n k : Nat) (vs : List Value) (h1 : o + n ≤ cs.length) (h2 : k + vs.length ≤ n) : splice cs o (splice ((cs.drop o).take n) k vs) = splice cs (o + k) vs := by
  have hl : ((cs.drop o).take n).length = n := by simp; omega
  have hs : (splice ((cs.drop o).take n) k vs).length = n := by rw [splice_length _ _ _ (by omega), hl]
  apply List.ext_getElem?; intro j
  have e2 := splice_get cs (o + k) vs (by omega) j
  rw [e2, splice_get _ _ _ (by omega), hs]
  by_cases h : o ≤ j ∧ j < o + n
  · rw [if_pos h, splice_get _ _ _ (by omega)]
    by_cases h' : k ≤ j - o ∧ j - o < k + vs.length
    · rw [if_pos h', if_pos (by omega)]; congr 1; omega
    · rw [if_neg h', if_neg (by omega), List.getElem?_take_of_lt (by omega), List.getElem?_drop]; congr 1; omega
  · rw [if_neg h, if_neg (by omega)]

theorem Rd_setP {h : Mem} {tx : Ty} {y : tx.den} {vs : List Value} (hy : Rd h tx y vs []) : ∀ {t : Ty} {p : List PStep} {v v' : t.den} {cs : List Value}, setP t v p tx y = some v' → pin t p → Rd h t v cs [] →
    Rd h t v' (splice cs (poff t p) vs) [] ∧ poff t p + vs.length ≤ cs.length := by
  have ly := hy.length
  have nilcase : ∀ {t : Ty} {v' : t.den} {cs : List Value}, Ty.cast t y = some v' → cs.length = t.size → Rd h t v' (splice cs 0 vs) [] ∧ 0 + vs.length ≤ cs.length := by
    intro t v' cs hc hl
    have e := congrArg Ty.size (cast_ty hc)
    rw [splice_all _ _ (by omega)]
    exact ⟨cast_rd hc hy, by omega⟩
  intro t
  induction t with
  | pair a b iha ihb =>
    intro p v v' cs hs hp hr
    have hlen := hr.length
    cases p with
    | nil => simp only [setP] at hs; exact nilcase hs hlen
    | cons q p =>
      obtain ⟨b1, b2, r1, r2, r3⟩ := hr
      obtain ⟨rfl, rfl⟩ := List.append_eq_nil_iff.1 r3.symm
      have l1 := r1.length; have l2 := r2.length
      simp [Ty.size] at hlen l1 l2
      cases q with
      | idx i => simp [pin] at hp
      | fld j =>
        cases j with
        | zero =>
          simp only [setP] at hs
          split at hs
          · rename_i z hz
            injection hs with hs; subst hs
            obtain ⟨q1, q2⟩ := iha hz hp r1
            simp at q2
            have gt := splice_get cs (poff a p) vs (by omega)
            refine ⟨⟨[], [], ?_, ?_, rfl⟩, by simp only [poff]; omega⟩
            · have e : (splice cs (poff (.pair a b) (.fld 0 :: p)) vs).take a.size = splice (cs.take a.size) (poff a p) vs := by
                apply List.ext_getElem?; intro j
                simp only [poff]
                by_cases hj : j < a.size
                · rw [List.getElem?_take_of_lt hj, gt, splice_get _ _ _ (by simp; omega), List.getElem?_take_of_lt hj]
                · rw [List.getElem?_eq_none (by simp; omega), List.getElem?_eq_none (by rw [splice_length _ _ _ (by simp; omega)]; simp; omega)]
              rw [e]; exact q1
            · have e : (splice cs (poff (.pair a b) (.fld 0 :: p)) vs).drop a.size = cs.drop a.size := by
                apply List.ext_getElem?; intro j
                simp only [poff]
                rw [List.getElem?_drop, List.getElem?_drop, gt, if_neg (by omega)]
              rw [e]; exact r2
          · cases hs
        | succ j =>
          simp only [setP] at hs
          split at hs
          · rename_i z hz
            injection hs with hs; subst hs
            obtain ⟨q1, q2⟩ := ihb (p := .fld j :: p) hz hp r2
            simp at q2
            have gt := splice_get cs (a.size + poff b (.fld j :: p)) vs (by omega)
            refine ⟨⟨[], [], ?_, ?_, rfl⟩, by simp only [poff]; omega⟩
            · have e : (splice cs (poff (.pair a b) (.fld (j + 1) :: p)) vs).take a.size = cs.take a.size := by
                apply List.ext_getElem?; intro j'
                simp only [poff]
                by_cases hj : j' < a.size
                · rw [List.getElem?_take_of_lt hj, List.getElem?_take_of_lt hj, gt, if_neg (by omega)]
                · rw [List.getElem?_eq_none (by simp; omega), List.getElem?_eq_none (by simp; omega)]
              rw [e]; exact r1
            · have e : (splice cs (poff (.pair a b) (.fld (j + 1) :: p)) vs).drop a.size = splice (cs.drop a.size) (poff b (.fld j :: p)) vs := by
                apply List.ext_getElem?; intro j'
                simp only [poff]
                rw [List.getElem?_drop, gt, splice_get _ _ _ (by simp; omega), List.getElem?_drop]
                by_cases hj : poff b (.fld j :: p) ≤ j' ∧ j' < poff b (.fld j :: p) + vs.length
                · rw [if_pos (by omega), if_pos hj]; congr 1; omega
                · rw [if_neg (by omega), if_neg hj]
              rw [e]; exact q1
          · cases hs
  | arr n u ih =>
    intro p v v' cs hs hp hr
    have hlen := hr.length
    cases p with
    | nil => simp only [setP] at hs; exact nilcase hs hlen
    | cons q p =>
      cases q with
      | fld j => simp [pin] at hp
      | idx i =>
        obtain ⟨hi, hp⟩ := hp
        simp only [setP] at hs
        split at hs
        · rename_i z hz
          injection hs with hs; subst hs
          obtain ⟨hl, hr⟩ := hr
          obtain ⟨b0, r1, r2⟩ := hr.get (tlist_get u.dflt n v i hi)
          have : b0 = [] := List.sublist_nil.1 r2
          subst this
          obtain ⟨q1, q2⟩ := ih hz hp r1
          have r3 := r1.length
          have hb : (i + 1) * u.size ≤ n * u.size := Nat.mul_le_mul_right _ hi
          rw [Nat.succ_mul] at hb
          have e : splice cs (poff (.arr n u) (.idx i :: p)) vs = splice cs (i * u.size) (splice ((cs.drop (i * u.size)).take u.size) (poff u p) vs) := by
            rw [splice_splice _ _ _ _ _ (by omega) (by omega)]; rfl
          have hs' : (splice ((cs.drop (i * u.size)).take u.size) (poff u p) vs).length = u.size := by rw [splice_length _ _ _ q2, r3]
          refine ⟨⟨?_, ?_⟩, by simp only [poff]; omega⟩
          · rw [e, splice_length _ _ _ (by omega)]; exact hl
          · obtain ⟨bs', s1, s2, _⟩ := RdL.set (x := z) hs' (cs' := splice cs (poff (.arr n u) (.idx i :: p)) vs) hr (by rw [tlist_length]; exact hi) q1 (fun j => by
              rw [e, splice_get _ _ _ (by omega), hs'])
            have : bs' = [] := by rcases bs' with _ | ⟨b, bs'⟩; rfl; have := s2 b (by simp); simp at this
            subst this
            rw [tlist_set]; exact s1
        · cases hs
  | int k => intro p v v' cs hs hp hr; cases p with | nil => simp only [setP] at hs; exact nilcase hs hr.length | cons q p => cases q <;> simp [pin] at hp
  | bool => intro p v v' cs hs hp hr; cases p with | nil => simp only [setP] at hs; exact nilcase hs hr.length | cons q p => cases q <;> simp [pin] at hp
  | unit => intro p v v' cs hs hp hr; cases p with | nil => simp only [setP] at hs; exact nilcase hs hr.length | cons q p => cases q <;> simp [pin] at hp
  | slice e t _ => intro p v v' cs hs hp hr; cases p with | nil => simp only [setP] at hs; exact nilcase hs hr.length | cons q p => cases q <;> simp [pin] at hp

theorem LeavesB_setOff {g : Gh} {h : Mem} : ∀ {ls : List Leaf} {cs : List Value} {bs : List Nat} {o : Nat} {l x : Leaf} {vs : List Value} {b : List Nat}, LeavesB g h ls cs bs → leafOff ls o = some l → x.ty = l.ty → LeafB g h x vs b →
    ∃ bs', LeavesB g h (setOff ls o x) (splice cs o vs) bs'
  | [], _, _, _, _, _, _, _, _, h, _, _ => by cases h
  | y :: r, cs, bs, o, l, x, vs, b, ⟨b1, b2, h1, h2, h3⟩, hl, hx, hb => by
    have hv := hb.rd.length
    rw [hx] at hv
    have len1 := h1.rd.length
    have len2 := LeavesB.length h2
    simp at len1 len2
    simp only [leafOff] at hl
    simp only [setOff]
    cases hz : Nat.beq o 0 with
    | true =>
      rw [hz] at hl; injection hl with hl; subst hl
      rw [Nat.eq_of_beq_eq_true hz]
      refine ⟨b ++ b2, b, b2, ?_, ?_, rfl⟩
      · rw [hx]; unfold splice; simp only [List.take_zero, List.nil_append]
        rw [List.take_append_of_le_length (by omega), List.take_of_length_le (by omega)]; exact hb
      · rw [hx]; unfold splice; simp only [List.take_zero, List.nil_append, Nat.zero_add]
        rw [List.drop_append_of_le_length (by omega), List.drop_of_length_le (by omega), List.nil_append, hv]; exact h2
    | false =>
      rw [hz] at hl
      cases hlt : Nat.blt o y.ty.size with
      | true => rw [hlt] at hl; cases hl
      | false =>
        rw [hlt] at hl
        have hge : y.ty.size ≤ o := by
          rcases Nat.lt_or_ge o y.ty.size with q | q
          · rw [show Nat.blt o y.ty.size = true by simpa using q] at hlt; cases hlt
          · exact q
        obtain ⟨bs', q⟩ := LeavesB_setOff h2 hl hx hb
        obtain ⟨_, _, _, q3⟩ := leafOff_get h2 hl
        simp at q3
        have gt := splice_get cs o vs (by omega)
        refine ⟨b1 ++ bs', b1, bs', ?_, ?_, rfl⟩
        · have : (splice cs o vs).take y.ty.size = cs.take y.ty.size := by
            apply List.ext_getElem?; intro j
            by_cases hj : j < y.ty.size
            · rw [List.getElem?_take_of_lt hj, List.getElem?_take_of_lt hj, gt, if_neg (by omega)]
            · rw [List.getElem?_eq_none (by simp; omega), List.getElem?_eq_none (by simp; omega)]
          rw [this]; exact h1
        · have : (splice cs o vs).drop y.ty.size = splice (cs.drop y.ty.size) (o - y.ty.size) vs := by
            apply List.ext_getElem?; intro j
            rw [List.getElem?_drop, gt, splice_get _ _ _ (by simp; omega), List.getElem?_drop]
            by_cases hj : o - y.ty.size ≤ j ∧ j < o - y.ty.size + vs.length
            · rw [if_pos (by omega), if_pos hj]; congr 1; omega
            · rw [if_neg (by omega), if_neg hj]
          rw [this]; exact q

end Go.Proofs.YtkoifikjfnbcpaaEv
