/- Reading memory: the code comes to what is told. -/
import Derived.Test.YtkoifikjfnbcpaaEvTok
set_option linter.unusedVariables false
set_option linter.unusedSimpArgs false
namespace Go.Proofs.YtkoifikjfnbcpaaEv
open Go Go.RowKit

theorem cell_of {w : World} {b o : Nat} {c : Array Value} {e : TypeId} {fr : Nat × Nat} (hb : w.heap[b]? = some (.cells c e fr)) : w.cell? ⟨b, o, none⟩ = c[o]? := by
  simp [World.cell?, hb]

theorem cast_ty {a b : Ty} {x : a.den} {y : b.den} (h : Ty.cast b x = some y) : a = b := (Ty.cast_eq h).1
theorem cast_self {a : Ty} {x y : a.den} (h : Ty.cast a x = some y) : x = y := by
  obtain ⟨e, h⟩ := Ty.cast_eq h
  exact h

theorem Rd.one {h : Mem} {t : Ty} {x : t.den} {cs : List Value} {bs : List Nat} (hr : Rd h t x cs bs) (ht : t.agg = false) : ∃ c, cs = [c] ∧ c.cells = #[c] := by
  cases t with
  | int k => exact ⟨_, hr.1, rfl⟩
  | bool => exact ⟨_, hr.1, rfl⟩
  | slice e t => obtain ⟨hd, blk, bs', rfl, hs, _⟩ := hr; refine ⟨hd, rfl, ?_⟩; rcases hs with ⟨rfl, _⟩ | ⟨b, o, cap, c, fr, rfl, _⟩ <;> rfl
  | unit => cases ht
  | pair a b => cases ht
  | arr n t => cases ht

theorem LeafB.rd {g : Gh} {h : Mem} {l : Leaf} {cs : List Value} {bs : List Nat} (hl : LeafB g h l cs bs) : Rd h l.ty l.val cs bs := by
  cases l with
  | fz t reg lin v => exact hl.1
  | rt e t tag sub lin st v =>
    obtain ⟨hd, blk, bs', rfl, rfl, _, _, hs, _⟩ := hl
    exact ⟨hd, blk, bs', rfl, hs, rfl⟩

/-- A part alone, as a value. -/
theorem LeafB.valR {g : Gh} {h : Mem} {l : Leaf} {cs : List Value} {bs : List Nat} (hl : LeafB g h l cs bs) : ValR g h l.ty.agg [l] (bif l.ty.agg then .agg cs.toArray else cs.headD undef) := by
  refine ⟨cs, bs, rfl, fun ha => ?_, bs, [], by rw [List.take_of_length_le (by rw [hl.rd.length]; exact Nat.le_refl _)]; exact hl, ⟨by rw [List.drop_eq_nil_iff, hl.rd.length]; exact Nat.le_refl _, rfl⟩, by simp⟩
  obtain ⟨c, rfl, hc⟩ := hl.rd.one ha
  rw [ha]; exact ⟨rfl, hc⟩

theorem LeavesB.length {g : Gh} {h : Mem} : ∀ {ls : List Leaf} {cs : List Value} {bs : List Nat}, LeavesB g h ls cs bs → cs.length = sizes ls
  | [], _, _, ⟨h1, _⟩ => by rw [h1]; rfl
  | l :: r, cs, bs, ⟨b1, b2, h1, h2, _⟩ => by
    have := h1.rd.length; have := LeavesB.length h2; simp [sizes] at *; omega

theorem valMany_size : ∀ {t : Ty} {ls : List Leaf} {x : t.den}, valMany t ls = some x → sizes ls = t.size := by
  intro t
  induction t with
  | unit => intro ls x hv; cases ls with | nil => rfl | cons l r => cases hv
  | pair a b _ ihb =>
    intro ls x hv
    cases ls with
    | nil => cases hv
    | cons l r =>
      simp only [valMany] at hv
      split at hv
      · rename_i y z h1 h2; simp [sizes, Ty.size, cast_ty h1, ihb h2]
      · cases hv
  | int k => intro ls x hv; cases hv
  | bool => intro ls x hv; cases hv
  | arr n t _ => intro ls x hv; cases hv
  | slice e t _ => intro ls x hv; cases hv

theorem valAs_cases {t : Ty} {ls : List Leaf} {x : t.den} (hv : valAs t ls = some x) : (∃ l, ls = [l] ∧ Ty.cast t l.val = some x) ∨ valMany t ls = some x := by
  unfold valAs at hv
  split at hv
  · rename_i l
    cases he : l.ty.eqb t with
    | true => rw [he] at hv; exact .inl ⟨l, rfl, hv⟩
    | false => rw [he] at hv; exact .inr hv
  · exact .inr hv

theorem valAs_size {t : Ty} {ls : List Leaf} {x : t.den} (hv : valAs t ls = some x) : sizes ls = t.size := by
  rcases valAs_cases hv with ⟨l, rfl, hc⟩ | hm
  · simp [sizes, cast_ty hc]
  · exact valMany_size hm

theorem cast_rd {h : Mem} {a b : Ty} {x : a.den} {y : b.den} {cs : List Value} {bs : List Nat} (hc : Ty.cast b x = some y) (hr : Rd h a x cs bs) : Rd h b y cs bs := by
  obtain ⟨e, hy⟩ := Ty.cast_eq hc
  subst e; subst hy; exact hr

theorem valMany_rd {g : Gh} {h : Mem} : ∀ {t : Ty} {ls : List Leaf} {x : t.den} {cs : List Value} {bs : List Nat}, valMany t ls = some x → LeavesB g h ls cs bs → Rd h t x cs bs := by
  intro t
  induction t with
  | unit => intro ls x cs bs hv hl; cases ls with | nil => exact hl | cons l r => cases hv
  | pair a b _ ihb =>
    intro ls x cs bs hv hl
    cases ls with
    | nil => cases hv
    | cons l r =>
      obtain ⟨b1, b2, h1, h2, h3⟩ := hl
      simp only [valMany] at hv
      split at hv
      · rename_i y z e1 e2
        injection hv with hv; subst hv
        have hz : l.ty.size = a.size := congrArg Ty.size (cast_ty e1)
        rw [hz] at h1 h2
        exact ⟨b1, b2, cast_rd e1 h1.rd, ihb e2 h2, h3⟩
      · cases hv
  | int k => intro ls x cs bs hv; cases hv
  | bool => intro ls x cs bs hv; cases hv
  | arr n t _ => intro ls x cs bs hv; cases hv
  | slice e t _ => intro ls x cs bs hv; cases hv

theorem valAs_rd {g : Gh} {h : Mem} {t : Ty} {ls : List Leaf} {x : t.den} {cs : List Value} {bs : List Nat} (hv : valAs t ls = some x) (hl : LeavesB g h ls cs bs) : Rd h t x cs bs := by
  rcases valAs_cases hv with ⟨l, rfl, hc⟩ | hm
  · obtain ⟨b1, b2, h1, ⟨h2, h2'⟩, h3⟩ := hl
    subst h2'
    have hlen : cs.take l.ty.size = cs := by rw [List.drop_eq_nil_iff] at h2; exact List.take_of_length_le h2
    rw [hlen] at h1
    simp at h3; subst h3
    exact cast_rd hc h1.rd
  · exact valMany_rd hm hl

theorem isAgg_of {P : Program} {T : TTab} {t : TypeId} {ty : Ty} (k : TyOK P T t ty) (w : World) : (isAgg t).run P w = .ok ty.agg w := by
  have hu := k.und
  unfold isAgg
  cases ty with
  | int k => simp only [Sem.run_bind, run_underlying hu, Result.andThen_ok]; rfl
  | bool => simp only [Sem.run_bind, run_underlying hu, Result.andThen_ok]; rfl
  | slice e t => simp only [Sem.run_bind, run_underlying hu.1, Result.andThen_ok]; rfl
  | arr n t => obtain ⟨e, hu, _⟩ := hu; simp only [Sem.run_bind, run_underlying hu, Result.andThen_ok]; rfl
  | unit => obtain ⟨e, hu, _⟩ := hu; simp only [Sem.run_bind, run_underlying hu, Result.andThen_ok]; rfl
  | pair a b => obtain ⟨e, hu, _⟩ := hu; simp only [Sem.run_bind, run_underlying hu, Result.andThen_ok]; rfl

theorem sizeOf_of {P : Program} {T : TTab} {t : TypeId} {ty : Ty} (k : TyOK P T t ty) (w : World) : (sizeOf t).run P w = .ok ty.size w := by
  obtain ⟨i, h1, h2, _⟩ := k.info
  rw [run_sizeOf w h1, ← h2]; simp [Program.cellsOf, h1]

theorem run_loadVar {P : Program} {T : TTab} {t : TypeId} {ty : Ty} (k : TyOK P T t ty) {w : World} {b o : Nat} {c : Array Value} {e : TypeId} {fr : Nat × Nat}
    (hb : w.heap[b]? = some (.cells c e fr)) (ho : o + ty.size ≤ c.size) :
    (loadVar t ⟨b, o, none⟩).run P w = .ok (bif ty.agg then .agg ((c.toList.drop o).take ty.size).toArray else ((c.toList.drop o).take ty.size).headD undef) w := by
  have hl : ((c.toList.drop o).take ty.size).length = ty.size := by simp; omega
  have hc : ∀ j v, ((c.toList.drop o).take ty.size)[j]? = some v → w.cell? ((⟨b, o, none⟩ : Addr).add j) = some v := by
    intro j v hj
    have hlt : j < ty.size := by
      rcases Nat.lt_or_ge j ty.size with h | h
      · exact h
      · rw [List.getElem?_eq_none (by omega)] at hj; cases hj
    rw [List.getElem?_take_of_lt hlt, List.getElem?_drop] at hj
    have : ((⟨b, o, none⟩ : Addr).add j) = ⟨b, o + j, none⟩ := by unfold Addr.add; split <;> simp_all
    rw [this, cell_of hb]; simpa using hj
  unfold loadVar
  simp only [Sem.run_bind, isAgg_of k, Result.andThen_ok]
  cases ha : ty.agg with
  | true =>
    simp only [if_true, Sem.run_bind, sizeOf_of k, Result.andThen_ok]
    have := run_loadCells_list (P := P) w ⟨b, o, none⟩ _ hc
    rw [hl] at this
    rw [this]; rfl
  | false =>
    simp only [Bool.false_eq_true, if_false, cond_false]
    have h1 : ty.size = 1 := by cases ty <;> first | rfl | cases ha
    rw [h1] at hl hc ⊢
    obtain ⟨v, hv⟩ : ∃ v, (c.toList.drop o).take 1 = [v] := by
      match (c.toList.drop o).take 1, hl with
      | [v], _ => exact ⟨v, rfl⟩
    have := hc 0 v (by rw [hv]; rfl)
    rw [hv]
    simp only [Addr.add, if_true] at this
    simp [Go.load, Sem.run, this]

theorem leafOff_get {g : Gh} {h : Mem} : ∀ {ls : List Leaf} {cs : List Value} {bs : List Nat} {o : Nat} {l : Leaf}, LeavesB g h ls cs bs → leafOff ls o = some l →
    ∃ b, LeafB g h l ((cs.drop o).take l.ty.size) b ∧ b.Sublist bs ∧ o + l.ty.size ≤ cs.length
  | [], _, _, _, _, _, hl => by cases hl
  | x :: r, cs, bs, o, l, ⟨b1, b2, h1, h2, h3⟩, hl => by
    have hlen := h1.rd.length
    have hlen2 := LeavesB.length h2
    simp at hlen hlen2
    simp only [leafOff] at hl
    cases hz : Nat.beq o 0 with
    | true =>
      rw [hz] at hl; injection hl with hl; subst hl
      rw [Nat.eq_of_beq_eq_true hz]
      exact ⟨b1, by simpa using h1, by rw [h3]; exact List.sublist_append_left _ _, by omega⟩
    | false =>
      rw [hz] at hl
      cases hlt : Nat.blt o x.ty.size with
      | true => rw [hlt] at hl; cases hl
      | false =>
        rw [hlt] at hl
        have hge : x.ty.size ≤ o := by
          rcases Nat.lt_or_ge o x.ty.size with q | q
          · rw [show Nat.blt o x.ty.size = true by simpa using q] at hlt; cases hlt
          · exact q
        obtain ⟨b, q1, q2, q3⟩ := leafOff_get h2 hl
        refine ⟨b, ?_, by rw [h3]; exact q2.trans (List.sublist_append_right _ _), ?_⟩
        · rw [List.drop_drop, show x.ty.size + (o - x.ty.size) = o by omega] at q1; exact q1
        · simp at q3; omega

theorem Rd.path {h : Mem} : ∀ {t : Ty} {p : List PStep} {v : t.den} {t' : Ty} {x : t'.den} {cs : List Value} {bs : List Nat}, getP t v p = some ⟨t', x⟩ → pin t p → Rd h t v cs bs →
    ∃ b, Rd h t' x ((cs.drop (poff t p)).take t'.size) b ∧ b.Sublist bs ∧ poff t p + t'.size ≤ cs.length := by
  intro t
  induction t with
  | int k =>
    intro p v t' x cs bs hg hp hr
    cases p with
    | nil => simp only [getP] at hg; cases hg; exact ⟨bs, by simp only [poff, List.drop_zero]; rw [List.take_of_length_le (by rw [hr.length]; exact Nat.le_refl _)]; exact hr, List.Sublist.refl _, by simp [poff, hr.length]⟩
    | cons q p => cases q <;> simp [getP] at hg
  | bool =>
    intro p v t' x cs bs hg hp hr
    cases p with
    | nil => simp only [getP] at hg; cases hg; exact ⟨bs, by simpa [poff, Ty.size, hr.1] using hr, List.Sublist.refl _, by simp [poff, hr.length]⟩
    | cons q p => cases q <;> simp [getP] at hg
  | unit =>
    intro p v t' x cs bs hg hp hr
    cases p with
    | nil => simp only [getP] at hg; cases hg; exact ⟨bs, by simpa [poff, Ty.size, hr.1] using hr, List.Sublist.refl _, by simp [poff, hr.length]⟩
    | cons q p => cases q <;> simp [getP] at hg
  | slice e t ih =>
    intro p v t' x cs bs hg hp hr
    cases p with
    | nil => simp only [getP] at hg; cases hg; exact ⟨bs, by simp only [poff, List.drop_zero]; rw [List.take_of_length_le (by rw [hr.length]; exact Nat.le_refl _)]; exact hr, List.Sublist.refl _, by simp [poff, hr.length]⟩
    | cons q p => cases q <;> simp [getP] at hg
  | pair a b iha ihb =>
    intro p v t' x cs bs hg hp hr
    cases p with
    | nil => simp only [getP] at hg; cases hg; exact ⟨bs, by simp only [poff, List.drop_zero]; rw [List.take_of_length_le (by rw [hr.length]; exact Nat.le_refl _)]; exact hr, List.Sublist.refl _, by simp [poff, hr.length]⟩
    | cons q p =>
      have hlen := hr.length
      obtain ⟨b1, b2, h1, h2, h3⟩ := hr
      have l1 := h1.length
      have l2 := h2.length
      simp [Ty.size] at hlen l1 l2
      cases q with
      | idx i => simp [getP] at hg
      | fld j =>
        cases j with
        | zero =>
          obtain ⟨b, q1, q2, q3⟩ := iha hg hp h1
          refine ⟨b, ?_, by rw [h3]; exact q2.trans (List.sublist_append_left _ _), ?_⟩
          · simp only [poff]
            rw [List.drop_take, List.take_take] at q1
            simp at q3
            rwa [show min t'.size (a.size - poff a p) = t'.size by omega] at q1
          · simp only [poff]; simp at q3; omega
        | succ j =>
          obtain ⟨b, q1, q2, q3⟩ := ihb (p := .fld j :: p) hg hp h2
          refine ⟨b, ?_, by rw [h3]; exact q2.trans (List.sublist_append_right _ _), ?_⟩
          · simp only [poff]; rw [List.drop_drop] at q1; exact q1
          · simp only [poff]; simp at q3; omega
  | arr n t ih =>
    intro p v t' x cs bs hg hp hr
    cases p with
    | nil => simp only [getP] at hg; cases hg; exact ⟨bs, by simp only [poff, List.drop_zero]; rw [List.take_of_length_le (by rw [hr.length]; exact Nat.le_refl _)]; exact hr, List.Sublist.refl _, by simp [poff, hr.length]⟩
    | cons q p =>
      obtain ⟨hl, hr⟩ := hr
      cases q with
      | fld j => simp [getP] at hg
      | idx i =>
        obtain ⟨hi, hp⟩ := hp
        obtain ⟨b0, r1, r2⟩ := hr.get (tlist_get t.dflt n v i hi)
        obtain ⟨b, q1, q2, q3⟩ := ih hg hp r1
        have r3 := r1.length
        refine ⟨b, ?_, q2.trans r2, ?_⟩
        · simp only [poff]
          rw [List.drop_take, List.take_take, List.drop_drop] at q1
          simp at q3
          rwa [show min t'.size (t.size - poff t p) = t'.size by omega] at q1
        · simp only [poff]
          rw [r3] at q3
          have : (i + 1) * t.size ≤ n * t.size := Nat.mul_le_mul_right _ hi
          rw [Nat.succ_mul] at this
          omega

end Go.Proofs.YtkoifikjfnbcpaaEv
