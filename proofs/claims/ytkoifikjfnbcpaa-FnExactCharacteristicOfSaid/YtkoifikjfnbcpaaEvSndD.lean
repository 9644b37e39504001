/- Operations that only look: the code comes to what is told. -/
import Derived.Test.YtkoifikjfnbcpaaEvSndC
set_option linter.unusedVariables false
set_option linter.unusedSimpArgs false
namespace Go.Proofs.YtkoifikjfnbcpaaEv
open Go Go.RowKit

section
variable {g : Gh} {P : Program} {T : TTab} {w : World}

theorem run_sureAddr {b o : Nat} : (Instr.sureAddr (.pointer (some ⟨b, o, none⟩))).run P w = .ok ⟨b, o, none⟩ w := rfl

theorem leaf_load {t : TypeId} {l : Leaf} {b o : Nat} {c : Array Value} {e : TypeId} {fr : Nat × Nat} {bs : List Nat} (k : TyOK P T t l.ty) (hb : w.heap[b]? = some (.cells c e fr))
    (hl : LeafB g w.heap l ((c.toList.drop o).take l.ty.size) bs) (ho : o + l.ty.size ≤ c.size) :
    ∃ v, (Instr.loadAt t (.pointer (some ⟨b, o, none⟩))).run P w = .ok v w ∧ ValR g w.heap l.ty.agg [l] v := by
  refine ⟨_, ?_, hl.valR⟩
  simp only [Instr.loadAt, Sem.run_bind, run_sureAddr, Result.andThen_ok, run_loadVar k hb ho]

theorem poff_cons {t : Ty} {p : List PStep} {u : Ty} {q : List PStep} (h : tyP t p = some u) (hp : pin t p) (hq : pin u q) : tyP t (p ++ q) = tyP u q ∧ poff t (p ++ q) = poff t p + poff u q ∧ pin t (p ++ q) := by
  induction t generalizing p with
  | pair a b iha ihb =>
    cases p with
    | nil => simp only [tyP, Option.some.injEq] at h; subst h; exact ⟨rfl, by simp [poff], hq⟩
    | cons x p =>
      cases x with
      | idx i => simp [pin] at hp
      | fld j => cases j with
        | zero => obtain ⟨h1, h2, h3⟩ := iha (p := p) h hp; exact ⟨h1, h2, h3⟩
        | succ j => obtain ⟨h1, h2, h3⟩ := ihb (p := .fld j :: p) h hp; exact ⟨h1, by simp only [List.cons_append, poff] at h2 ⊢; omega, h3⟩
  | arr n t ih =>
    cases p with
    | nil => simp only [tyP, Option.some.injEq] at h; subst h; exact ⟨rfl, by simp [poff], hq⟩
    | cons x p =>
      cases x with
      | fld j => simp [pin] at hp
      | idx i => obtain ⟨h1, h2, h3⟩ := ih (p := p) h hp.2; exact ⟨h1, by simp only [List.cons_append, poff] at h2 ⊢; omega, hp.1, h3⟩
  | int k => cases p with | nil => simp only [tyP, Option.some.injEq] at h; subst h; exact ⟨rfl, by simp [poff], hq⟩ | cons x p => cases x <;> simp [pin] at hp
  | bool => cases p with | nil => simp only [tyP, Option.some.injEq] at h; subst h; exact ⟨rfl, by simp [poff], hq⟩ | cons x p => cases x <;> simp [pin] at hp
  | unit => cases p with | nil => simp only [tyP, Option.some.injEq] at h; subst h; exact ⟨rfl, by simp [poff], hq⟩ | cons x p => cases x <;> simp [pin] at hp
  | slice e t _ => cases p with | nil => simp only [tyP, Option.some.injEq] at h; subst h; exact ⟨rfl, by simp [poff], hq⟩ | cons x p => cases x <;> simp [pin] at hp

theorem load_sound {get : Nat → Ent} {a : Act} {t : TypeId} {ty : Ty} {x : Operand} {e r : Ent} (k : TyOK P T t ty) (hg : ∀ s, EntR g w.heap s (get s) (a.tmps.getD s undef))
    (hx : opE get x = some e) (hr : loadE get ty x e = some r) : ∃ v, (Instr.loadAt t (a.eval x)).run P w = .ok v w ∧ ∀ s, EntR g w.heap s r v := by
  obtain ⟨s0, he, hs0⟩ := opE_sound hg hx
  cases e with
  | box ro ls =>
    simp only [loadE] at hr
    split at hr
    · rename_i s
      cases hv : (valAs ty ls).isSome with
      | false => rw [hv] at hr; cases hr
      | true =>
        rw [hv] at hr; injection hr with hr; subst hr
        obtain ⟨y, hy⟩ := Option.isSome_iff_exists.1 hv
        obtain ⟨b, c, e, fr, bs, h1, h2, h3, _⟩ := he
        have hl := h3.length
        have hz := valAs_size hy
        have hrd := valAs_rd hy h3
        have hsz : ty.size = c.toList.length := by omega
        refine ⟨_, ?_, fun s => ⟨c.toList, bs, rfl, fun ha => ?_, h3⟩⟩
        · rw [h1]
          have ho : 0 + ty.size ≤ c.size := by rw [hsz]; simp
          simp only [Instr.loadAt, Sem.run_bind, run_sureAddr, Result.andThen_ok, run_loadVar k h2 ho]
          rw [List.drop_zero, hsz, List.take_length]
        · obtain ⟨v, hv1, hv2⟩ := hrd.one ha
          rw [hv1, ha]; exact ⟨rfl, hv2⟩
    · cases hr
  | ref s base t0 p =>
    obtain ⟨hp, hv⟩ := he
    simp only [loadE] at hr
    split at hr
    · rename_i ro ls hs
      have hb := hg s; rw [hs] at hb
      obtain ⟨b, c, e, fr, bs, h1, h2, h3, h4, _⟩ := hb
      split at hr
      · rename_i l hl
        cases h0 : l.ty.eqb t0 with
        | false => rw [h0] at hr; cases hr
        | true =>
          rw [h0] at hr
          have h0 := eqb_eq h0; subst h0
          simp only [cond_true] at hr
          split at hr
          · rename_i l' hf
            cases hq : l'.ty.eqb ty with
            | false => rw [hq] at hr; cases hr
            | true =>
              rw [hq] at hr; injection hr with hr; subst hr
              have hq := eqb_eq hq; subst hq
              obtain ⟨b1, q1, q2, q3⟩ := leafOff_get h3 hl
              obtain ⟨_, b2, r1, r2, r3⟩ := flatAt_B q1 hp hf
              have hlen : ((c.toList.drop base).take l.ty.size).length = l.ty.size := q1.rd.length
              rw [List.drop_take, List.take_take, List.drop_drop] at r1
              rw [hlen] at r3
              rw [show min l'.ty.size (l.ty.size - poff l.ty p) = l'.ty.size by omega] at r1
              obtain ⟨v, v1, v2⟩ := leaf_load (P := P) (T := T) k h2 r1 (by simp at q3; omega)
              refine ⟨v, ?_, fun s => v2⟩
              rw [hv, h4]; exact v1
          · cases hr
      · cases hr
    · cases hr
  | eref l i p =>
    obtain ⟨bs, b, o, n, cap, h1, h2, h3, h4, h5⟩ := he
    simp only [loadE] at hr
    split at hr
    · rename_i l1 hl1
      obtain ⟨e1, c, e, fr, b', q1, q2, q3, q4⟩ := elemL_B h1 h2 h3 hl1
      rw [← e1] at h4 h5 q2 q4
      split at hr
      · rename_i l' hf
        cases hq : l'.ty.eqb ty with
        | false => rw [hq] at hr; cases hr
        | true =>
          rw [hq] at hr; injection hr with hr; subst hr
          have hq := eqb_eq hq; subst hq
          obtain ⟨_, b2, r1, r2, r3⟩ := flatAt_B q2 h4 hf
          have hlen : ((c.toList.drop (o + i * l1.ty.size)).take l1.ty.size).length = l1.ty.size := q2.rd.length
          rw [List.drop_take, List.take_take, List.drop_drop] at r1
          rw [hlen] at r3
          rw [show min l'.ty.size (l1.ty.size - poff l1.ty p) = l'.ty.size by omega] at r1
          obtain ⟨v, v1, v2⟩ := leaf_load (P := P) (T := T) k q1 r1 (by omega)
          refine ⟨v, ?_, fun s => v2⟩
          rw [h5]; exact v1
      · cases hr
    · cases hr
  | _ => simp [loadE] at hr

/-- A field of a struct's type. -/
theorem FsOK.at {fs : List Field} : ∀ {ty : Ty} {off j : Nat} {u : Ty}, FsOK P T fs ty off → tyP ty [.fld j] = some u →
    ∃ f, fs[j]? = some f ∧ f.offset = off + poff ty [.fld j] ∧ tyOf T f.type = some u ∧ u.size ≠ 0 := by
  induction fs with
  | nil => intro ty off j u hf hu; cases ty <;> first | exact hf.elim | (cases j <;> simp [tyP] at hu)
  | cons f fs ih =>
    intro ty off j u hf hu
    cases ty with
    | pair a b =>
      obtain ⟨h1, h2, h3, h4, h5⟩ := hf
      cases j with
      | zero =>
        have : tyP a [] = some a := by cases a <;> rfl
        simp only [tyP] at hu; injection hu with hu; subst hu
        have e : poff a [] = 0 := by cases a <;> rfl
        exact ⟨f, rfl, by simp only [poff, e]; omega, h2, h4⟩
      | succ j =>
        obtain ⟨f', q1, q2, q3, q4⟩ := ih h5 (j := j) hu
        exact ⟨f', by simpa using q1, by simp only [poff] at q2 ⊢; omega, q3, q4⟩
    | _ => exact hf.elim

theorem struct_und {t : TypeId} {ty : Ty} (k : TyOK P T t ty) (hs : ty.isStruct = true) : ∃ fs, P.underlying t = some (.struct fs) ∧ P.stoodInHeld t = false ∧ FsOK P T fs.toList ty 0 := by
  have := k.und
  cases ty <;> first | exact this | cases hs

theorem run_fieldAt {t : TypeId} {ty u : Ty} {j b o : Nat} (hT : TOK P T) (k : TyOK P T t ty) (hs : ty.isStruct = true) (hu : tyP ty [.fld j] = some u) :
    (Instr.fieldAt t (.pointer (some ⟨b, o, none⟩)) j).run P w = .ok (.pointer (some ⟨b, o + poff ty [.fld j], none⟩)) w := by
  obtain ⟨fs, h1, _, h2⟩ := struct_und k hs
  obtain ⟨f, q1, q2, q3, q4⟩ := h2.at hu
  have q1' : fs[j]? = some f := by simpa using q1
  simp only [Instr.fieldAt, Sem.run_bind, run_underlying h1, Result.andThen_ok, q1', run_sureAddr, fieldPlace, sizeOf_of (hT _ _ q3), if_neg q4, Sem.run_pure]
  rw [addr_add, q2, Nat.zero_add]

theorem leafAt_of : ∀ {ty : Ty} {ls : List Leaf} {x : ty.den} {j o : Nat} {l : Leaf}, valMany ty ls = some x → leafAt ls j = some (o, l) → tyP ty [.fld j] = some l.ty ∧ poff ty [.fld j] = o := by
  intro ty
  induction ty with
  | pair a b _ ihb =>
    intro ls x j o l hv hl
    cases ls with
    | nil => cases hv
    | cons l0 r =>
      simp only [valMany] at hv
      split at hv
      · rename_i y z e1 e2
        have ea := cast_ty e1
        cases j with
        | zero =>
          simp only [leafAt, Option.some.injEq, Prod.mk.injEq] at hl
          obtain ⟨rfl, rfl⟩ := hl
          have e1 : tyP a [] = some a := by cases a <;> rfl
          have e : poff a [] = 0 := by cases a <;> rfl
          simp only [tyP, poff, e1, e, ea]; exact ⟨trivial, trivial⟩
        | succ j =>
          simp only [leafAt] at hl
          split at hl
          · rename_i o' x' hl'
            injection hl with hl; injection hl with hl1 hl2; subst hl1; subst hl2
            obtain ⟨q1, q2⟩ := ihb e2 hl'
            exact ⟨q1, by simp only [poff, q2, ea]⟩
          · cases hl
      · cases hv
  | unit => intro ls x j o l hv hl; cases ls with | nil => cases hl | cons l0 r => cases hv
  | int k => intro ls x j o l hv; cases hv
  | bool => intro ls x j o l hv; cases hv
  | arr n t _ => intro ls x j o l hv; cases hv
  | slice e t _ => intro ls x j o l hv; cases hv

theorem tyIs_eq {t u : Ty} {p : List PStep} (h : tyIs t p u = true) : tyP t p = some u := by
  unfold tyIs at h
  split at h
  · rename_i t' ht; rw [ht, eqb_eq h]
  · cases h

theorem pin_fld {t u : Ty} {j : Nat} (h : tyP t [.fld j] = some u) : pin t [.fld j] := by
  induction t generalizing j with
  | pair a b iha ihb =>
    cases j with
    | zero => cases a <;> trivial
    | succ j => exact ihb h
  | _ => cases j <;> simp [tyP] at h

theorem field_sound {get : Nat → Ent} {a : Act} {t : TypeId} {ty : Ty} {x : Operand} {e r : Ent} {j : Nat} (hT : TOK P T) (k : TyOK P T t ty) (hg : ∀ s, EntR g w.heap s (get s) (a.tmps.getD s undef))
    (hx : opE get x = some e) (hr : fieldE ty x e j = some r) : ∃ v, (Instr.fieldAt t (a.eval x) j).run P w = .ok v w ∧ ∀ s, EntR g w.heap s r v := by
  obtain ⟨s0, he, hs0⟩ := opE_sound hg hx
  unfold fieldE at hr
  cases hc : (ty.isStruct && (tyP ty [.fld j]).isSome) with
  | false => rw [hc] at hr; cases hr
  | true =>
    rw [hc] at hr
    simp only [Bool.and_eq_true] at hc
    obtain ⟨hs, hu⟩ := hc
    obtain ⟨u, hu⟩ := Option.isSome_iff_exists.1 hu
    simp only [cond_true] at hr
    cases e with
    | box ro ls =>
      simp only at hr
      split at hr
      · rename_i s
        cases hv : (valMany ty ls).isSome with
        | false => rw [hv] at hr; cases hr
        | true =>
          rw [hv] at hr; simp only [cond_true] at hr
          obtain ⟨y, hy⟩ := Option.isSome_iff_exists.1 hv
          split at hr
          · rename_i o l hl
            injection hr with hr; subst hr
            obtain ⟨b, c, e, fr, bs, h1, h2, h3, h4, _⟩ := he
            obtain ⟨q1, q2⟩ := leafAt_of hy hl
            have hs' := (hs0 s rfl).1
            refine ⟨_, by rw [h1]; exact run_fieldAt hT k hs hu, fun s' => ⟨by cases l.ty <;> trivial, ?_⟩⟩
            have e0 : poff l.ty [] = 0 := by cases l.ty <;> rfl
            rw [← hs', h4, q2, e0]; simp
          · cases hr
      · cases hr
    | ref s base t0 p =>
      simp only at hr
      cases hv : tyIs t0 p ty with
      | false => rw [hv] at hr; cases hr
      | true =>
        rw [hv] at hr; injection hr with hr; subst hr
        obtain ⟨h1, h2⟩ := he
        obtain ⟨q1, q2, q3⟩ := poff_cons (tyIs_eq hv) h1 (pin_fld hu)
        refine ⟨_, by rw [h2]; exact run_fieldAt hT k hs hu, fun s' => ⟨q3, ?_⟩⟩
        rw [q2]; simp only [Nat.add_assoc]
    | eref l i p =>
      simp only at hr
      cases hv : tyIs (elemTy l) p ty with
      | false => rw [hv] at hr; cases hr
      | true =>
        rw [hv] at hr; injection hr with hr; subst hr
        obtain ⟨bs, b, o, n, cap, h1, h2, h3, h4, h5⟩ := he
        obtain ⟨q1, q2, q3⟩ := poff_cons (tyIs_eq hv) h4 (pin_fld hu)
        refine ⟨_, by rw [h5]; exact run_fieldAt hT k hs hu, fun s' => ⟨bs, b, o, n, cap, h1, h2, h3, q3, ?_⟩⟩
        rw [q2]; simp only [Nat.add_assoc]
    | _ => simp at hr

theorem lenL_eq {h : Mem} {l : Leaf} {n : Nat} {cs : List Value} {bs : List Nat} (hl : LeafB g h l cs bs) (hn : lenL l = some n) :
    (cs = [.slice none 0 0] ∧ n = 0) ∨ ∃ b o cap, cs = [.slice (some ⟨b, o, none⟩) n cap] ∧ n ≤ cap := by
  cases l with
  | fz t reg lin v =>
    cases t with
    | slice e t =>
      simp only [lenL, Option.some.injEq] at hn; subst hn
      obtain ⟨⟨hd, blk, bs', rfl, h2, _⟩, _⟩ := hl
      rcases h2 with ⟨rfl, h2, _⟩ | ⟨b, o, cap, c, fr, rfl, _, e3, _⟩
      · exact .inl ⟨rfl, by have h2 : v = [] := h2; rw [h2]; rfl⟩
      · exact .inr ⟨b, o, cap, rfl, e3⟩
    | _ => cases hn
  | rt e t tag sub lin st v =>
    simp only [lenL, Option.some.injEq] at hn; subst hn
    obtain ⟨hd, blk, bs', rfl, _, _, _, h2, _⟩ := hl
    rcases h2 with ⟨rfl, h2, _⟩ | ⟨b, o, cap, c, fr, rfl, _, e3, _⟩
    · exact .inl ⟨rfl, by have h2 : v = [] := h2; rw [h2]; rfl⟩
    · exact .inr ⟨b, o, cap, rfl, e3⟩

theorem val1 {h : Mem} {l : Leaf} {v : Value} (hv : ValR g h false [l] v) : ∃ bs, LeafB g h l [v] bs ∧ v.cells = #[v] := by
  obtain ⟨cs, bs, h1, h2, b1, b2, h3, ⟨h4, h5⟩, h6⟩ := hv
  obtain ⟨hl, hc⟩ := h2 rfl
  match cs, hl with
  | [c], _ =>
    simp at h1; subst h1
    have : [v].take l.ty.size = [v] := by rw [List.drop_eq_nil_iff] at h4; exact List.take_of_length_le h4
    rw [this] at h3
    exact ⟨b1, h3, hc⟩

theorem idx_ok {i n : Int} (h : (decide (0 ≤ i) && decide (i < n)) = true) : 0 ≤ i ∧ i < n := by simpa using h

theorem elemTy_of {l : Leaf} {e : TypeId} {t : Ty} (h : l.ty = .slice e t) : elemTy l = t := by
  cases l with
  | fz t' reg lin v => simp only [Leaf.ty] at h; subst h; rfl
  | rt e' t' tag sub lin st v => simp only [Leaf.ty] at h; injection h with h1 h2

theorem index_sound {get : Nat → Ent} {a : Act} {t : TypeId} {ty : Ty} {x : Operand} {e r : Ent} {kk : IntKind} {i : Int} {c : Bool} (hT : TOK P T) (k : TyOK P T t ty)
    (hg : ∀ s, EntR g w.heap s (get s) (a.tmps.getD s undef))
    (hx : opE get x = some e) (hr : indexE ty x e i = some (c, r)) (hc : c = true) : ∃ v, (Instr.indexAt t (a.eval x) (.int kk i)).run P w = .ok v w ∧ ∀ s, EntR g w.heap s r v := by
  obtain ⟨s0, he, hs0⟩ := opE_sound hg hx
  have asInt : (asIntOf (.int kk i)).run P w = .ok (kk, i) w := rfl
  cases ty with
  | arr n u =>
    obtain ⟨e', hu, hte, hz, hn1⟩ := k.und
    have run : ∀ b o, 0 ≤ i ∧ i < n → (Instr.indexAt t (.pointer (some ⟨b, o, none⟩)) (.int kk i)).run P w = .ok (.pointer (some ⟨b, o + i.toNat * u.size, none⟩)) w := by
      intro b o hi
      simp only [Instr.indexAt, Sem.run_bind, asInt, Result.andThen_ok, run_underlying hu, run_sureAddr, Sem.run_pure, sizeOf_of (hT _ _ hte), if_pos hi]
      rw [addr_add]
    have e0 : ∀ u : Ty, poff u [] = 0 := fun u => by cases u <;> rfl
    have p0 : ∀ u : Ty, pin u [] := fun u => by cases u <;> trivial
    have one : ∀ t0 p base, tyP t0 p = some (.arr n u) → pin t0 p → 0 ≤ i ∧ i < n → pin t0 (p ++ [.idx i.toNat]) ∧ base + poff t0 (p ++ [.idx i.toNat]) = base + poff t0 p + i.toNat * u.size := by
      intro t0 p base h1 h2 hi
      obtain ⟨q1, q2, q3⟩ := poff_cons (q := [.idx i.toNat]) h1 h2 ⟨by omega, p0 u⟩
      exact ⟨q3, by rw [q2]; simp only [poff, e0]; omega⟩
    simp only [indexE] at hr
    cases e with
    | box ro ls =>
      match ls, he, hr with
      | [l], he, hr =>
        simp only at hr
        split at hr
        · rename_i s _ _
          cases hv : l.ty.eqb (.arr n u) with
          | false => rw [hv] at hr; cases hr
          | true =>
            rw [hv] at hr; injection hr with hr; injection hr with hr1 hr2; subst hr2; subst hc
            have hi := idx_ok hr1
            obtain ⟨b, c, e, fr, bs, h1, h2, h3, h4, _⟩ := he
            have hs' := (hs0 s rfl).1
            refine ⟨_, by rw [h1]; exact run b 0 hi, fun s' => ⟨⟨by omega, p0 u⟩, ?_⟩⟩
            rw [← hs', h4]; simp only [poff, e0]; simp
        · cases hr
      | [], _, hr => simp at hr
      | _ :: _ :: _, _, hr => simp at hr
    | ref s base t0 p =>
      simp only at hr
      cases hv : tyIs t0 p (.arr n u) with
      | false => rw [hv] at hr; cases hr
      | true =>
        rw [hv] at hr; injection hr with hr; injection hr with hr1 hr2; subst hr2; subst hc
        have hi := idx_ok hr1
        obtain ⟨h1, h2⟩ := he
        obtain ⟨q1, q2⟩ := one t0 p base (tyIs_eq hv) h1 hi
        refine ⟨_, by rw [h2]; exact run _ _ hi, fun s' => ⟨q1, ?_⟩⟩
        rw [q2]
    | eref l j p =>
      simp only at hr
      cases hv : tyIs (elemTy l) p (.arr n u) with
      | false => rw [hv] at hr; cases hr
      | true =>
        rw [hv] at hr; injection hr with hr; injection hr with hr1 hr2; subst hr2; subst hc
        have hi := idx_ok hr1
        obtain ⟨bs, b, o, m, cap, h1, h2, h3, h4, h5⟩ := he
        obtain ⟨q1, q2⟩ := one (elemTy l) p (o + j * (elemTy l).size) (tyIs_eq hv) h4 hi
        refine ⟨_, by rw [h5]; exact run _ _ hi, fun s' => ⟨bs, b, o, m, cap, h1, h2, h3, q1, ?_⟩⟩
        rw [q2]
    | _ => simp at hr
  | slice e' u =>
    obtain ⟨hu, hte, hz⟩ := k.und
    simp only [indexE] at hr
    split at hr
    · rename_i l
      cases hv : l.ty.eqb (.slice e' u) with
      | false => rw [hv] at hr; cases hr
      | true =>
        rw [hv] at hr; simp only [cond_true] at hr
        split at hr
        · rename_i n hn
          injection hr with hr; injection hr with hr1 hr2; subst hr2; subst hc
          have hi := idx_ok hr1
          obtain ⟨bs, hl, _⟩ := val1 he
          have et := elemTy_of (eqb_eq hv)
          rcases lenL_eq hl hn with ⟨_, h0⟩ | ⟨b, o, cap, h1, _⟩
          · omega
          · injection h1 with h1 _
            rw [h1] at hl ⊢
            refine ⟨.pointer (some ⟨b, o + i.toNat * u.size, none⟩), ?_, fun s' => ⟨bs, b, o, n, cap, hl, hn, by omega, by rw [et]; cases u <;> trivial, ?_⟩⟩
            · simp only [Instr.indexAt, Sem.run_bind, asInt, Result.andThen_ok, run_underlying hu, Sem.run_pure, sizeOf_of (hT _ _ hte), if_pos hi]
              rw [addr_add]
            · have e0 : poff u [] = 0 := by cases u <;> rfl
              rw [et, e0]; rfl
        · cases hr
    · cases hr
  | int _ => simp [indexE] at hr
  | bool => simp [indexE] at hr
  | unit => simp [indexE] at hr
  | pair _ _ => simp [indexE] at hr

end
end Go.Proofs.YtkoifikjfnbcpaaEv
