/- The state of a call, and what operations that only look make of it. -/
import Derived.Test.YtkoifikjfnbcpaaEvSndB
set_option linter.unusedVariables false
set_option linter.unusedSimpArgs false
namespace Go.Proofs.YtkoifikjfnbcpaaEv
open Go Go.RowKit

/-- The slots of a call: how many; k: slot 0 holds v and is never turned. -/
structure NS where
  n : Nat
  k : Bool
  v : Value
def NS.has (n : NS) (d : Nat) : Prop := d < n.n ∧ (n.k = true → d ≠ 0)

/-- A call on its way: w0 is the world when it began, W the elder blocks that it may write. -/
structure St (n : NS) (w0 : World) (W : Nat → Prop) (g : Gh) (env : Nat → Ent) (a : Act) (w : World) : Prop where
  inv : Inv g w0.heap w.heap W
  ent : ∀ s, EntR g w.heap s (env s) (a.tmps.getD s undef)
  sz : a.tmps.size = n.n ∧ (n.k = true → a.tmps.getD 0 undef = n.v)
  df : a.defers = []
  os : w.os = w0.os
  tape : w.tape = w0.tape
  output : w.output = w0.output

def upd (env : Nat → Ent) (d : Nat) (e : Ent) : Nat → Ent := fun s => if s = d then e else env s
def upds (env : Nat → Ent) : List (Nat × Ent) → Nat → Ent
  | [] => env
  | (d, e) :: r => upds (upd env d e) r

theorem put_getD {a : Act} {d s : Nat} {v : Value} (hd : d < a.tmps.size) : (a.put (some d) v).tmps.getD s undef = if s = d then v else a.tmps.getD s undef := by
  simp only [Act.put, Array.getD_eq_getD_getElem?, Array.getElem?_setIfInBounds]
  by_cases h : s = d
  · subst h; simp [hd]
  · rw [if_neg (fun e : d = s => h e.symm), if_neg h]

theorem St.szPut {n : NS} {w0 w : World} {W : Nat → Prop} {g : Gh} {env : Nat → Ent} {a : Act} {d : Nat} {v : Value} (st : St n w0 W g env a w) (hd : n.has d) :
    (a.put (some d) v).tmps.size = n.n ∧ (n.k = true → (a.put (some d) v).tmps.getD 0 undef = n.v) := by
  refine ⟨by simp [Act.put, st.sz.1], fun hk => ?_⟩
  rw [put_getD (by rw [st.sz.1]; exact hd.1), if_neg (fun e => hd.2 hk e.symm)]
  exact st.sz.2 hk

theorem St.put {n : NS} {w0 w w' : World} {W : Nat → Prop} {g g' : Gh} {env : Nat → Ent} {a : Act} {d : Nat} {e : Ent} {v : Value} (st : St n w0 W g env a w) (hd : n.has d)
    (x : Ext d g w.heap g' w'.heap) (inv : Inv g' w0.heap w'.heap W) (os : w'.os = w.os) (tape : w'.tape = w.tape) (output : w'.output = w.output)
    (clean : ∀ s, s ≠ d → (env s).at d = false) (he : EntR g' w'.heap d e v) : St n w0 W g' (upd env d e) (a.put (some d) v) w' where
  inv := inv
  ent s := by
    rw [put_getD (by rw [st.sz.1]; exact hd.1)]
    unfold upd
    split
    · rename_i h; rw [h]; exact he
    · rename_i h; exact (st.ent s).ext x h (clean s h)
  sz := st.szPut hd
  df := by simp [Act.put, st.df]
  os := os.trans st.os
  tape := tape.trans st.tape
  output := output.trans st.output

theorem Ext.refl (d : Nat) (g : Gh) (h : Mem) : Ext d g h g h := ⟨Nat.le_refl _, fun _ _ => rfl, fun _ _ => rfl, fun _ _ => rfl, fun _ _ => rfl, fun _ _ => rfl⟩

/-- A value that is only looked at. -/
theorem St.put0 {n : NS} {w0 w : World} {W : Nat → Prop} {g : Gh} {env : Nat → Ent} {a : Act} {d : Nat} {e : Ent} {v : Value} (st : St n w0 W g env a w) (hd : n.has d)
    (clean : ∀ s, s ≠ d → (env s).at d = false) (he : EntR g w.heap d e v) : St n w0 W g (upd env d e) (a.put (some d) v) w :=
  st.put hd (Ext.refl d g w.heap) st.inv rfl rfl rfl clean he

theorem addr_add (b o k : Nat) : (⟨b, o, none⟩ : Addr).add k = ⟨b, o + k, none⟩ := by unfold Addr.add; split <;> simp_all

section
variable {g : Gh} {P : Program} {T : TTab} {w : World}

theorem getP_ty : ∀ {t : Ty} {p : List PStep} {v : t.den} {t' : Ty} {x : t'.den}, getP t v p = some ⟨t', x⟩ → tyP t p = some t' := by
  intro t
  induction t with
  | pair a b iha ihb =>
    intro p v t' x h
    cases p with
    | nil => simp only [getP] at h; cases h; rfl
    | cons q p =>
      cases q with
      | idx i => simp [getP] at h
      | fld j => cases j with
        | zero => exact iha (p := p) h
        | succ j => exact ihb (p := .fld j :: p) h
  | arr n t ih =>
    intro p v t' x h
    cases p with
    | nil => simp only [getP] at h; cases h; rfl
    | cons q p => cases q with
      | idx i => exact ih (p := p) h
      | fld j => simp [getP] at h
  | int k => intro p v t' x h; cases p with | nil => simp only [getP] at h; cases h; rfl | cons q p => cases q <;> simp [getP] at h
  | bool => intro p v t' x h; cases p with | nil => simp only [getP] at h; cases h; rfl | cons q p => cases q <;> simp [getP] at h
  | unit => intro p v t' x h; cases p with | nil => simp only [getP] at h; cases h; rfl | cons q p => cases q <;> simp [getP] at h
  | slice e t _ => intro p v t' x h; cases p with | nil => simp only [getP] at h; cases h; rfl | cons q p => cases q <;> simp [getP] at h

theorem mkfz_ty (t : Ty) (reg : Nat) (lin : Bool) (v : t.den) : (mkfz t reg lin v).ty = t := by unfold mkfz; cases t.flat <;> rfl

theorem mkfz_B {h : Mem} {t : Ty} {reg : Nat} {lin : Bool} {v : t.den} {cs : List Value} {bs : List Nat} (h1 : Rd h t v cs bs) (h2 : ∀ b ∈ bs, g.kd b = .fz) (h3 : reg ≠ 0 → ∀ b ∈ bs, g.own b = reg)
    (h4 : lin = true → bs.Nodup) : LeafB g h (mkfz t reg lin v) cs bs := by
  unfold mkfz
  cases hf : t.flat with
  | true => exact ⟨h1, h2, by simp, by simp⟩
  | false => exact ⟨h1, h2, h3, h4⟩

/-- A part of a part. -/
theorem flatAt_B {h : Mem} {l l' : Leaf} {p : List PStep} {cs : List Value} {bs : List Nat} (hl : LeafB g h l cs bs) (hp : pin l.ty p) (hf : l.flatAt p = some l') :
    tyP l.ty p = some l'.ty ∧ ∃ b, LeafB g h l' ((cs.drop (poff l.ty p)).take l'.ty.size) b ∧ b.Sublist bs ∧ poff l.ty p + l'.ty.size ≤ cs.length := by
  have hnil : ∀ l : Leaf, LeafB g h l cs bs → tyP l.ty [] = some l.ty ∧ ∃ b, LeafB g h l ((cs.drop (poff l.ty [])).take l.ty.size) b ∧ b.Sublist bs ∧ poff l.ty [] + l.ty.size ≤ cs.length := by
    intro l hl
    have e : poff l.ty [] = 0 := by cases l.ty <;> rfl
    have e2 : tyP l.ty [] = some l.ty := by cases l.ty <;> rfl
    refine ⟨e2, bs, ?_, List.Sublist.refl _, by rw [e, hl.rd.length]; omega⟩
    rw [e, List.drop_zero, List.take_of_length_le (by rw [hl.rd.length]; exact Nat.le_refl _)]; exact hl
  cases p with
  | nil => simp only [Leaf.flatAt] at hf; injection hf with hf; subst hf; exact hnil _ hl
  | cons q p =>
    cases l with
    | rt e t tag sub lin st v => simp [Leaf.flatAt] at hf
    | fz t reg lin v =>
      simp only [Leaf.flatAt] at hf
      split at hf
      · rename_i t' x hg
        injection hf with hf
        obtain ⟨h1, h2, h3, h4⟩ := hl
        obtain ⟨b, q1, q2, q3⟩ := Rd.path hg hp h1
        have key : LeafB g h (mkfz t' reg lin x) ((cs.drop (poff t (q :: p))).take t'.size) b := mkfz_B q1 (fun y hy => h2 y (q2.subset hy)) (fun hr y hy => h3 hr y (q2.subset hy)) (fun hl => (h4 hl).sublist q2)
        have e : mkfz t' reg lin x = l' := hf
        rw [← e]
        simp only [mkfz_ty]
        exact ⟨getP_ty hg, b, key, q2, q3⟩
      · cases hf

theorem eqb_eq {a b : Ty} (h : a.eqb b = true) : a = b := Ty.eq_of_eqb h

/-- An element of a slice's part. -/
theorem elemL_B {h : Mem} {l l1 : Leaf} {i n : Nat} {b o m cap : Nat} {bs : List Nat} (hl : LeafB g h l [.slice (some ⟨b, o, none⟩) m cap] bs) (hn : lenL l = some n) (hi : i < n) (he : elemL l i = some l1) :
    l1.ty = elemTy l ∧ ∃ c e fr b', h[b]? = some (.cells c e fr) ∧ LeafB g h l1 ((c.toList.drop (o + i * (elemTy l).size)).take (elemTy l).size) b' ∧ b'.Sublist bs ∧ o + i * (elemTy l).size + (elemTy l).size ≤ c.size := by
  have bound : ∀ {c : Array Value} {cap len sz : Nat}, o + cap * sz ≤ c.size → len ≤ cap → i < len → o + i * sz + sz ≤ c.size := by
    intro c cap len sz h1 h2 h3
    have : (i + 1) * sz ≤ cap * sz := Nat.mul_le_mul_right _ (by omega)
    rw [Nat.succ_mul] at this; omega
  have gd : ∀ {α : Type} (l : List α) (d : α), i < l.length → l[i]? = some (l.getD i d) := fun l d hi => by
    rw [List.getD_eq_getElem?_getD]; rw [List.getElem?_eq_getElem hi]; rfl
  cases l with
  | fz t reg lin v =>
    cases t with
    | slice e t =>
      simp only [lenL, Option.some.injEq] at hn; subst hn
      simp only [elemL, Option.some.injEq] at he
      obtain ⟨⟨hd, blk, bs', h1, h2, h3⟩, k1, k2, k3⟩ := hl
      injection h1 with h1 _; subst h1; subst h3
      rcases h2 with ⟨h2, _⟩ | ⟨b2, o2, cap2, c, fr, e1, e2, e3, e4, e5, e6⟩
      · cases h2
      · injection e1 with e1 e1' e1''; injection e1 with e1; injection e1 with e1 e1o _; subst e1; subst e1o; subst e2
        obtain ⟨b', r1, r2⟩ := e6.get (gd v t.dflt hi)
        rw [List.drop_drop] at r1
        have r3 : b'.Sublist (Option.toList (some b) ++ bs') := r2.trans (List.sublist_append_right _ _)
        refine ⟨by rw [← he]; exact mkfz_ty _ _ _ _, c, e, fr, b', e4, ?_, r3, bound e5 e3 hi⟩
        rw [← he]
        exact mkfz_B r1 (fun y hy => k1 y (r3.subset hy)) (fun hr y hy => k2 hr y (r3.subset hy)) (fun hq => (k3 hq).sublist r3)
    | _ => cases hn
  | rt e t tag sub lin st v =>
    simp only [lenL, Option.some.injEq] at hn; subst hn
    simp only [elemL, Option.some.injEq] at he
    obtain ⟨hd, blk, bs', h1, h3, _, _, h2, k1, k2, k3⟩ := hl
    injection h1 with h1 _; subst h1; subst h3
    rcases h2 with ⟨h2, _⟩ | ⟨b2, o2, cap2, c, fr, e1, e2, e3, e4, e5, e6⟩
    · cases h2
    · injection e1 with e1 e1' e1''; injection e1 with e1; injection e1 with e1 e1o _; subst e1; subst e1o; subst e2
      obtain ⟨b', r1, r2⟩ := e6.get (gd v t.dflt hi)
      rw [List.drop_drop] at r1
      refine ⟨by rw [← he]; exact mkfz_ty _ _ _ _, c, e, fr, b', e4, ?_, r2.trans (List.sublist_append_right _ _), bound e5 e3 hi⟩
      rw [← he]
      exact mkfz_B r1 (fun y hy => k1 y (r2.subset hy)) (fun hr y hy => by
          cases lin with
          | true => exact (k3 rfl).1 y (r2.subset hy)
          | false => exact absurd rfl hr) (fun hq => (k3 hq).2.sublist r2)

end
end Go.Proofs.YtkoifikjfnbcpaaEv
