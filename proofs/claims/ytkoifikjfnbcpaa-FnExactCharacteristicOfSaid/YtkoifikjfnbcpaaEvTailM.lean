/- A call that turns its first argument in place. -/
import Derived.Test.YtkoifikjfnbcpaaEvTailF
set_option linter.unusedVariables false
set_option linter.unusedSimpArgs false
namespace Go.Proofs.YtkoifikjfnbcpaaEv
open Go Go.RowKit

inductive StepRes where
  | ok (c : Bool) (env : Env)
  | callr (rs : List Ty) (x : Option (Ress rs)) (mk : Ress rs → Env)
def StepRes.get : StepRes → Option Env
  | .ok c env => bif c then some env else none
  | .callr _ x mk => match x with | some r => some (mk r) | none => none

def flatAll : List Leaf → Bool
  | [] => true
  | .fz t _ _ _ :: r => t.flat && flatAll r
  | .rt _ _ _ _ _ _ _ :: _ => false
/-- The only part that is not flat: a slice that may be written. -/
def oneRt : List Leaf → Option (TypeId × Ty × Nat)
  | [] => none
  | .fz t _ _ _ :: r => bif t.flat then oneRt r else none
  | .rt e u tag sub lin _ _ :: r => bif !sub && lin && flatAll r && !(Nat.beq tag 0) then some (e, u, tag) else none
/-- What that part holds in other data of the same type. -/
def pickMany (e : TypeId) (u : Ty) : (t : Ty) → t.den → List Leaf → List u.den
  | .pair a b, y, .fz _ _ _ _ :: ls => pickMany e u b y.2 ls
  | .pair a b, y, .rt _ _ _ _ _ _ _ :: ls => (Ty.cast (.slice e u) y.1).getD []
  | _, _, _ => []
def pickV (e : TypeId) (u : Ty) (t : Ty) (y : t.den) (ls : List Leaf) : List u.den :=
  match ls with
  | [l] => bif l.ty.eqb t then (Ty.cast (.slice e u) y).getD [] else pickMany e u t y ls
  | _ => pickMany e u t y ls

def Leaf.meets (e : TypeId) (u : Ty) (r : Nat) : Leaf → Bool
  | .fz t reg _ _ => !u.flat && !t.flat && (Nat.beq reg r || Nat.beq reg 0)
  | .rt e' u' tag sub lin _ _ => bif Nat.beq tag r then sub || !((Ty.slice e' u').eqb (.slice e u)) else !u.flat && !lin
def Leaf.remark (e : TypeId) (u : Ty) (r : Nat) (x : List u.den) : Leaf → Leaf
  | .fz t reg lin v => .fz t reg lin v
  | .rt e' u' tag sub lin st v => bif Nat.beq tag r then .rt e u r false lin false x else .rt e' u' tag sub lin st v
def outE (e : TypeId) (u : Ty) (r : Nat) : Ent → Bool
  | .box true _ => !u.flat
  | .eref l _ _ => l.isRt r
  | _ => false
def killM (e : TypeId) (u : Ty) (r : Nat) (x : List u.den) (en : Ent) : Ent := bif en.any (Leaf.meets e u r) || outE e u r en then .dead else en.mapL (Leaf.remark e u r x)

def markEnv (env : Env) (d : Option Nat) (e : TypeId) (u : Ty) (r : Nat) (k : IntKind) (x : List u.den) (m : Int) : Env :=
  match d with
  | some d => (env.map (killM e u r x)).put d (intE k m)
  | none => env.map (killM e u r x)

def markC (env : Env) (d : Option Nat) (x k : Operand) : (ps : List PK) → (rs : List Ty) → (Args ps → Option (Ress rs)) → Option StepRes
  | [.v t, .v (.int i)], [t', .int i'], f =>
    (match x with
    | .tmp s => (match env.get s, opE env.get k with
      | .val agg ls, some ek => (match valAs t ls, asI ek, oneRt ls with
        | some v, some (i2, m), some (e, u, r) => bif t.eqb t' && kEq i i2 && ((agg && t.agg) || (!agg && !t.agg)) && !(litTag r env) then
            some (.callr [t', .int i'] (f (v, m, ())) fun y => markEnv env d e u r i' (pickV e u t' y.1 ls) y.2.1) else none
        | _, _, _ => none)
      | _, _ => none)
    | _ => none)
  | _, _, _ => none
def markE (K : CTab) (env : Env) (d : Option Nat) (f : Nat) (x k : Operand) : Option StepRes :=
  match ctr K f with
  | some C => bif C.inp then markC env d x k C.ps C.rs C.f else none
  | none => none

section
variable {P : Program} {T : TTab} {K : CTab} {n : NS} {w0 w : World} {W : Nat → Prop} {g : Gh} {a : Act} {d : Option Nat}

theorem eqb_rfl' : ∀ t : Ty, t.eqb t = true := by
  intro t
  induction t with
  | int k => cases k <;> rfl
  | bool => rfl
  | unit => rfl
  | pair a b iha ihb => simp only [Ty.eqb, iha, ihb, Bool.and_self]
  | arr n t ih => simp only [Ty.eqb, ih, Nat.beq_refl, Bool.and_self]
  | slice e t ih => simp only [Ty.eqb, ih, Nat.beq_refl, Bool.and_self]
theorem cast_some {t : Ty} (x : t.den) : Ty.cast t x = some x := by
  unfold Ty.cast; rw [dif_pos (eqb_rfl' t)]

theorem slR_flat {h : Mem} {e : TypeId} {u : Ty} {l : List u.den} {hd : Value} {blk : Option Nat} {bs : List Nat} (hu : u.flat = true) (hs : SlR h e u.size (Rd h u) l hd blk bs) : bs = [] := by
  rcases hs with ⟨_, _, _, q⟩ | ⟨b, o, cap, c, fr, _, _, _, _, _, q⟩
  · exact q
  · exact RdL.flat (fun x cs b hr => hr.flat hu) q
theorem slR_blk {h h' : Mem} {e e' : TypeId} {u u' : Ty} {l : List u.den} {l' : List u'.den} {hd : Value} {blk blk' : Option Nat} {bs bs' : List Nat} (hs : SlR h e u.size (Rd h u) l hd blk bs) (hs' : SlR h' e' u'.size (Rd h' u') l' hd blk' bs') : blk = blk' := by
  rcases hs with ⟨q1, _, q2, _⟩ | ⟨b, o, cap, c, fr, q1, q2, _⟩ <;> rcases hs' with ⟨r1, _, r2, _⟩ | ⟨b', o', cap', c', fr', r1, r2, _⟩
  · rw [q2, r2]
  · rw [q1] at r1; cases r1
  · rw [q1] at r1; cases r1
  · rw [q1] at r1; injection r1 with r1 _ _; injection r1 with r1; injection r1 with r1 _ _; rw [q2, r2, r1]

theorem flatAll_none {h : Mem} : ∀ {ls : List Leaf} {cs : List Value} {bs : List Nat}, LeavesB g h ls cs bs → flatAll ls = true → bs = []
  | [], cs, bs, ⟨_, h2⟩, _ => h2
  | .fz t reg lin v :: r, cs, bs, ⟨b1, b2, h1, h2, h3⟩, hf => by
    simp only [flatAll, Bool.and_eq_true] at hf
    rw [h3, h1.1.flat hf.1, flatAll_none h2 hf.2]; rfl
  | .rt _ _ _ _ _ _ _ :: r, cs, bs, _, hf => by cases hf
theorem flatAll_ty : ∀ {t : Ty} {ls : List Leaf} {x : t.den}, valMany t ls = some x → flatAll ls = true → t.flat = true := by
  intro t
  induction t with
  | unit => intro ls x _ _; rfl
  | pair a b _ ihb =>
    intro ls x hv hf
    cases ls with
    | nil => cases hv
    | cons l r =>
      simp only [valMany] at hv
      split at hv
      · rename_i p q hp hq
        obtain ⟨e, _⟩ := Ty.cast_eq hp
        cases l with
        | fz t reg lin v =>
          simp only [flatAll, Bool.and_eq_true] at hf
          have e : t = a := e
          subst e
          simp only [Ty.flat, hf.1, ihb hq hf.2, Bool.and_self]
        | rt _ _ _ _ _ _ _ => cases hf
      · cases hv
  | _ => intro ls x hv; cases ls <;> cases hv

/-- The part that may be written, before and behind. -/
theorem oneRt_many {h h' : Mem} {e : TypeId} {u : Ty} {r : Nat} : ∀ {t : Ty} {ls : List Leaf} {x y : t.den} {cs : List Value} {bs bs' : List Nat}, valMany t ls = some x → oneRt ls = some (e, u, r) → LeavesB g h ls cs bs → Rd h' t y cs bs' →
    r ≠ 0 ∧ ∃ st v hd, LeafB g h (.rt e u r false true st v) [hd] bs ∧ Rd h' (.slice e u) (pickMany e u t y ls) [hd] bs' := by
  intro t
  induction t with
  | pair a b _ ihb =>
    intro ls x y cs bs bs' hv ho hl hr
    cases ls with
    | nil => cases hv
    | cons l rest =>
      simp only [valMany] at hv
      split at hv
      · rename_i p q hp hq
        obtain ⟨ea, _⟩ := Ty.cast_eq hp
        obtain ⟨b1, b2, h1, h2, h3⟩ := hl
        obtain ⟨c1, c2, r1, r2, r3⟩ := hr
        cases l with
        | fz t reg lin v =>
          have ea : t = a := ea
          subst ea
          simp only [oneRt] at ho
          cases hf : t.flat with
          | false => rw [hf] at ho; cases ho
          | true =>
            rw [hf] at ho; simp only [cond_true] at ho
            have e1 : b1 = [] := h1.1.flat hf
            have e2 : c1 = [] := r1.flat hf
            obtain ⟨k0, st, v', hd, k1, k2⟩ := ihb hq ho h2 r2
            exact ⟨k0, st, v', hd, by rw [h3, e1]; exact k1, by rw [r3, e2]; exact k2⟩
        | rt e' u' tag sub lin st v =>
          simp only [oneRt] at ho
          cases hc : (!sub && lin && flatAll rest && !(Nat.beq tag 0)) with
          | false => rw [hc] at ho; cases ho
          | true =>
            rw [hc] at ho; simp only [cond_true, Option.some.injEq, Prod.mk.injEq] at ho
            obtain ⟨rfl, rfl, rfl⟩ := ho
            simp only [Bool.and_eq_true, Bool.not_eq_true'] at hc
            obtain ⟨⟨⟨s1, s2⟩, s3⟩, s4⟩ := hc
            subst s1; subst s2
            have ea : Ty.slice e' u' = a := ea
            subst ea
            have e1 : b2 = [] := flatAll_none h2 s3
            have e2 : c2 = [] := r2.flat (flatAll_ty hq s3)
            obtain ⟨hd, blk, bs2, g1, g2⟩ := h1
            have g1 : cs.take 1 = [hd] := g1
            refine ⟨nbeq_ne s4, st, v, hd, by rw [h3, e1, List.append_nil]; exact ⟨hd, blk, bs2, rfl, g2⟩, ?_⟩
            have r1 : Rd h' (.slice e' u') y.1 [hd] c1 := by rw [← g1]; exact r1
            rw [r3, e2, List.append_nil]
            have : pickMany e' u' (.pair (.slice e' u') b) y (.rt e' u' tag false true st v :: rest) = y.1 := by
              simp only [pickMany]
              have : Ty.cast (.slice e' u') (a := .slice e' u') y.1 = some y.1 := cast_some _
              rw [this]; rfl
            rw [this]; exact r1
      · cases hv
  | unit => intro ls x y cs bs bs' hv ho; cases ls with | nil => cases ho | cons l r => cases hv
  | _ => intro ls x y cs bs bs' hv; cases ls <;> cases hv

theorem oneRt_as {h h' : Mem} {e : TypeId} {u : Ty} {r : Nat} {t : Ty} {ls : List Leaf} {x y : t.den} {cs : List Value} {bs bs' : List Nat} (hv : valAs t ls = some x) (ho : oneRt ls = some (e, u, r)) (hl : LeavesB g h ls cs bs) (hr : Rd h' t y cs bs') :
    r ≠ 0 ∧ ∃ st v hd, LeafB g h (.rt e u r false true st v) [hd] bs ∧ Rd h' (.slice e u) (pickV e u t y ls) [hd] bs' := by
  have many : valMany t ls = some x → pickV e u t y ls = pickMany e u t y ls → r ≠ 0 ∧ ∃ st v hd, LeafB g h (.rt e u r false true st v) [hd] bs ∧ Rd h' (.slice e u) (pickV e u t y ls) [hd] bs' := by
    intro hm he
    rw [he]; exact oneRt_many hm ho hl hr
  unfold valAs at hv
  split at hv
  · rename_i l
    cases hq : l.ty.eqb t with
    | false => rw [hq] at hv; exact many hv (by simp only [pickV, hq, cond_false])
    | true =>
      rw [hq] at hv; simp only [cond_true] at hv
      cases l with
      | fz t' reg lin v =>
        simp only [oneRt] at ho
        cases hf : t'.flat <;> rw [hf] at ho <;> cases ho
      | rt e' u' tag sub lin st v =>
        simp only [oneRt] at ho
        cases hc : (!sub && lin && flatAll [] && !(Nat.beq tag 0)) with
        | false => rw [hc] at ho; cases ho
        | true =>
          rw [hc] at ho; simp only [cond_true, Option.some.injEq, Prod.mk.injEq] at ho
          obtain ⟨rfl, rfl, rfl⟩ := ho
          simp only [Bool.and_eq_true, Bool.not_eq_true'] at hc
          obtain ⟨⟨⟨s1, s2⟩, s3⟩, s4⟩ := hc
          subst s1; subst s2
          have ea : Ty.slice e' u' = t := Ty.eq_of_eqb hq
          subst ea
          have hl := hl.one
          obtain ⟨hd, blk, bs2, g1, g2⟩ := hl
          subst g1
          refine ⟨nbeq_ne s4, st, v, hd, ⟨hd, blk, bs2, rfl, g2⟩, ?_⟩
          have : pickV e' u' (.slice e' u') y [.rt e' u' tag false true st v] = y := by
            simp only [pickV, hq, cond_true]
            rw [cast_some]; rfl
          rw [this]; exact hr
  · rename_i hne
    refine many hv ?_
    unfold pickV
    split
    · rename_i l; exact absurd rfl (hne l)
    · rfl

/-- Memory where the slice of region r holds x. -/
structure Marked (g : Gh) (e : TypeId) (u : Ty) (r : Nat) (x : List u.den) (hd : Value) (ba : List Nat) (h h' : Mem) : Prop where
  r0 : r ≠ 0
  lf : LeafB g h' (.rt e u r false true false x) [hd] ba
  H : g.H r = hd
  size : h.size ≤ h'.size
  blk : ∀ b, b < h.size → b ∉ ba → h'[b]? = h[b]?
  inn : ∀ b ∈ ba, (g.kd b = .mu r ∨ (u.flat = false ∧ g.kd b = .fz)) ∧ g.own b = r

theorem remark_ty {e : TypeId} {u : Ty} {r : Nat} {x : List u.den} {l : Leaf} (h : l.meets e u r = false) : (l.remark e u r x).ty = l.ty := by
  cases l with
  | fz t reg lin v => rfl
  | rt e' u' tag sub lin st v =>
    simp only [Leaf.remark]
    cases hq : Nat.beq tag r with
    | false => rfl
    | true =>
      simp only [Leaf.meets, hq, cond_true, Bool.or_eq_false_iff, Bool.not_eq_false'] at h
      exact (Ty.eq_of_eqb h.2).symm

variable {e : TypeId} {u : Ty} {r : Nat} {x : List u.den} {hd : Value} {ba : List Nat} {h h' : Mem}

theorem LeafB.marked (m : Marked g e u r x hd ba h h') {l : Leaf} {cs : List Value} {bs : List Nat} (hl : LeafB g h l cs bs) (hm : l.meets e u r = false) : ∃ bs', LeafB g h' (l.remark e u r x) cs bs' := by
  cases l with
  | fz t reg lin v =>
    refine ⟨bs, hl.same (fun b hb => m.blk b (hl.lt b hb) fun hba => ?_) (fun _ _ => rfl) (fun _ _ => rfl) (fun _ _ _ _ _ _ _ _ _ => rfl)⟩
    obtain ⟨k1, k2⟩ := m.inn b hba
    have k3 := hl.2.1 b hb
    rcases k1 with k1 | ⟨k1, _⟩
    · rw [k3] at k1; cases k1
    · simp only [Leaf.meets, k1, Bool.not_false, Bool.true_and] at hm
      cases hf : t.flat with
      | true => have : bs = [] := hl.1.flat hf; subst this; cases hb
      | false =>
        rw [hf] at hm
        simp only [Bool.not_false, Bool.true_and, Bool.or_eq_false_iff] at hm
        have := hl.2.2.1 (nbeq_ne hm.2) b hb
        exact nbeq_ne hm.1 (this.symm.trans k2)
  | rt e' u' tag sub lin st v =>
    simp only [Leaf.remark]
    cases hq : Nat.beq tag r with
    | true =>
      simp only [Leaf.meets, hq, cond_true, Bool.or_eq_false_iff, Bool.not_eq_false'] at hm
      obtain ⟨s1, s2⟩ := hm
      subst s1
      have := Nat.eq_of_beq_eq_true hq; subst this
      have ee := Ty.eq_of_eqb s2
      injection ee with e1 e2
      subst e1; subst e2
      obtain ⟨hd', blk, bs', rfl, _, g3, _⟩ := hl
      have : hd' = hd := (g3 rfl).trans m.H
      subst this
      obtain ⟨hd2, blk2, bs2, k1, k2, k3, _, k5, k6, k7, k8⟩ := m.lf
      exact ⟨ba, hd2, blk2, bs2, k1, k2, k3, fun q => (by cases q), k5, k6, k7, fun _ => k8 rfl⟩
    | false =>
      have hne := nbeq_ne hq
      simp only [Leaf.meets, hq, cond_false] at hm
      refine ⟨bs, hl.same (fun b hb => m.blk b (hl.lt b hb) fun hba => ?_) (fun _ _ => rfl) (fun _ _ => rfl) (fun _ _ _ _ _ _ _ _ _ => rfl)⟩
      obtain ⟨k1, k2⟩ := m.inn b hba
      obtain ⟨hd', blk, bs', rfl, rfl, _, _, _, h4, h5, h6⟩ := hl
      rcases List.mem_append.1 hb with hb | hb
      · have := (h5 b (by simpa using hb)).1
        rcases k1 with k1 | ⟨_, k1⟩
        · rw [this] at k1; injection k1 with k1; exact hne k1
        · rw [this] at k1; cases k1
      · have k3 := h4 b hb
        rcases k1 with k1 | ⟨k1, _⟩
        · rw [k3] at k1; cases k1
        · rw [k1] at hm
          simp only [Bool.not_false, Bool.true_and, Bool.not_eq_false'] at hm
          exact hne (((h6 hm).1 b hb).symm.trans k2)

theorem LeavesB.marked (m : Marked g e u r x hd ba h h') : ∀ {ls : List Leaf} {cs : List Value} {bs : List Nat}, LeavesB g h ls cs bs → ls.any (Leaf.meets e u r) = false → ∃ bs', LeavesB g h' (ls.map (Leaf.remark e u r x)) cs bs'
  | [], _, _, hl, _ => ⟨[], hl.1, rfl⟩
  | l :: r, cs, bs, ⟨b1, b2, h1, h2, h3⟩, hd => by
    simp only [List.any_cons, Bool.or_eq_false_iff] at hd
    obtain ⟨c1, q1⟩ := h1.marked m hd.1
    obtain ⟨c2, q2⟩ := LeavesB.marked m h2 hd.2
    exact ⟨c1 ++ c2, c1, c2, by rw [remark_ty hd.1]; exact q1, by rw [remark_ty hd.1]; exact q2, rfl⟩
theorem PartsB.marked (m : Marked g e u r x hd ba h h') {k : Nat} : ∀ {ls : List (List Leaf)} {cs : List Value} {bs : List Nat}, PartsB g h k ls cs bs → (ls.any fun l => l.any (Leaf.meets e u r)) = false → ∃ bs', PartsB g h' k (ls.map fun l => l.map (Leaf.remark e u r x)) cs bs'
  | [], _, _, hl, _ => ⟨[], hl.1, rfl⟩
  | l :: r, cs, bs, ⟨b1, b2, h1, h2, h3⟩, hd => by
    simp only [List.any_cons, Bool.or_eq_false_iff] at hd
    obtain ⟨c1, q1⟩ := h1.marked m hd.1
    obtain ⟨c2, q2⟩ := PartsB.marked m h2 hd.2
    exact ⟨c1 ++ c2, c1, c2, q1, q2, rfl⟩
theorem ValR.marked (m : Marked g e u r x hd ba h h') {agg : Bool} {ls : List Leaf} {v : Value} (hv : ValR g h agg ls v) (hd : ls.any (Leaf.meets e u r) = false) : ValR g h' agg (ls.map (Leaf.remark e u r x)) v := by
  obtain ⟨cs, bs, h1, h2, h3⟩ := hv
  obtain ⟨c, q⟩ := h3.marked m hd
  exact ⟨cs, c, h1, h2, q⟩
theorem ValsR.marked (m : Marked g e u r x hd ba h h') : ∀ {ls : List (Bool × List Leaf)} {vs : List Value}, ValsR g h ls vs → (ls.any fun p => p.2.any (Leaf.meets e u r)) = false → ValsR g h' (ls.map fun p => (p.1, p.2.map (Leaf.remark e u r x))) vs
  | [], _, hl, _ => hl
  | (agg, ls) :: r, vs, ⟨v, vs', h1, h2, h3⟩, hd => by
    simp only [List.any_cons, Bool.or_eq_false_iff] at hd
    exact ⟨v, vs', h1, h2.marked m hd.1, ValsR.marked m h3 hd.2⟩

theorem EntR.marked (m : Marked g e u r x hd ba h h') {s : Nat} {en : Ent} {v : Value} (he : EntR g h s en v) (hd : (en.any (Leaf.meets e u r) || outE e u r en) = false) (hl : ∀ t u' pp, en = .lit t u' pp → s * 16 + 1 ≠ r) : EntR g h' s (en.mapL (Leaf.remark e u r x)) v := by
  have lt : ∀ {b : Nat} {o : Obj}, h[b]? = some o → b < h.size := fun {b o} hb => by
    rcases Nat.lt_or_ge b h.size with hlt | hge
    · exact hlt
    · rw [Array.getElem?_eq_none hge] at hb; cases hb
  simp only [Bool.or_eq_false_iff] at hd
  obtain ⟨hd, hro⟩ := hd
  cases en with
  | dead => trivial
  | val agg ls => exact ValR.marked m he hd
  | lit t u' pp =>
    have hk := hl t u' pp rfl
    obtain ⟨b, c, bs, h1, h2, h3, h4, h5, h6, h7⟩ := he
    obtain ⟨c6, q6⟩ := h6.marked m hd
    have hnb : b ∉ ba := fun q => by
      rcases (m.inn b q).1 with k | ⟨_, k⟩
      · rw [h4] at k; injection k with k; exact hk k
      · rw [h4] at k; cases k
    exact ⟨b, c, c6, by simpa using h1, by rw [m.blk b (lt h2) hnb]; exact h2, by simpa using h3, h4, h5, q6, by simpa using h7⟩
  | box ro ls =>
    obtain ⟨b, c, e', fr, bs, h1, h2, h3, h4, h5, h6⟩ := he
    obtain ⟨c3, q3⟩ := h3.marked m hd
    have hnb : b ∉ ba := fun q => by
      rcases (m.inn b q).1 with k | ⟨k', k⟩
      · cases ro with
        | false => rw [(h5 rfl).1] at k; cases k
        | true => rcases h6 rfl with z | z <;> rw [z] at k <;> cases k
      · cases ro with
        | false => rw [(h5 rfl).1] at k; cases k
        | true => simp [outE, k'] at hro
    exact ⟨b, c, e', fr, c3, h1, by rw [m.blk b (lt h2) hnb]; exact h2, q3, h4, h5, h6⟩
  | ref s' base t p => exact he
  | eref l i p =>
    obtain ⟨bs, b, o, k, cap, h1, h2⟩ := he
    obtain ⟨c1, q1⟩ := h1.marked m hd
    have : l.remark e u r x = l := by
      cases l with
      | fz t reg lin v => rfl
      | rt e' u' tag sub lin st v =>
        have hq : Nat.beq tag r = false := hro
        simp only [Leaf.remark, hq, cond_false]
    rw [this] at q1
    simp only [Ent.mapL]
    rw [this]
    exact ⟨c1, b, o, k, cap, q1, h2⟩
  | fn f caps => exact he
  | tup ls => obtain ⟨vs, h1, h2⟩ := he; exact ⟨vs, h1, h2.marked m hd⟩

theorem valAs_one {h : Mem} {t : Ty} {ls : List Leaf} {v : Value} {y : t.den} (hv : ValR g h t.agg ls v) (hy : valAs t ls = some y) : ∃ bs, LeavesB g h ls v.cells.toList bs ∧ OneV h t y v bs := by
  obtain ⟨bs, hl⟩ := ValR.cells hv
  exact ⟨bs, hl, valAs_rd hy hl, (ValR.shape hv).1, (ValR.shape hv).2⟩

theorem one_int {h : Mem} {k : IntKind} {m : Int} (hm : (Lit.int k m).wf = true) : OneV h (.int k) m (.int k m) [] :=
  ⟨⟨rfl, hm, rfl⟩, fun q => (by cases q), fun _ => rfl⟩

theorem mark_St {env : Env} {w' : World} (st : St n w0 W g env.get a w) (m : Marked g e u r x hd ba w.heap w'.heap) (hw : ∀ b ∈ ba, ∃ c e, w'.heap[b]? = some (.cells c e (0, 0)))
    (os : w'.os = w.os) (tape : w'.tape = w.tape) (output : w'.output = w.output) (hl : litTag r env = false) : St n w0 W g (env.map (killM e u r x)).get a w' where
  inv := by
    have i := st.inv
    refine ⟨Nat.le_trans i.size m.size, fun b hb hW => ?_, fun b => ?_, i.no, i.al, fun b hb => ?_, fun b hb => ?_⟩
    · have hnb : b ∉ ba := fun q => by
        have ho := (m.inn b q).2
        rcases (i.own b (by rw [ho]; exact m.r0)).2 with q | q
        · omega
        · exact hW q
      rw [m.blk b (Nat.lt_of_lt_of_le hb i.size) hnb]; exact i.old b hb hW
    · rcases i.kd b with q | q | q
      · exact .inl q
      · exact .inr (.inl q)
      · exact .inr (.inr ⟨Nat.lt_of_lt_of_le q.1 m.size, q.2⟩)
    · have := i.own b hb; exact ⟨Nat.lt_of_lt_of_le this.1 m.size, this.2⟩
    · by_cases q : b ∈ ba
      · exact hw b q
      · rw [m.blk b (i.own b hb).1 q]; exact i.wr b hb
  ent s' := by
    rw [Env.get_map _ rfl]
    unfold killM
    cases hq : ((env.get s').any (Leaf.meets e u r) || outE e u r (env.get s')) with
    | true => trivial
    | false => exact (st.ent s').marked m hq fun t u' pp h => litTag_get hl h
  sz := st.sz
  df := st.df
  os := os.trans st.os
  tape := tape.trans st.tape
  output := output.trans st.output

/-- The part itself, behind. -/
theorem marked_leaf {st : Bool} {v : List u.den} (hl : LeafB g h (.rt e u r false true st v) [hd] ba) (hr : Rd h' (.slice e u) x [hd] ba) (hw : ∀ b ∈ ba, ∃ c e, h'[b]? = some (.cells c e (0, 0))) :
    LeafB g h' (.rt e u r false true false x) [hd] ba ∧ g.H r = hd ∧ ba.Nodup ∧ ∀ b ∈ ba, (g.kd b = .mu r ∨ (u.flat = false ∧ g.kd b = .fz)) ∧ g.own b = r := by
  obtain ⟨hd', blk, bs', k1, k2, k3, _, k5, k6, k7, k8⟩ := hl
  injection k1 with k1 _
  subst k1
  obtain ⟨hd2, blk2, bs2, j1, j2, j3⟩ := hr
  injection j1 with j1 _
  subst j1
  have := slR_blk k5 j2
  subst this
  have eb : bs' = bs2 := List.append_cancel_left (k2.symm.trans j3)
  subst eb
  obtain ⟨l1, l2⟩ := k8 rfl
  have inn : ∀ b ∈ ba, (g.kd b = .mu r ∨ (u.flat = false ∧ g.kd b = .fz)) ∧ g.own b = r := by
    intro b hb
    rw [k2] at hb
    rcases List.mem_append.1 hb with q | q
    · obtain ⟨z1, z2, _⟩ := k7 b (by simpa using q); exact ⟨.inl z1, z2⟩
    · refine ⟨.inr ⟨?_, k6 b q⟩, l1 b q⟩
      cases hu : u.flat with
      | false => rfl
      | true => have := slR_flat hu k5; subst this; cases q
  refine ⟨⟨hd, blk, bs', rfl, k2, k3, fun q => (by cases q), j2, k6, fun b hb => ?_, k8⟩, (k3 rfl).symm, ?_, inn⟩
  · obtain ⟨z1, z2, _⟩ := k7 b hb
    refine ⟨z1, z2, ?_⟩
    have hm : b ∈ ba := by rw [k2, hb]; simp
    rcases j2 with ⟨_, _, q, _⟩ | ⟨b', o, cap, c, fr, _, q1, _, q2, _⟩
    · rw [hb] at q; cases q
    · rw [hb] at q1; injection q1 with q1; subst q1
      obtain ⟨c', e', q3⟩ := hw b hm
      rw [q2] at q3; injection q3 with q3; injection q3 with q4 q5 q6
      exact ⟨c, by rw [q2, q6]⟩
  · rw [k2]
    refine List.nodup_append.2 ⟨by cases blk <;> simp, l2, fun p hp q hq e => ?_⟩
    subst e
    have := (k7 p (by simpa using hp)).1
    rw [k6 p hq] at this; cases this

theorem mark_sound {env env' : Env} {f : Nat} {x k : Operand} {res : StepRes} (hK : KOK P K) (st : St n w0 W g env.get a w) (hd : ∀ q, d = some q → n.has q) (he : markE K env d f x k = some res) (hr : res.get = some env') :
    (∃ fn, P.funcs[f]? = some fn ∧ fn.name ≠ "runtime.NumGoroutine" ∧ fn.body.isNone = false) ∧
    Calls P f #[a.eval x, a.eval k] w fun e w' => ∃ v, e = .returned v ∧ St n w0 W g env'.get (a.put d v) w' := by
  unfold markE at he
  split at he
  · rename_i C hC
    obtain ⟨hok0, hok, hfn⟩ := hK _ _ hC
    clear hok0
    refine ⟨hfn, ?_⟩
    obtain ⟨ps, rs, fresh, st', inp, F⟩ := C
    cases inp with
    | false => cases he
    | true =>
      replace hok := hok rfl
      simp only [cond_true] at he
      unfold markC at he
      split at he
      · rename_i t i t' i' F
        split at he
        · rename_i s
          split at he
          · rename_i agg ls ek hs hk
            split at he
            · rename_i v i2 m el u r hv hi hreg
              cases hq : (t.eqb t' && kEq i i2 && ((agg && t.agg) || (!agg && !t.agg)) && !(litTag r env)) with
              | false => rw [hq] at he; cases he
              | true =>
                rw [hq] at he; simp only [cond_true, Option.some.injEq] at he; subst he
                simp only [Bool.and_eq_true, Bool.not_eq_true'] at hq
                obtain ⟨⟨⟨q1, q2⟩, q3⟩, q4⟩ := hq
                have := Ty.eq_of_eqb q1; subst this
                have := kEq_eq q2; subst this
                have hagg : agg = t.agg := by cases agg <;> cases hta : t.agg <;> simp [hta] at q3 <;> rfl
                simp only [StepRes.get] at hr
                split at hr
                · rename_i y hy
                  injection hr with hr
                  have e0 := st.ent s
                  rw [hs] at e0
                  obtain ⟨bs, l1, l2⟩ := valAs_one (t := t) (by rw [← hagg]; exact e0) hv
                  obtain ⟨p1, stt, v0, hd0, p2, p3⟩ := oneRt_as hv hreg l1 l2.1
                  obtain ⟨_, _, p4, p5⟩ := marked_leaf p2 p3 (fun b hb => by
                    have ho : g.own b = r := by
                      obtain ⟨hd', blk, bs', _, k2, _, _, _, _, k7, k8⟩ := p2
                      rw [k2] at hb
                      rcases List.mem_append.1 hb with q | q
                      · exact (k7 b (by simpa using q)).2.1
                      · exact (k8 rfl).1 b q
                    exact st.inv.wr b (by rw [ho]; exact p1))
                  obtain ⟨s2, k1, _⟩ := opE_sound st.ent hk
                  obtain ⟨k2, k3⟩ := asI_inv k1 hi
                  have hav : ArgsV w.heap [.v t, .v (.int i)] (v, m, ()) [a.tmps.getD s undef, .int i m] bs :=
                    ⟨_, _, bs, [], rfl, by simp, l2, _, _, [], [], rfl, rfl, one_int k3, rfl, rfl⟩
                  have := hok (v, m, ()) y hy w _ bs hav p4 (fun b hb => st.inv.wr b (by rw [(p5 b hb).2]; exact p1))
                  have ex : (#[a.eval (.tmp s), a.eval k] : Array Value) = [a.tmps.getD s undef, .int i m].toArray := by rw [k2]; rfl
                  rw [ex]
                  refine this.mono ?_
                  rintro e w' ⟨v0', kv, z1, rfl, z2, z3, z4, z5, z6, z7, z8⟩
                  simp only [List.head?_cons, Option.some.injEq] at z1
                  subst z1
                  refine ⟨kv, rfl, ?_⟩
                  obtain ⟨v1, r1, b1, b2, y1, y2, _, y3, y4⟩ := z2
                  simp only [List.cons.injEq] at y1
                  obtain ⟨rfl, rfl⟩ := y1
                  obtain ⟨v2, r2, b3, b4, y5, y6, _, y7, y8⟩ := y3
                  simp only [List.cons.injEq] at y5
                  obtain ⟨rfl, rfl⟩ := y5
                  have y9 : b3 = [] := y6.1.flat rfl
                  have y10 : b4 = [] := y7.2
                  have eb : bs = b1 := by rw [y4, y8, y9, y10]; simp
                  subst eb
                  obtain ⟨_, stt1, v01, hd1, p21, p31⟩ := oneRt_as hv hreg l1 y2.1
                  obtain ⟨r1, r2, _, r4⟩ := marked_leaf p21 p31 z8
                  have mk : Marked g el u r (pickV el u t y.1 ls) hd1 bs w.heap w'.heap := ⟨p1, r1, r2, z6, z7, r4⟩
                  have st1 := mark_St st mk z8 z3 z4 z5 q4
                  cases d with
                  | none => rw [← hr]; exact st1
                  | some q =>
                    have hkv : kv = .int i' y.2.1 ∧ (Lit.int i' y.2.1).wf = true := by
                      have c1 := y6.2.2 rfl
                      have c2 := y6.1.1
                      rw [c1] at c2
                      simp only [List.cons.injEq, and_true] at c2
                      exact ⟨c2, y6.1.2.1⟩
                    have := St.putA st1 (hd q rfl) (v := kv) (e := intE i' y.2.1) (by rw [hkv.1]; exact intE_sound hkv.2)
                    rw [← hr]
                    have eg : (markEnv env (some q) el u r i' (pickV el u t y.1 ls) y.2.1).get = upd (env.map (killM el u r (pickV el u t y.1 ls))).get q (intE i' y.2.1) := by
                      funext s'; simp only [markEnv, Env.get_put, upd]
                    rw [eg]; exact this
                · cases hr
            · cases he
          · cases he
        · cases he
      · cases he
  · cases he

end
end Go.Proofs.YtkoifikjfnbcpaaEv
