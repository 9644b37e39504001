/- Regions taken in, forgotten, named anew. -/
import Derived.Test.YtkoifikjfnbcpaaEvTail
set_option linter.unusedVariables false
set_option linter.unusedSimpArgs false
namespace Go.Proofs.YtkoifikjfnbcpaaEv
open Go Go.RowKit

theorem Env.get_map (f : Ent → Ent) (hf : f .dead = .dead) : ∀ (env : Env) (s : Nat), (env.map f).get s = f (env.get s)
  | [], s => hf.symm
  | (j, e) :: r, s => by
    simp only [Env.map, Env.get]
    cases Nat.beq j s with
    | true => rfl
    | false => exact Env.get_map f hf r s

def Gh.absorb (g : Gh) (m k : Nat) : Gh where
  kd b := match g.kd b with | .mu t => if t = m then .fz else .mu t | x => x
  own b := if g.own b = m then k else g.own b
  H := g.H
  bx := g.bx
  al := g.al

theorem absorb_fz {g : Gh} {m k b : Nat} (h : g.kd b = .fz) : (g.absorb m k).kd b = .fz := by simp [Gh.absorb, h]
theorem absorb_mu {g : Gh} {m k b t : Nat} (h : g.kd b = .mu t) (ht : t ≠ m) : (g.absorb m k).kd b = .mu t := by simp [Gh.absorb, h, ht]
theorem absorb_in {g : Gh} {m k b : Nat} (h : g.kd b = .mu m) : (g.absorb m k).kd b = .fz := by simp [Gh.absorb, h]

section
variable {n : NS} {w0 w : World} {W : Nat → Prop} {g : Gh} {get : Nat → Ent} {a : Act} {d : Nat}

theorem LeafB.absorb {h : Mem} {l : Leaf} {cs : List Value} {bs : List Nat} {m k : Nat} (hm : m ≠ 0) (hk : k ≠ 0) (hl : LeafB g h l cs bs) : LeafB (g.absorb m k) h (l.absorb m k) cs bs := by
  cases l with
  | fz t reg lin v =>
    obtain ⟨h1, h2, h3, h4⟩ := hl
    simp only [Leaf.absorb]
    cases hq : Nat.beq reg m with
    | true =>
      have := Nat.eq_of_beq_eq_true hq; subst this
      exact ⟨h1, fun b hb => absorb_fz (h2 b hb), fun _ b hb => by simp [Gh.absorb, h3 hm b hb], h4⟩
    | false =>
      have hne := nbeq_ne hq
      exact ⟨h1, fun b hb => absorb_fz (h2 b hb), fun r b hb => by simp [Gh.absorb, h3 r b hb, hne], h4⟩
  | rt e t tag sub lin st v =>
    obtain ⟨hd, blk, bs', rfl, rfl, h1, h2, h3, h4, h5, h6⟩ := hl
    simp only [Leaf.absorb]
    cases hq : Nat.beq tag m with
    | true =>
      have := Nat.eq_of_beq_eq_true hq; subst this
      refine ⟨⟨hd, blk, bs', rfl, h3, rfl⟩, fun b hb => ?_, fun r b hb => ?_, fun hlin => ?_⟩
      · rcases List.mem_append.1 hb with hb | hb
        · exact absorb_in (h5 b (by simpa using hb)).1
        · exact absorb_fz (h4 b hb)
      · cases lin with
        | false => exact absurd rfl r
        | true =>
          show (if g.own b = tag then k else g.own b) = k
          rcases List.mem_append.1 hb with hb | hb
          · rw [if_pos (h5 b (by simpa using hb)).2.1]
          · rw [if_pos ((h6 rfl).1 b hb)]
      · refine List.nodup_append.2 ⟨by cases blk <;> simp, (h6 hlin).2, fun x hx y hy e => ?_⟩
        subst e
        have := (h5 x (by simpa using hx)).1
        rw [h4 x hy] at this; cases this
    | false =>
      have hne := nbeq_ne hq
      refine ⟨hd, blk, bs', rfl, rfl, h1, h2, h3, fun b hb => absorb_fz (h4 b hb), fun b hb => ?_, fun hlin => ⟨fun b hb => ?_, (h6 hlin).2⟩⟩
      · obtain ⟨q1, q2, q3⟩ := h5 b hb
        exact ⟨absorb_mu q1 hne, by simp [Gh.absorb, q2, hne], q3⟩
      · simp [Gh.absorb, (h6 hlin).1 b hb, hne]

theorem absorb_ty (m k : Nat) (l : Leaf) : (l.absorb m k).ty = l.ty := by
  cases l <;> simp only [Leaf.absorb] <;> (cases Nat.beq _ m <;> rfl)

/-- The parts told in another way, under another ghost. -/
structure Re (f : Leaf → Leaf) (g g' : Gh) (h : Mem) : Prop where
  ty : ∀ l, (f l).ty = l.ty
  leaf : ∀ l cs bs, LeafB g h l cs bs → LeafB g' h (f l) cs bs
  bx : g'.bx = g.bx
  len : ∀ l n, lenL l = some n → lenL (f l) = some n

theorem LeavesB.re {f : Leaf → Leaf} {g' : Gh} {h : Mem} (r : Re f g g' h) : ∀ {ls : List Leaf} {cs : List Value} {bs : List Nat}, LeavesB g h ls cs bs → LeavesB g' h (ls.map f) cs bs
  | [], _, _, hl => hl
  | l :: rr, cs, bs, ⟨b1, b2, h1, h2, h3⟩ => ⟨b1, b2, by rw [r.ty]; exact r.leaf _ _ _ h1, by rw [r.ty]; exact LeavesB.re r h2, h3⟩
theorem PartsB.re {f : Leaf → Leaf} {g' : Gh} {h : Mem} (r : Re f g g' h) {m : Nat} : ∀ {pp : List (List Leaf)} {cs : List Value} {bs : List Nat}, PartsB g h m pp cs bs → PartsB g' h m (pp.map fun ls => ls.map f) cs bs
  | [], _, _, hl => hl
  | l :: rr, cs, bs, ⟨b1, b2, h1, h2, h3⟩ => ⟨b1, b2, h1.re r, PartsB.re r h2, h3⟩
theorem ValR.re {f : Leaf → Leaf} {g' : Gh} {h : Mem} (r : Re f g g' h) {agg : Bool} {ls : List Leaf} {v : Value} (hv : ValR g h agg ls v) : ValR g' h agg (ls.map f) v := by
  obtain ⟨cs, bs, h1, h2, h3⟩ := hv; exact ⟨cs, bs, h1, h2, h3.re r⟩
theorem ValsR.re {f : Leaf → Leaf} {g' : Gh} {h : Mem} (r : Re f g g' h) : ∀ {ls : List (Bool × List Leaf)} {vs : List Value}, ValsR g h ls vs → ValsR g' h (ls.map fun p => (p.1, p.2.map f)) vs
  | [], _, hl => hl
  | (agg, ls) :: rr, vs, ⟨v, vs', h1, h2, h3⟩ => ⟨v, vs', h1, h2.re r, ValsR.re r h3⟩

theorem elemTy_re {f : Leaf → Leaf} {l : Leaf} {n : Nat} (ht : (f l).ty = l.ty) (hn : lenL l = some n) : elemTy (f l) = elemTy l := by
  have : ∃ e, l.ty = .slice e (elemTy l) := by
    cases l with
    | fz t reg lin v => cases t with | slice e t => exact ⟨e, rfl⟩ | _ => cases hn
    | rt e t tag sub lin st v => exact ⟨e, rfl⟩
  obtain ⟨e, h⟩ := this
  exact elemTy_of (by rw [ht]; exact h)

theorem EntR.re {f : Leaf → Leaf} {g' : Gh} {h : Mem} (r : Re f g g' h) {s : Nat} {e : Ent} {v : Value} (hlit : ∀ t u pp, e = .lit t u pp → ∀ b, g.kd b = .mu (s * 16 + 1) → g.own b = s * 16 + 1 → g'.kd b = .mu (s * 16 + 1) ∧ g'.own b = s * 16 + 1)
    (hbx : ∀ b, (g.kd b = .bx s → g'.kd b = .bx s) ∧ (g.kd b = .fz → g'.kd b = .fz) ∧ (g.kd b = .no → g'.kd b = .no)) (he : EntR g h s e v) : EntR g' h s (e.mapL f) v := by
  cases e with
  | dead => trivial
  | val agg ls => exact ValR.re r he
  | lit t u pp =>
    obtain ⟨b, c, bs, h1, h2, h3, h4, h5, h6, h7⟩ := he
    obtain ⟨q1, q2⟩ := hlit t u pp rfl b h4 h5
    exact ⟨b, c, bs, by simpa using h1, h2, by simpa using h3, q1, q2, h6.re r, by simpa using h7⟩
  | box ro ls =>
    obtain ⟨b, c, e, fr, bs, h1, h2, h3, h4, h5, h6⟩ := he
    exact ⟨b, c, e, fr, bs, h1, h2, h3.re r, by rw [r.bx]; exact h4, fun q => ⟨(hbx b).1 (h5 q).1, (h5 q).2⟩, fun q => (h6 q).imp (hbx b).2.1 (hbx b).2.2⟩
  | ref s' base t p => obtain ⟨h1, h2⟩ := he; exact ⟨h1, by rw [r.bx]; exact h2⟩
  | eref l i p =>
    obtain ⟨bs, b, o, m, cap, h1, h2, h3, h4, h5⟩ := he
    have et := elemTy_re (r.ty l) h2
    exact ⟨bs, b, o, m, cap, r.leaf _ _ _ h1, r.len _ _ h2, h3, by rw [et]; exact h4, by rw [et]; exact h5⟩
  | fn f' caps => show v = _; rw [show v = _ from he, r.bx]
  | tup ls => obtain ⟨vs, h1, h2⟩ := he; exact ⟨vs, h1, h2.re r⟩

theorem litTag_get {m : Nat} : ∀ {env : Env} {s : Nat} {t : TypeId} {u : Ty} {pp : List (List Leaf)}, litTag m env = false → env.get s = .lit t u pp → s * 16 + 1 ≠ m
  | [], s, t, u, pp, _, h => by cases h
  | (j, e) :: r, s, t, u, pp, hl, h => by
    simp only [litTag, Bool.or_eq_false_iff] at hl
    simp only [Env.get] at h
    cases hq : Nat.beq j s with
    | true =>
      rw [hq] at h; simp only [cond_true] at h
      have := Nat.eq_of_beq_eq_true hq; subst this
      subst h
      exact nbeq_ne hl.1
    | false => rw [hq] at h; exact litTag_get hl.2 h

theorem absorb_re {h : Mem} {m k : Nat} (hm : m ≠ 0) (hk : k ≠ 0) : Re (Leaf.absorb m k) g (g.absorb m k) h where
  ty := absorb_ty m k
  leaf l cs bs hl := hl.absorb hm hk
  bx := rfl
  len l q hl := by
    cases l with
    | fz t reg lin v =>
      cases t with
      | slice e t => simp only [Leaf.absorb]; cases Nat.beq reg m <;> exact hl
      | _ => cases hl
    | rt e t tag sub lin st v => simp only [Leaf.absorb]; cases Nat.beq tag m <;> exact hl

/-- A region taken in. -/
theorem St.absorb {env : Env} {m k : Nat} (st : St n w0 W g env.get a w) (hwal : ∀ b, W b → g.al b) (hm : m ≠ 0) (hk : k ≠ 0) (hl : litTag m env = false) :
    St n w0 W (g.absorb m k) (env.map (Ent.mapL (Leaf.absorb m k))).get a w where
  inv := by
    refine ⟨st.inv.size, st.inv.old, fun b => ?_, fun b hb => ?_, fun b hb => ?_, fun b hb => ?_, fun b hb => ?_⟩
    · rcases st.inv.kd b with q | q | q
      · exact .inl (absorb_fz q)
      · exact .inr (.inl (by simp [Gh.absorb, q]))
      · exact .inr (.inr q)
    · cases hq : g.kd b with
      | no => exact st.inv.no b hq
      | fz => rw [absorb_fz hq] at hb; cases hb
      | mu t => simp only [Gh.absorb, hq] at hb; split at hb <;> cases hb
      | bx s => simp only [Gh.absorb, hq] at hb; cases hb
    · cases hq : g.kd b with
      | no => simp only [Gh.absorb, hq] at hb; cases hb
      | fz => exact st.inv.al b hq
      | mu t =>
        rcases st.inv.kd b with q | q | q
        · rw [hq] at q; cases q
        · rw [hq] at q; cases q
        · rcases q.2 with r | r
          · exact .inl r
          · exact .inr (hwal b r)
      | bx s => simp only [Gh.absorb, hq] at hb; cases hb
    · have : g.own b ≠ 0 := by intro q; simp only [Gh.absorb, q] at hb; rw [if_neg (by omega)] at hb; exact hb rfl
      exact st.inv.own b this
    · have : g.own b ≠ 0 := by intro q; simp only [Gh.absorb, q] at hb; rw [if_neg (by omega)] at hb; exact hb rfl
      exact st.inv.wr b this
  ent s := by
    rw [Env.get_map _ rfl]
    refine (st.ent s).re (absorb_re hm hk) (fun t u pp he b h1 h2 => ?_) (fun b => ⟨fun q => by simp [Gh.absorb, q], fun q => absorb_fz q, fun q => by simp [Gh.absorb, q]⟩)
    have := litTag_get hl he
    exact ⟨absorb_mu h1 this, by simp [Gh.absorb, h2, this]⟩
  sz := st.sz
  df := st.df
  os := st.os
  tape := st.tape
  output := st.output

/-- Slots forgotten. -/
theorem St.kill {env : Nat → Ent} {env' : Nat → Ent} (st : St n w0 W g env a w) (h : ∀ s, env' s = env s ∨ env' s = .dead) : St n w0 W g env' a w where
  inv := st.inv
  ent s := by rcases h s with q | q <;> rw [q]; exact st.ent s; trivial
  sz := st.sz
  df := st.df
  os := st.os
  tape := st.tape
  output := st.output

/-- A region named anew: nothing speaks of the new name. -/
def Gh.name (g : Gh) (m k : Nat) : Gh where
  kd b := match g.kd b with | .mu t => if t = m then .mu k else .mu t | x => x
  own b := if g.own b = m then k else g.own b
  H t := if t = k then g.H m else g.H t
  bx := g.bx
  al := g.al

theorem LeafB.name {h : Mem} {l : Leaf} {cs : List Value} {bs : List Nat} {m k : Nat} (hm : m ≠ 0) (hk : k ≠ 0) (hmk : m ≠ k) (hn : l.inReg k = false) (hl : LeafB g h l cs bs) : LeafB (g.name m k) h (l.name m k) cs bs := by
  have kfz : ∀ {b}, g.kd b = .fz → (g.name m k).kd b = .fz := fun q => by simp [Gh.name, q]
  cases l with
  | fz t reg lin v =>
    obtain ⟨h1, h2, h3, h4⟩ := hl
    simp only [Leaf.name]
    cases hq : Nat.beq reg m with
    | true =>
      have := Nat.eq_of_beq_eq_true hq; subst this
      exact ⟨h1, fun b hb => kfz (h2 b hb), fun _ b hb => by simp [Gh.name, h3 hm b hb], h4⟩
    | false =>
      have hne := nbeq_ne hq
      exact ⟨h1, fun b hb => kfz (h2 b hb), fun r b hb => by simp [Gh.name, h3 r b hb, hne], h4⟩
  | rt e t tag sub lin st v =>
    obtain ⟨hd, blk, bs', rfl, rfl, h1, h2, h3, h4, h5, h6⟩ := hl
    simp only [Leaf.name]
    cases hq : Nat.beq tag m with
    | true =>
      have := Nat.eq_of_beq_eq_true hq; subst this
      refine ⟨hd, blk, bs', rfl, rfl, fun q => by simp [Gh.name, h1 q], h2, h3, fun b hb => kfz (h4 b hb), fun b hb => ?_, fun hlin => ⟨fun b hb => by simp [Gh.name, (h6 hlin).1 b hb], (h6 hlin).2⟩⟩
      obtain ⟨q1, q2, q3⟩ := h5 b hb
      exact ⟨by simp [Gh.name, q1], by simp [Gh.name, q2], q3⟩
    | false =>
      have hne := nbeq_ne hq
      have hnk : tag ≠ k := nbeq_ne hn
      refine ⟨hd, blk, bs', rfl, rfl, fun q => by simp [Gh.name, h1 q, hnk], h2, h3, fun b hb => kfz (h4 b hb), fun b hb => ?_, fun hlin => ⟨fun b hb => by simp [Gh.name, (h6 hlin).1 b hb, hne], (h6 hlin).2⟩⟩
      obtain ⟨q1, q2, q3⟩ := h5 b hb
      exact ⟨by simp [Gh.name, q1, hne], by simp [Gh.name, q2, hne], q3⟩

theorem name_ty (m k : Nat) (l : Leaf) : (l.name m k).ty = l.ty := by
  cases l <;> simp only [Leaf.name] <;> (cases Nat.beq _ m <;> rfl)

theorem lenL_name (m k : Nat) (l : Leaf) (q : Nat) (hl : lenL l = some q) : lenL (l.name m k) = some q := by
  cases l with
  | fz t reg lin v =>
    cases t with
    | slice e t => simp only [Leaf.name]; cases Nat.beq reg m <;> exact hl
    | _ => cases hl
  | rt e t tag sub lin st v => simp only [Leaf.name]; cases Nat.beq tag m <;> exact hl

theorem LeavesB.name {h : Mem} {m k : Nat} (hm : m ≠ 0) (hk : k ≠ 0) (hmk : m ≠ k) : ∀ {ls : List Leaf} {cs : List Value} {bs : List Nat}, ls.any (Leaf.inReg k) = false → LeavesB g h ls cs bs → LeavesB (g.name m k) h (ls.map (Leaf.name m k)) cs bs
  | [], _, _, _, hl => hl
  | l :: rr, cs, bs, hn, ⟨b1, b2, h1, h2, h3⟩ => by
    simp only [List.any_cons, Bool.or_eq_false_iff] at hn
    exact ⟨b1, b2, by rw [name_ty]; exact h1.name hm hk hmk hn.1, by rw [name_ty]; exact LeavesB.name hm hk hmk hn.2 h2, h3⟩
theorem ValR.name {h : Mem} {m k : Nat} (hm : m ≠ 0) (hk : k ≠ 0) (hmk : m ≠ k) {agg : Bool} {ls : List Leaf} {v : Value} (hn : ls.any (Leaf.inReg k) = false) (hv : ValR g h agg ls v) : ValR (g.name m k) h agg (ls.map (Leaf.name m k)) v := by
  obtain ⟨cs, bs, h1, h2, h3⟩ := hv; exact ⟨cs, bs, h1, h2, h3.name hm hk hmk hn⟩
theorem ValsR.name {h : Mem} {m k : Nat} (hm : m ≠ 0) (hk : k ≠ 0) (hmk : m ≠ k) : ∀ {ls : List (Bool × List Leaf)} {vs : List Value}, (ls.any fun q => q.2.any (Leaf.inReg k)) = false → ValsR g h ls vs → ValsR (g.name m k) h (ls.map fun p => (p.1, p.2.map (Leaf.name m k))) vs
  | [], _, _, hl => hl
  | (agg, ls) :: rr, vs, hn, ⟨v, vs', h1, h2, h3⟩ => by
    simp only [List.any_cons, Bool.or_eq_false_iff] at hn
    exact ⟨v, vs', h1, h2.name hm hk hmk hn.1, ValsR.name hm hk hmk hn.2 h3⟩

/-- An entry under the new name; literals are forgotten. -/
def nameE (m k : Nat) (e : Ent) : Ent :=
  match e with
  | .lit _ _ _ => .dead
  | e => e.mapL (Leaf.name m k)

theorem EntR.name {h : Mem} {m k s : Nat} (hm : m ≠ 0) (hk : k ≠ 0) (hmk : m ≠ k) {e : Ent} {v : Value} (hn : e.any (Leaf.inReg k) = false) (he : EntR g h s e v) : EntR (g.name m k) h s (nameE m k e) v := by
  cases e with
  | dead => trivial
  | val agg ls => exact ValR.name hm hk hmk hn he
  | lit t u pp => trivial
  | box ro ls =>
    obtain ⟨b, c, e, fr, bs, h1, h2, h3, h4, h5, h6⟩ := he
    exact ⟨b, c, e, fr, bs, h1, h2, h3.name hm hk hmk hn, h4, fun q => ⟨by simp [Gh.name, (h5 q).1], (h5 q).2⟩, fun q => (h6 q).imp (fun q => by simp [Gh.name, q]) (fun q => by simp [Gh.name, q])⟩
  | ref s' base t p => exact he
  | eref l i p =>
    obtain ⟨bs, b, o, q, cap, h1, h2, h3, h4, h5⟩ := he
    have et := elemTy_re (name_ty m k l) h2
    exact ⟨bs, b, o, q, cap, h1.name hm hk hmk hn, lenL_name m k l _ h2, h3, by rw [et]; exact h4, by rw [et]; exact h5⟩
  | fn f' caps => exact he
  | tup ls => obtain ⟨vs, h1, h2⟩ := he; exact ⟨vs, h1, h2.name hm hk hmk hn⟩

theorem St.name {env : Nat → Ent} {m k : Nat} (st : St n w0 W g env a w) (hm : m ≠ 0) (hk : k ≠ 0) (hmk : m ≠ k) (hn : ∀ s, (env s).any (Leaf.inReg k) = false) :
    St n w0 W (g.name m k) (fun s => nameE m k (env s)) a w where
  inv := by
    refine ⟨st.inv.size, st.inv.old, fun b => ?_, fun b hb => ?_, fun b hb => ?_, fun b hb => ?_, fun b hb => ?_⟩
    · rcases st.inv.kd b with q | q | q
      · exact .inl (by simp [Gh.name, q])
      · exact .inr (.inl (by simp [Gh.name, q]))
      · exact .inr (.inr q)
    · cases hq : g.kd b with
      | no => exact st.inv.no b hq
      | fz => simp only [Gh.name, hq] at hb; cases hb
      | mu t => simp only [Gh.name, hq] at hb; split at hb <;> cases hb
      | bx s => simp only [Gh.name, hq] at hb; cases hb
    · cases hq : g.kd b with
      | no => simp only [Gh.name, hq] at hb; cases hb
      | fz => exact st.inv.al b hq
      | mu t => simp only [Gh.name, hq] at hb; split at hb <;> cases hb
      | bx s => simp only [Gh.name, hq] at hb; cases hb
    · have : g.own b ≠ 0 := by intro q; simp only [Gh.name, q] at hb; rw [if_neg (by omega)] at hb; exact hb rfl
      exact st.inv.own b this
    · have : g.own b ≠ 0 := by intro q; simp only [Gh.name, q] at hb; rw [if_neg (by omega)] at hb; exact hb rfl
      exact st.inv.wr b this
  ent s := (st.ent s).name hm hk hmk (hn s)
  sz := st.sz
  df := st.df
  os := st.os
  tape := st.tape
  output := st.output

end
end Go.Proofs.YtkoifikjfnbcpaaEv
