/- An element of a slice written. -/
import Derived.Test.YtkoifikjfnbcpaaEvTailD
set_option linter.unusedVariables false
set_option linter.unusedSimpArgs false
namespace Go.Proofs.YtkoifikjfnbcpaaEv
open Go Go.RowKit

def Leaf.absorbs (k : Nat) : List Nat → Leaf → Leaf
  | [], l => l
  | m :: r, l => Leaf.absorbs k r (l.absorb m k)

/-- Element i of the slice of region k is another. -/
def Leaf.put1 (u : Ty) (k i : Nat) (z : u.den) (ok : Bool) : Leaf → Leaf
  | .fz t reg lin v => .fz t reg lin v
  | .rt e u' tag sub lin st v => bif Nat.beq tag k then (match Ty.cast u' z with | some z' => .rt e u' tag sub (lin && ok) st (v.set i z') | none => .rt e u' tag sub lin st v) else .rt e u' tag sub lin st v
def Leaf.bad (u : Ty) (k : Nat) : Leaf → Bool
  | .rt _ u' tag sub _ _ _ => Nat.beq tag k && (sub || !(u'.eqb u))
  | _ => false

def estoreE (ty : Ty) (ad : Ent) (xs : List Leaf) (env : Env) : Option Env :=
  match ad with
  | .eref l i p => (match l with
    | .rt e u k false lin st v => bif tyIs u p ty && (u.flat || p.isEmpty) then (match valAs ty xs with
      | some y => (match setP u (v.getD i u.dflt) p ty y, (bif u.flat then some ([], true) else takeIn k xs [] true) with
        | some z, some (ms, ok) => bif okTags k ms env then some ((env.map (killIf (Leaf.bad u k))).map (Ent.mapL fun l => (l.absorbs k ms).put1 u k i z ok)) else none
        | _, _ => none)
      | none => none) else none
    | _ => none)
  | _ => none

section
variable {P : Program} {T : TTab} {n : NS} {w0 w : World} {W : Nat → Prop} {g : Gh} {get : Nat → Ent} {a : Act} {d : Nat}

theorem absorbs_ty (k : Nat) : ∀ (ms : List Nat) (l : Leaf), (l.absorbs k ms).ty = l.ty
  | [], l => rfl
  | m :: r, l => by rw [Leaf.absorbs, absorbs_ty k r, absorb_ty]
theorem absorbs_len (k : Nat) : ∀ (ms : List Nat) (l : Leaf), lenL (l.absorbs k ms) = lenL l
  | [], l => rfl
  | m :: r, l => by
    rw [Leaf.absorbs, absorbs_len k r]
    cases l with
    | fz t reg lin v => simp only [Leaf.absorb]; cases Nat.beq reg m <;> cases t <;> rfl
    | rt e t tag sub lin st v => simp only [Leaf.absorb]; cases Nat.beq tag m <;> rfl
theorem absorbs_fz (k : Nat) : ∀ (ms : List Nat) (t : Ty) (reg : Nat) (lin : Bool) (v : t.den), ∃ reg', (Leaf.fz t reg lin v).absorbs k ms = .fz t reg' lin v
  | [], t, reg, lin, v => ⟨reg, rfl⟩
  | m :: r, t, reg, lin, v => by
    simp only [Leaf.absorbs, Leaf.absorb]
    cases Nat.beq reg m <;> exact absorbs_fz k r t _ lin v
theorem absorbs_rt (k : Nat) : ∀ (ms : List Nat) (e : TypeId) (t : Ty) (tag : Nat) (sub lin st : Bool) (v : List t.den), (tag ∉ ms → (Leaf.rt e t tag sub lin st v).absorbs k ms = .rt e t tag sub lin st v) ∧
    ((Leaf.rt e t tag sub lin st v).absorbs k ms = .rt e t tag sub lin st v ∨ ∃ reg, (Leaf.rt e t tag sub lin st v).absorbs k ms = .fz (.slice e t) reg lin v)
  | [], e, t, tag, sub, lin, st, v => ⟨fun _ => rfl, .inl rfl⟩
  | m :: r, e, t, tag, sub, lin, st, v => by
    simp only [Leaf.absorbs, Leaf.absorb]
    cases hq : Nat.beq tag m with
    | true =>
      refine ⟨fun h => absurd (Nat.eq_of_beq_eq_true hq) (fun e => h (by simp [e])), .inr ?_⟩
      exact absorbs_fz k r (.slice e t) _ lin v
    | false =>
      obtain ⟨q1, q2⟩ := absorbs_rt k r e t tag sub lin st v
      exact ⟨fun h => q1 (fun hm => h (by simp [hm])), q2⟩

theorem LeafB.absorbs {h : Mem} {k : Nat} (hk : k ≠ 0) : ∀ {ms : List Nat} {g : Gh} {l : Leaf} {cs : List Value} {bs : List Nat}, (∀ m ∈ ms, m ≠ 0 ∧ m ≠ k) → LeafB g h l cs bs → LeafB (Gh.absorbs k ms g) h (l.absorbs k ms) cs bs
  | [], g, l, cs, bs, _, hl => hl
  | m :: r, g, l, cs, bs, hm, hl => by
    have q := hm m (by simp)
    show LeafB (Gh.absorbs k r (g.absorb m k)) h (Leaf.absorbs k r (l.absorb m k)) cs bs
    exact LeafB.absorbs hk (fun m' hm' => hm m' (by simp [hm'])) (hl.absorb q.1 hk)

theorem put1_ty (u : Ty) (k i : Nat) (z : u.den) (ok : Bool) (l : Leaf) : (l.put1 u k i z ok).ty = l.ty := by
  cases l with
  | fz t reg lin v => rfl
  | rt e u' tag sub lin st v =>
    simp only [Leaf.put1]
    cases Nat.beq tag k with
    | false => rfl
    | true =>
      simp only [cond_true]
      split <;> rfl
theorem put1_len (u : Ty) (k i : Nat) (z : u.den) (ok : Bool) (l : Leaf) : lenL (l.put1 u k i z ok) = lenL l := by
  cases l with
  | fz t reg lin v => rfl
  | rt e u' tag sub lin st v =>
    simp only [Leaf.put1]
    cases Nat.beq tag k with
    | false => rfl
    | true =>
      simp only [cond_true]
      split
      · simp [lenL]
      · rfl

/-- What is known where an element is written. -/
structure Wr (g : Gh) (h h' : Mem) (u : Ty) (k i : Nat) (z : u.den) (ms : List Nat) (ok : Bool) (b : Nat) : Prop where
  k0 : k ≠ 0
  ms0 : ∀ m ∈ ms, m ≠ 0 ∧ m ≠ k
  ar : AbsR k ms g (Gh.absorbs k ms g)
  kd : g.kd b = .mu k
  oth : ∀ y, y ≠ b → h'[y]? = h[y]?
  at_ : ∃ o len cap c X e new bz, g.H k = .slice (some ⟨b, o, none⟩) len cap ∧ h[b]? = some (.cells c e (0, 0)) ∧ h'[b]? = some (.cells X e (0, 0)) ∧ i < len ∧ len ≤ cap ∧ o + cap * u.size ≤ c.size ∧ X.toList = splice c.toList (o + i * u.size) new ∧
    new.length = u.size ∧ Rd h u z new bz ∧ (∀ y ∈ bz, (Gh.absorbs k ms g).kd y = .fz) ∧ (ok = true → bz.Nodup ∧ ∀ y ∈ bz, g.own y ∈ ms)

theorem LeafB.put1 {h h' : Mem} {u : Ty} {k i : Nat} {z : u.den} {ms : List Nat} {ok : Bool} {b : Nat} (x : Wr g h h' u k i z ms ok b) {l : Leaf} {cs : List Value} {bs : List Nat} (hl : LeafB g h l cs bs) (hb : l.bad u k = false) :
    ∃ bs', LeafB (Gh.absorbs k ms g) h' ((l.absorbs k ms).put1 u k i z ok) cs bs' := by
  have hkms : k ∉ ms := fun hk => (x.ms0 k hk).2 rfl
  have hkd : (Gh.absorbs k ms g).kd b = .mu k := x.ar.mu b k x.kd hkms
  have h1 := hl.absorbs x.k0 x.ms0
  -- a part that is not of region k
  have plain : ∀ l1 : Leaf, l.absorbs k ms = l1 → l1.isRt k = false → l1.put1 u k i z ok = l1 → ∃ bs', LeafB (Gh.absorbs k ms g) h' (l1.put1 u k i z ok) cs bs' := by
    intro l1 e1 e2 e3
    rw [e1] at h1
    refine ⟨bs, ?_⟩
    rw [e3]
    refine h1.same (fun y hy => x.oth y fun e => ?_) (fun _ _ => rfl) (fun _ _ => rfl) (fun _ _ _ _ _ _ _ _ _ => rfl)
    subst e
    cases l1 with
    | fz t reg lin v => have := h1.2.1 y hy; rw [hkd] at this; cases this
    | rt e t tag sub lin st v =>
      have ht : tag ≠ k := nbeq_ne e2
      obtain ⟨hd', blk, bs', rfl, rfl, _, _, _, h4, h5, _⟩ := h1
      rcases List.mem_append.1 hy with hy | hy
      · have := (h5 y (by simpa using hy)).1; rw [hkd] at this; injection this with this; exact ht this.symm
      · have := h4 y hy; rw [hkd] at this; cases this
  cases l with
  | fz t reg lin v =>
    obtain ⟨reg', e⟩ := absorbs_fz k ms t reg lin v
    rw [e]
    exact plain _ e rfl rfl
  | rt e u' tag sub lin st v =>
    obtain ⟨a1, a2⟩ := absorbs_rt k ms e u' tag sub lin st v
    cases ht : Nat.beq tag k with
    | false =>
      rcases a2 with q | ⟨reg, q⟩
      · rw [q]; exact plain _ q ht (by simp only [Leaf.put1, ht, cond_false])
      · rw [q]; exact plain _ q rfl rfl
    | true =>
      have := Nat.eq_of_beq_eq_true ht; subst this
      simp only [Leaf.bad, ht, Bool.true_and, Bool.or_eq_false_iff, Bool.not_eq_false'] at hb
      obtain ⟨hb1, hb2⟩ := hb
      have hb3 := eqb_eq hb2; subst hb1; subst hb3
      rw [a1 hkms]
      obtain ⟨o, len, cap, c, X, e0, new, bz, y1, y2, y3, y4, y5, y6, y7, y8, y9, y10, y11⟩ := x.at_
      obtain ⟨hd, blk, bs', rfl, rfl, c1, c2, c3, c4, c5, c6⟩ := hl
      have hH := c1 rfl
      rw [y1] at hH
      have hcast : Ty.cast u' z = some z := by
        unfold Ty.cast
        have : u'.eqb u' = true := hb2
        rw [dif_pos this]
      simp only [Leaf.put1, ht, cond_true, hcast]
      rcases c3 with ⟨q1, _⟩ | ⟨b', o', cap', c', fr, q1, q2, q3, q4, q5, q6⟩
      · rw [hH] at q1; cases q1
      · rw [hH] at q1
        injection q1 with q1a q1b q1c
        injection q1a with q1a
        injection q1a with q1a q1o _
        subst q1a; subst q1o; subst q1c; subst q2
        rw [y2] at q4
        have e1 : c = c' := by injection q4 with q4; injection q4
        have e2 : e0 = e := by injection q4 with q4; injection q4
        subst e1; subst e2
        have hroom : o + i * u'.size + new.length ≤ c.toList.length := by
          have : (i + 1) * u'.size ≤ cap * u'.size := Nat.mul_le_mul_right _ (by omega)
          rw [Nat.succ_mul] at this; simp; omega
        obtain ⟨b2, s1, s2, s3⟩ := RdL.set (x := z) (l := v) (i := i) y8 (cs' := X.toList.drop o) q6 (by omega) y9 (fun j => by
          rw [List.getElem?_drop, y7, splice_get _ _ _ hroom, List.getElem?_drop]
          by_cases hj : i * u'.size ≤ j ∧ j < i * u'.size + u'.size
          · rw [if_pos hj, if_pos (by omega)]; congr 1; omega
          · rw [if_neg hj, if_neg (by omega)])
        have fz1 : ∀ y ∈ b2, (Gh.absorbs tag ms g).kd y = .fz := by
          intro y hy
          rcases s2 y hy with q | q
          · exact x.ar.fz y (c4 y q)
          · exact y10 y q
        refine ⟨[b] ++ b2, hd, some b, b2, rfl, rfl, fun _ => by rw [hH, ← y1, x.ar.H], fun hst => ?_, .inr ⟨b, o, cap, X, (0, 0), by rw [hH]; simp [q1b], rfl, by simpa using q3, y3, ?_, ?_⟩, fz1, fun y hy => ?_, fun hlo => ?_⟩
        · rw [hH]
          constructor
          · intro q; cases q
          · intro q
            have : (v.set i z).length = 0 := by rw [q]; rfl
            simp at this; subst this; simp at q1b; omega
        · have : X.toList.length = c.toList.length := by rw [y7]; exact splice_length _ _ _ hroom
          simp at this; omega
        · exact s1.mono fun x' cs' bb hm hx => hx.frame fun y hy => x.oth y (fun e => by subst e; rw [fz1 y (hm y hy)] at hkd; cases hkd)
        · injection hy with hy; subst hy
          obtain ⟨m1, m2, _⟩ := c5 b rfl
          exact ⟨hkd, by rw [x.ar.own' b (by rw [m2]; exact hkms)]; exact m2, X, y3⟩
        · simp only [Bool.and_eq_true] at hlo
          obtain ⟨d1, d2⟩ := c6 hlo.1
          obtain ⟨d3, d4⟩ := y11 hlo.2
          refine ⟨fun y hy => ?_, s3 d2 d3 fun y hy hy' => ?_⟩
          · rcases s2 y hy with q | q
            · rw [x.ar.own' y (by rw [d1 y q]; exact hkms)]; exact d1 y q
            · exact x.ar.own y (d4 y q)
          · have := d4 y hy; rw [d1 y hy'] at this; exact hkms this

section
variable {h h' : Mem} {u : Ty} {k i : Nat} {z : u.den} {ms : List Nat} {ok : Bool} {b : Nat}

theorem LeavesB.put1 (x : Wr g h h' u k i z ms ok b) : ∀ {ls : List Leaf} {cs : List Value} {bs : List Nat}, LeavesB g h ls cs bs → ls.any (Leaf.bad u k) = false → ∃ bs', LeavesB (Gh.absorbs k ms g) h' (ls.map fun l => (l.absorbs k ms).put1 u k i z ok) cs bs'
  | [], _, _, hl, _ => ⟨[], hl.1, rfl⟩
  | l :: r, cs, bs, ⟨b1, b2, h1, h2, h3⟩, hd => by
    simp only [List.any_cons, Bool.or_eq_false_iff] at hd
    obtain ⟨c1, q1⟩ := h1.put1 x hd.1
    obtain ⟨c2, q2⟩ := LeavesB.put1 x h2 hd.2
    exact ⟨c1 ++ c2, c1, c2, by rw [put1_ty, absorbs_ty]; exact q1, by rw [put1_ty, absorbs_ty]; exact q2, rfl⟩
theorem PartsB.put1 (x : Wr g h h' u k i z ms ok b) {m : Nat} : ∀ {pp : List (List Leaf)} {cs : List Value} {bs : List Nat}, PartsB g h m pp cs bs → (pp.any fun ls => ls.any (Leaf.bad u k)) = false →
    ∃ bs', PartsB (Gh.absorbs k ms g) h' m (pp.map fun ls => ls.map fun l => (l.absorbs k ms).put1 u k i z ok) cs bs'
  | [], _, _, hl, _ => ⟨[], hl.1, rfl⟩
  | l :: r, cs, bs, ⟨b1, b2, h1, h2, h3⟩, hd => by
    simp only [List.any_cons, Bool.or_eq_false_iff] at hd
    obtain ⟨c1, q1⟩ := h1.put1 x hd.1
    obtain ⟨c2, q2⟩ := PartsB.put1 x h2 hd.2
    exact ⟨c1 ++ c2, c1, c2, q1, q2, rfl⟩
theorem ValR.put1 (x : Wr g h h' u k i z ms ok b) {agg : Bool} {ls : List Leaf} {v : Value} (hv : ValR g h agg ls v) (hd : ls.any (Leaf.bad u k) = false) : ValR (Gh.absorbs k ms g) h' agg (ls.map fun l => (l.absorbs k ms).put1 u k i z ok) v := by
  obtain ⟨cs, bs, h1, h2, h3⟩ := hv
  obtain ⟨c, q⟩ := h3.put1 x hd
  exact ⟨cs, c, h1, h2, q⟩
theorem ValsR.put1 (x : Wr g h h' u k i z ms ok b) : ∀ {ls : List (Bool × List Leaf)} {vs : List Value}, ValsR g h ls vs → (ls.any fun p => p.2.any (Leaf.bad u k)) = false →
    ValsR (Gh.absorbs k ms g) h' (ls.map fun p => (p.1, p.2.map fun l => (l.absorbs k ms).put1 u k i z ok)) vs
  | [], _, hl, _ => hl
  | (agg, ls) :: r, vs, ⟨v, vs', h1, h2, h3⟩, hd => by
    simp only [List.any_cons, Bool.or_eq_false_iff] at hd
    exact ⟨v, vs', h1, h2.put1 x hd.1, ValsR.put1 x h3 hd.2⟩

theorem EntR.put1 (x : Wr g h h' u k i z ms ok b) {s : Nat} {e : Ent} {v : Value} (he : EntR g h s e v) (hd : e.any (Leaf.bad u k) = false) (hl : ∀ t u' pp, e = .lit t u' pp → s * 16 + 1 ≠ k ∧ s * 16 + 1 ∉ ms) :
    EntR (Gh.absorbs k ms g) h' s (e.mapL fun l => (l.absorbs k ms).put1 u k i z ok) v := by
  cases e with
  | dead => trivial
  | val agg ls => exact ValR.put1 x he hd
  | lit t u' pp =>
    obtain ⟨hk, hm⟩ := hl t u' pp rfl
    obtain ⟨b', c, bs, h1, h2, h3, h4, h5, h6, h7⟩ := he
    obtain ⟨c6, q6⟩ := h6.put1 x hd
    have hne : b' ≠ b := by
      intro q; subst q
      have := x.kd; rw [h4] at this; injection this with this; exact hk this
    exact ⟨b', c, c6, by simpa using h1, by rw [x.oth b' hne]; exact h2, by simpa using h3, x.ar.mu b' _ h4 hm, by rw [x.ar.own' b' (by rw [h5]; exact hm)]; exact h5, q6, by simpa using h7⟩
  | box ro ls =>
    obtain ⟨b', c, e, fr, bs, h1, h2, h3, h4, h5, h6⟩ := he
    obtain ⟨c3, q3⟩ := h3.put1 x hd
    have hne : b' ≠ b := by
      intro q; subst q
      cases ro with
      | false => have := x.kd; rw [(h5 rfl).1] at this; cases this
      | true => have := x.kd; rcases h6 rfl with q | q <;> rw [q] at this <;> cases this
    exact ⟨b', c, e, fr, c3, h1, by rw [x.oth b' hne]; exact h2, q3, by rw [x.ar.bx]; exact h4, fun q => ⟨x.ar.bxk b' s (h5 q).1, (h5 q).2⟩, fun q => (h6 q).imp (x.ar.fz b') (x.ar.no b')⟩
  | ref s' base t p => obtain ⟨h1, h2⟩ := he; exact ⟨h1, by rw [x.ar.bx]; exact h2⟩
  | eref l i' p =>
    obtain ⟨bs, b', o, m, cap, h1, h2, h3, h4, h5⟩ := he
    obtain ⟨c1, q1⟩ := h1.put1 x hd
    have ht : ((l.absorbs k ms).put1 u k i z ok).ty = l.ty := by rw [put1_ty, absorbs_ty]
    have et := elemTy_re (f := fun l => (l.absorbs k ms).put1 u k i z ok) ht h2
    exact ⟨c1, b', o, m, cap, q1, by rw [put1_len, absorbs_len]; exact h2, h3, by rw [show elemTy _ = elemTy l from et]; exact h4, by rw [show elemTy ((l.absorbs k ms).put1 u k i z ok) = elemTy l from et]; exact h5⟩
  | fn f caps => show v = _; rw [show v = _ from he, x.ar.bx]
  | tup ls => obtain ⟨vs, h1, h2⟩ := he; exact ⟨vs, h1, h2.put1 x hd⟩
end

theorem estore_sound {t : TypeId} {ty : Ty} {ad x : Operand} {e : Ent} {agg : Bool} {xs : List Leaf} {env env' : Env} (hT : TOK P T) (k0 : TyOK P T t ty) (hwal : ∀ b, W b → g.al b) (st : St n w0 W g env.get a w)
    (ha : opE env.get ad = some e) (hx : opE env.get x = some (.val agg xs)) (h : estoreE ty e xs env = some env') :
    ∃ g' w', (Instr.storeAt t (a.eval ad) (a.eval x)).run P w = .ok () w' ∧ g'.al = g.al ∧ St n w0 W g' env'.get a w' := by
  obtain ⟨s1, he1, -⟩ := opE_sound st.ent ha
  obtain ⟨s2, he2, -⟩ := opE_sound st.ent hx
  obtain ⟨bsx, hcx⟩ := ValR.cells he2
  have hone := hcx.cells1
  unfold estoreE at h
  split at h
  · rename_i l i p
    split at h
    · rename_i el u k lin strict v
      cases hq : (tyIs u p ty && (u.flat || p.isEmpty)) with
      | false => rw [hq] at h; cases h
      | true =>
        rw [hq] at h; simp only [cond_true] at h
        simp only [Bool.and_eq_true] at hq
        obtain ⟨hq1, hq2⟩ := hq
        have hq1 := tyIs_eq hq1
        split at h
        · rename_i y hy
          split at h
          · rename_i z ms ok hz htake
            cases hok : okTags k ms env with
            | false => rw [hok] at h; cases h
            | true =>
              rw [hok] at h; simp only [cond_true, Option.some.injEq] at h
              subst h
              simp only [okTags, Bool.and_eq_true, List.all_eq_true, Bool.not_eq_true'] at hok
              obtain ⟨⟨hk0, hkl⟩, hms⟩ := hok
              have hk0 := nbeq_ne hk0
              have hms0 : ∀ m ∈ ms, m ≠ 0 ∧ m ≠ k := fun m hm => ⟨nbeq_ne (hms m hm).1.1, nbeq_ne (hms m hm).1.2⟩
              obtain ⟨st1, ar⟩ := absorbAll_sound hk0 hwal st (fun m hm => ⟨(hms0 m hm).1, (hms0 m hm).2, (hms m hm).2⟩)
              have hkms : k ∉ ms := fun hk => nbeq_ne (hms k hk).1.2 rfl
              obtain ⟨bsl, b, o, len, cap, c1, c2, c3, c4, c5⟩ := he1
              obtain ⟨hd', blk, bs', d0, d0', d1, d2, d3, d4, d5, d6⟩ := c1
              injection d0 with d0 _
              rcases d3 with ⟨q1, _⟩ | ⟨b', o', cap', c, fr, q1, q2, q3, q4, q5, q6⟩
              · rw [← d0] at q1; cases q1
              · rw [← d0] at q1
                injection q1 with q1a q1b q1c
                injection q1a with q1a
                injection q1a with q1a q1o _
                subst q1a; subst q1o; subst q1c; subst q2
                obtain ⟨m1, m2, c', m3⟩ := d5 b rfl
                rw [q4] at m3
                have hfr : fr = (0, 0) := by injection m3 with m3; injection m3
                subst hfr
                simp only [lenL, Option.some.injEq] at c2
                have hiv : i < v.length := by omega
                have gd : v[i]? = some (v.getD i u.dflt) := by rw [List.getD_eq_getElem?_getD, List.getElem?_eq_getElem hiv]; rfl
                obtain ⟨be, r1, r2⟩ := q6.get gd
                rw [List.drop_drop] at r1
                have hmul : (i + 1) * u.size ≤ cap * u.size := Nat.mul_le_mul_right _ (by omega)
                rw [Nat.succ_mul] at hmul
                have hry := valAs_rd hy hcx
                have lry := hry.length
                -- the new element
                have elem : ∃ bz, Rd w.heap u z (splice ((c.toList.drop (o + i * u.size)).take u.size) (poff u p) (a.eval x).cells.toList) bz ∧ poff u p + (a.eval x).cells.toList.length ≤ u.size ∧
                    (∀ y ∈ bz, (Gh.absorbs k ms g).kd y = .fz) ∧ (ok = true → bz.Nodup ∧ ∀ y ∈ bz, g.own y ∈ ms) := by
                  have lr1 := r1.length
                  cases hf : u.flat with
                  | true =>
                    have hfy : ty.flat = true := tyP_flat hf hq1
                    have := hry.flat hfy; subst this
                    have := r1.flat hf; subst this
                    obtain ⟨u1, u2⟩ := Rd_setP hry hz c4 r1
                    rw [lr1] at u2
                    exact ⟨[], u1, u2, by simp, fun _ => ⟨by simp, by simp⟩⟩
                  | false =>
                    rw [hf] at hq2 htake
                    simp only [Bool.false_or, List.isEmpty_iff] at hq2
                    subst hq2
                    have e0 : poff u [] = 0 := by cases u <;> rfl
                    have et : tyP u [] = some u := by cases u <;> rfl
                    rw [et] at hq1; injection hq1 with hq1; subst hq1
                    have hz' : Ty.cast u y = some z := by
                      have : setP u (v.getD i u.dflt) [] u y = Ty.cast u y := by cases u <;> rfl
                      rw [← this]; exact hz
                    obtain ⟨t1, t2⟩ := takeIn_sound hcx htake
                    refine ⟨bsx, ?_, by rw [e0, lry]; omega, fun y hy => ?_, fun hh => ⟨(t2 hh).1, fun y hy => ((t2 hh).2 y hy).1⟩⟩
                    · rw [e0, splice_all _ _ (by rw [lry, lr1])]; exact cast_rd hz' hry
                    · rcases t1 y hy with q | ⟨m, q1, q2⟩
                      · exact ar.fz y q
                      · exact ar.inn y m q2 q1
                obtain ⟨bz, z1, z2, z3, z4⟩ := elem
                have hroom : o + i * u.size + poff u p + ty.size ≤ c.size := by omega
                have hrun := run_storeVar (P := P) (T := T) (v := a.eval x) k0 q4 (by simpa using lry) hone hroom
                let X := (splice c.toList (o + i * u.size + poff u p) (a.eval x).cells.toList).toArray
                have hX : X.toList = splice c.toList (o + i * u.size) (splice ((c.toList.drop (o + i * u.size)).take u.size) (poff u p) (a.eval x).cells.toList) := by
                  rw [splice_splice _ _ _ _ _ (by simp; omega) z2]
                have hb' : (w.setRow b X).heap[b]? = some (.cells X el (0, 0)) := setRow_heap w b c X el (0, 0) q4
                have hoth : ∀ z, z ≠ b → (w.setRow b X).heap[z]? = w.heap[z]? := fun z hz => setRow_other w b z X hz
                have hsz : (w.setRow b X).heap.size = w.heap.size := by simp [World.setRow]
                have hnl : (splice ((c.toList.drop (o + i * u.size)).take u.size) (poff u p) (a.eval x).cells.toList).length = u.size := by
                  have lr1 := r1.length
                  rw [splice_length _ _ _ (by omega), lr1]
                have wr : Wr g w.heap (w.setRow b X).heap u k i z ms ok b :=
                  ⟨hk0, hms0, ar, m1, hoth, o, v.length, cap, c, X, el, _, bz, by rw [← d1 rfl, ← d0, q1b], q4, hb', hiv, q3, q5, hX, hnl, z1, z3, z4⟩
                have m1' : (Gh.absorbs k ms g).kd b = .mu k := ar.mu b k m1 hkms
                have hin : b < w.heap.size ∧ (w0.heap.size ≤ b ∨ W b) := by
                  rcases st1.inv.kd b with q | q | q
                  · rw [m1'] at q; cases q
                  · rw [m1'] at q; cases q
                  · exact q
                refine ⟨Gh.absorbs k ms g, w.setRow b X, ?_, ar.al, ⟨by rw [hsz]; exact st1.inv.size, fun z hz hw => ?_, fun z => by rw [hsz]; exact st1.inv.kd z, st1.inv.no, st1.inv.al, fun z hz => by rw [hsz]; exact st1.inv.own z hz, fun z hz => ?_⟩,
                  fun s => ?_, st1.sz, st1.df, st1.os, st1.tape, st1.output⟩
                · rw [c5]; exact hrun
                · have : z ≠ b := by
                    intro q; subst q
                    rcases hin.2 with q | q
                    · omega
                    · exact hw q
                  rw [hoth z this]; exact st1.inv.old z hz hw
                · by_cases q : z = b
                  · subst q; exact ⟨X, el, hb'⟩
                  · rw [hoth z q]; exact st1.inv.wr z hz
                · rw [Env.get_map _ rfl, Env.get_map _ rfl]
                  unfold killIf
                  cases hq : (env.get s).any (Leaf.bad u k) with
                  | true => trivial
                  | false => exact (st.ent s).put1 wr hq fun t u' pp h => ⟨litTag_get hkl h, fun hm => litTag_get (hms _ hm).2 h rfl⟩
          · cases h
        · cases h
    · cases h
  · cases h

end
end Go.Proofs.YtkoifikjfnbcpaaEv
