/- The program's operations on plain typed data, that the machine does the same, what the functions come to, and what they give (part 3). No condition. -/
import Derived.Test.YtmdpmnjnpnjppaaEA4202
set_option linter.unusedVariables false
set_option linter.unusedSimpArgs false
namespace Go.Proofs.YtmdpmnjnpnjppaaEv
open Go Go.RowKit
def Leaf.absorbs (k : Nat) : List Nat → Leaf → Leaf
  | [], l => l
  | m :: r, l => Leaf.absorbs k r (l.absorb m k)
def Leaf.put1 (u : Ty) (k i : Nat) (z : u.den) (ok : Bool) : Leaf → Leaf
  | .fz t reg lin v => .fz t reg lin v
  | .rt e u' tag sub lin st v => bif Nat.beq tag k then (match Ty.cast u' z with | some z' => .rt e u' tag sub (lin && ok) st (v.set i z') | none => .rt e u' tag sub lin st v) else .rt e u' tag sub lin st v
def estoreE (ty : Ty) (ad : Ent) (xs : List Leaf) (env : Env) : Option Env :=
  match ad with
  | .eref l i p => (match l with
    | .rt e u k false lin st v => bif tyIs u p ty && (u.flat || p.isEmpty) then (match valAs ty xs with
      | some y => (match setP u (v.getD i u.dflt) p ty y, (bif u.flat then some ([], true) else takeIn k xs [] true) with
        | some z, some (ms, ok) => bif okTags k ms env then some ((env.map (killIf (Leaf.bad u k))).map (Ent.mapL fun l => (l.absorbs k ms).put1 u k i z ok)) else none
        | _, _ => none)
      | none => none) else none
    | _ => none)
  | _ => none
section
variable {P : Program} {T : TTab} {n : NS} {w0 w : World} {W : Nat → Prop} {g : Gh} {get : Nat → Ent} {a : Act} {d : Nat}
theorem absorbs_ty (k : Nat) : ∀ (ms : List Nat) (l : Leaf), (l.absorbs k ms).ty = l.ty
  | [], l => rfl
  | m :: r, l => by rw [Leaf.absorbs, absorbs_ty k r, absorb_ty]
theorem absorbs_len (k : Nat) : ∀ (ms : List Nat) (l : Leaf), lenL (l.absorbs k ms) = lenL l
  | [], l => rfl
  | m :: r, l => by
    rw [Leaf.absorbs, absorbs_len k r]
    cases l with
    | fz t reg lin v => simp only [Leaf.absorb]; cases Nat.beq reg m <;> cases t <;> rfl
    | rt e t tag sub lin st v => simp only [Leaf.absorb]; cases Nat.beq tag m <;> rfl
theorem absorbs_fz (k : Nat) : ∀ (ms : List Nat) (t : Ty) (reg : Nat) (lin : Bool) (v : t.den), ∃ reg', (Leaf.fz t reg lin v).absorbs k ms = .fz t reg' lin v
  | [], t, reg, lin, v => ⟨reg, rfl⟩
  | m :: r, t, reg, lin, v => by
    simp only [Leaf.absorbs, Leaf.absorb]
    cases Nat.beq reg m <;> exact absorbs_fz k r t _ lin v
theorem absorbs_rt (k : Nat) : ∀ (ms : List Nat) (e : TypeId) (t : Ty) (tag : Nat) (sub lin st : Bool) (v : List t.den), (tag ∉ ms → (Leaf.rt e t tag sub lin st v).absorbs k ms = .rt e t tag sub lin st v) ∧
    ((Leaf.rt e t tag sub lin st v).absorbs k ms = .rt e t tag sub lin st v ∨ ∃ reg, (Leaf.rt e t tag sub lin st v).absorbs k ms = .fz (.slice e t) reg lin v)
  | [], e, t, tag, sub, lin, st, v => ⟨fun _ => rfl, .inl rfl⟩
  | m :: r, e, t, tag, sub, lin, st, v => by
    simp only [Leaf.absorbs, Leaf.absorb]
    cases hq : Nat.beq tag m with
    | true =>
      refine ⟨fun h => absurd (Nat.eq_of_beq_eq_true hq) (fun e => h (by simp [e])), .inr ?_⟩
      exact absorbs_fz k r (.slice e t) _ lin v
    | false =>
      obtain ⟨q1, q2⟩ := absorbs_rt k r e t tag sub lin st v
      exact ⟨fun h => q1 (fun hm => h (by simp [hm])), q2⟩
theorem LeafB.absorbs {h : Mem} {k : Nat} (hk : k ≠ 0) : ∀ {ms : List Nat} {g : Gh} {l : Leaf} {cs : List Value} {bs : List Nat}, (∀ m ∈ ms, m ≠ 0 ∧ m ≠ k) → LeafB g h l cs bs → LeafB (Gh.absorbs k ms g) h (l.absorbs k ms) cs bs
  | [], g, l, cs, bs, _, hl => hl
  | m :: r, g, l, cs, bs, hm, hl => by
    have q := hm m (by simp)
    show LeafB (Gh.absorbs k r (g.absorb m k)) h (Leaf.absorbs k r (l.absorb m k)) cs bs
    exact LeafB.absorbs hk (fun m' hm' => hm m' (by simp [hm'])) (hl.absorb q.1 hk)
theorem put1_ty (u : Ty) (k i : Nat) (z : u.den) (ok : Bool) (l : Leaf) : (l.put1 u k i z ok).ty = l.ty := by
  cases l with
  | fz t reg lin v => rfl
  | rt e u' tag sub lin st v =>
    simp only [Leaf.put1]
    cases Nat.beq tag k with
    | false => rfl
    | true =>
      simp only [cond_true]
      split <;> rfl
theorem put1_len (u : Ty) (k i : Nat) (z : u.den) (ok : Bool) (l : Leaf) : lenL (l.put1 u k i z ok) = lenL l := by
  cases l with
  | fz t reg lin v => rfl
  | rt e u' tag sub lin st v =>
    simp only [Leaf.put1]
    cases Nat.beq tag k with
    | false => rfl
    | true =>
      simp only [cond_true]
      split
      · simp [lenL]
      · rfl
structure Wr (g : Gh) (h h' : Mem) (u : Ty) (k i : Nat) (z : u.den) (ms : List Nat) (ok : Bool) (b : Nat) : Prop where
  k0 : k ≠ 0
  ms0 : ∀ m ∈ ms, m ≠ 0 ∧ m ≠ k
  ar : AbsR k ms g (Gh.absorbs k ms g)
  kd : g.kd b = .mu k
  oth : ∀ y, y ≠ b → h'[y]? = h[y]?
  at_ : ∃ o len cap c X e new bz, g.H k = .slice (some ⟨b, o, none⟩) len cap ∧ h[b]? = some (.cells c e (0, 0)) ∧ h'[b]? = some (.cells X e (0, 0)) ∧ i < len ∧ len ≤ cap ∧ o + cap * u.size ≤ c.size ∧ X.toList = splice c.toList (o + i * u.size) new ∧
    new.length = u.size ∧ Rd h u z new bz ∧ (∀ y ∈ bz, (Gh.absorbs k ms g).kd y = .fz) ∧ (ok = true → bz.Nodup ∧ ∀ y ∈ bz, g.own y ∈ ms)
theorem LeafB.put1 {h h' : Mem} {u : Ty} {k i : Nat} {z : u.den} {ms : List Nat} {ok : Bool} {b : Nat} (x : Wr g h h' u k i z ms ok b) {l : Leaf} {cs : List Value} {bs : List Nat} (hl : LeafB g h l cs bs) (hb : l.bad u k = false) :
    ∃ bs', LeafB (Gh.absorbs k ms g) h' ((l.absorbs k ms).put1 u k i z ok) cs bs' := by
  have hkms : k ∉ ms := fun hk => (x.ms0 k hk).2 rfl
  have hkd : (Gh.absorbs k ms g).kd b = .mu k := x.ar.mu b k x.kd hkms
  have h1 := hl.absorbs x.k0 x.ms0
  -- a part that is not of region k
  have plain : ∀ l1 : Leaf, l.absorbs k ms = l1 → l1.isRt k = false → l1.put1 u k i z ok = l1 → ∃ bs', LeafB (Gh.absorbs k ms g) h' (l1.put1 u k i z ok) cs bs' := by
    intro l1 e1 e2 e3
    rw [e1] at h1
    refine ⟨bs, ?_⟩
    rw [e3]
    refine h1.same (fun y hy => x.oth y fun e => ?_) (fun _ _ => rfl) (fun _ _ => rfl) (fun _ _ _ _ _ _ _ _ _ => rfl)
    subst e
    cases l1 with
    | fz t reg lin v => have := h1.2.1 y hy; rw [hkd] at this; cases this
    | rt e t tag sub lin st v =>
      have ht : tag ≠ k := nbeq_ne e2
      obtain ⟨hd', blk, bs', rfl, rfl, _, _, _, h4, h5, _⟩ := h1
      rcases List.mem_append.1 hy with hy | hy
      · have := (h5 y (by simpa using hy)).1; rw [hkd] at this; injection this with this; exact ht this.symm
      · have := h4 y hy; rw [hkd] at this; cases this
  cases l with
  | fz t reg lin v =>
    obtain ⟨reg', e⟩ := absorbs_fz k ms t reg lin v
    rw [e]
    exact plain _ e rfl rfl
  | rt e u' tag sub lin st v =>
    obtain ⟨a1, a2⟩ := absorbs_rt k ms e u' tag sub lin st v
    cases ht : Nat.beq tag k with
    | false =>
      rcases a2 with q | ⟨reg, q⟩
      · rw [q]; exact plain _ q ht (by simp only [Leaf.put1, ht, cond_false])
      · rw [q]; exact plain _ q rfl rfl
    | true =>
      have := Nat.eq_of_beq_eq_true ht; subst this
      simp only [Leaf.bad, ht, Bool.true_and, Bool.or_eq_false_iff, Bool.not_eq_false'] at hb
      obtain ⟨hb1, hb2⟩ := hb
      have hb3 := eqb_eq hb2; subst hb1; subst hb3
      rw [a1 hkms]
      obtain ⟨o, len, cap, c, X, e0, new, bz, y1, y2, y3, y4, y5, y6, y7, y8, y9, y10, y11⟩ := x.at_
      obtain ⟨hd, blk, bs', rfl, rfl, c1, c2, c3, c4, c5, c6⟩ := hl
      have hH := c1 rfl
      rw [y1] at hH
      have hcast : Ty.cast u' z = some z := by
        unfold Ty.cast
        have : u'.eqb u' = true := hb2
        rw [dif_pos this]
      simp only [Leaf.put1, ht, cond_true, hcast]
      rcases c3 with ⟨_, q1, _⟩ | ⟨b', o', cap', c', fr, q1, q2, q3, ⟨e9, q4⟩, q5, q6⟩
      · rw [hH] at q1; injection q1 with _ q1 _; omega
      · rw [hH] at q1
        injection q1 with q1a q1b q1c
        injection q1a with q1a
        injection q1a with q1a q1o _
        subst q1a; subst q1o; subst q1c; subst q2
        rw [y2] at q4
        have e1 : c = c' := by injection q4 with q4; injection q4
        have e2 : e0 = e9 := by injection q4 with q4; injection q4
        subst e1; subst e2
        have hroom : o + i * u'.size + new.length ≤ c.toList.length := by
          have : (i + 1) * u'.size ≤ cap * u'.size := Nat.mul_le_mul_right _ (by omega)
          rw [Nat.succ_mul] at this; simp; omega
        obtain ⟨b2, s1, s2, s3⟩ := RdL.set (x := z) (l := v) (i := i) y8 (cs' := X.toList.drop o) q6 (by omega) y9 (fun j => by
          rw [List.getElem?_drop, y7, splice_get _ _ _ hroom, List.getElem?_drop]
          by_cases hj : i * u'.size ≤ j ∧ j < i * u'.size + u'.size
          · rw [if_pos hj, if_pos (by omega)]; congr 1; omega
          · rw [if_neg hj, if_neg (by omega)])
        have fz1 : ∀ y ∈ b2, (Gh.absorbs tag ms g).kd y = .fz := by
          intro y hy
          rcases s2 y hy with q | q
          · exact x.ar.fz y (c4 y q)
          · exact y10 y q
        refine ⟨[b] ++ b2, hd, some b, b2, rfl, rfl, fun _ => by rw [hH, ← y1, x.ar.H], fun hst => ?_, .inr ⟨b, o, cap, X, (0, 0), by rw [hH]; simp [q1b], rfl, by simpa using q3, ⟨_, y3⟩, ?_, ?_⟩, fz1, fun y hy => ?_, fun hlo => ?_⟩
        · rw [hH]
          constructor
          · intro q; cases q
          · intro q
            have : (v.set i z).length = 0 := by rw [q]; rfl
            simp at this; subst this; simp at q1b; omega
        · have : X.toList.length = c.toList.length := by rw [y7]; exact splice_length _ _ _ hroom
          simp at this; omega
        · exact s1.mono fun x' cs' bb hm hx => hx.frame fun y hy => x.oth y (fun e => by subst e; rw [fz1 y (hm y hy)] at hkd; cases hkd)
        · injection hy with hy; subst hy
          obtain ⟨m1, m2, _⟩ := c5 b rfl
          exact ⟨hkd, by rw [x.ar.own' b (by rw [m2]; exact hkms)]; exact m2, X, _, y3⟩
        · simp only [Bool.and_eq_true] at hlo
          obtain ⟨d1, d2⟩ := c6 hlo.1
          obtain ⟨d3, d4⟩ := y11 hlo.2
          refine ⟨fun y hy => ?_, s3 d2 d3 fun y hy hy' => ?_⟩
          · rcases s2 y hy with q | q
            · rw [x.ar.own' y (by rw [d1 y q]; exact hkms)]; exact d1 y q
            · exact x.ar.own y (d4 y q)
          · have := d4 y hy; rw [d1 y hy'] at this; exact hkms this
section
variable {h h' : Mem} {u : Ty} {k i : Nat} {z : u.den} {ms : List Nat} {ok : Bool} {b : Nat}
theorem LeavesB.put1 (x : Wr g h h' u k i z ms ok b) : ∀ {ls : List Leaf} {cs : List Value} {bs : List Nat}, LeavesB g h ls cs bs → ls.any (Leaf.bad u k) = false → ∃ bs', LeavesB (Gh.absorbs k ms g) h' (ls.map fun l => (l.absorbs k ms).put1 u k i z ok) cs bs'
  | [], _, _, hl, _ => ⟨[], hl.1, rfl⟩
  | l :: r, cs, bs, ⟨b1, b2, h1, h2, h3⟩, hd => by
    simp only [List.any_cons, Bool.or_eq_false_iff] at hd
    obtain ⟨c1, q1⟩ := h1.put1 x hd.1
    obtain ⟨c2, q2⟩ := LeavesB.put1 x h2 hd.2
    exact ⟨c1 ++ c2, c1, c2, by rw [put1_ty, absorbs_ty]; exact q1, by rw [put1_ty, absorbs_ty]; exact q2, rfl⟩
theorem PartsB.put1 (x : Wr g h h' u k i z ms ok b) {m : Nat} : ∀ {pp : List (List Leaf)} {cs : List Value} {bs : List Nat}, PartsB g h m pp cs bs → (pp.any fun ls => ls.any (Leaf.bad u k)) = false →
    ∃ bs', PartsB (Gh.absorbs k ms g) h' m (pp.map fun ls => ls.map fun l => (l.absorbs k ms).put1 u k i z ok) cs bs'
  | [], _, _, hl, _ => ⟨[], hl.1, rfl⟩
  | l :: r, cs, bs, ⟨b1, b2, h1, h2, h3⟩, hd => by
    simp only [List.any_cons, Bool.or_eq_false_iff] at hd
    obtain ⟨c1, q1⟩ := h1.put1 x hd.1
    obtain ⟨c2, q2⟩ := PartsB.put1 x h2 hd.2
    exact ⟨c1 ++ c2, c1, c2, q1, q2, rfl⟩
theorem ValR.put1 (x : Wr g h h' u k i z ms ok b) {agg : Bool} {ls : List Leaf} {v : Value} (hv : ValR g h agg ls v) (hd : ls.any (Leaf.bad u k) = false) : ValR (Gh.absorbs k ms g) h' agg (ls.map fun l => (l.absorbs k ms).put1 u k i z ok) v := by
  obtain ⟨cs, bs, h1, h2, h3⟩ := hv
  obtain ⟨c, q⟩ := h3.put1 x hd
  exact ⟨cs, c, h1, h2, q⟩
theorem ValsR.put1 (x : Wr g h h' u k i z ms ok b) : ∀ {ls : List (Bool × List Leaf)} {vs : List Value}, ValsR g h ls vs → (ls.any fun p => p.2.any (Leaf.bad u k)) = false →
    ValsR (Gh.absorbs k ms g) h' (ls.map fun p => (p.1, p.2.map fun l => (l.absorbs k ms).put1 u k i z ok)) vs
  | [], _, hl, _ => hl
  | (agg, ls) :: r, vs, ⟨v, vs', h1, h2, h3⟩, hd => by
    simp only [List.any_cons, Bool.or_eq_false_iff] at hd
    exact ⟨v, vs', h1, h2.put1 x hd.1, ValsR.put1 x h3 hd.2⟩
theorem EntR.put1 (x : Wr g h h' u k i z ms ok b) {s : Nat} {e : Ent} {v : Value} (he : EntR g h s e v) (hd : e.any (Leaf.bad u k) = false) (hl : ∀ t u' pp, e = .lit t u' pp → s * 16 + 1 ≠ k ∧ s * 16 + 1 ∉ ms) :
    EntR (Gh.absorbs k ms g) h' s (e.mapL fun l => (l.absorbs k ms).put1 u k i z ok) v := by
  cases e with
  | dead => trivial
  | val agg ls => exact ValR.put1 x he hd
  | lit t u' pp =>
    obtain ⟨hk, hm⟩ := hl t u' pp rfl
    obtain ⟨b', c, bs, h1, h2, h3, h4, h5, h6, h7⟩ := he
    obtain ⟨c6, q6⟩ := h6.put1 x hd
    have hne : b' ≠ b := by
      intro q; subst q
      have := x.kd; rw [h4] at this; injection this with this; exact hk this
    exact ⟨b', c, c6, by simpa using h1, by rw [x.oth b' hne]; exact h2, by simpa using h3, x.ar.mu b' _ h4 hm, by rw [x.ar.own' b' (by rw [h5]; exact hm)]; exact h5, q6, by simpa using h7⟩
  | box ro ls =>
    obtain ⟨b', c, e, fr, bs, h1, h2, h3, h4, h5, h6⟩ := he
    obtain ⟨c3, q3⟩ := h3.put1 x hd
    have hne : b' ≠ b := by
      intro q; subst q
      cases ro with
      | false => have := x.kd; rw [(h5 rfl).1] at this; cases this
      | true => have := x.kd; rcases h6 rfl with q | q <;> rw [q] at this <;> cases this
    exact ⟨b', c, e, fr, c3, h1, by rw [x.oth b' hne]; exact h2, q3, by rw [x.ar.bx]; exact h4, fun q => ⟨x.ar.bxk b' s (h5 q).1, (h5 q).2⟩, fun q => (h6 q).imp (x.ar.fz b') (x.ar.no b')⟩
  | ref s' base t p => obtain ⟨h1, h2⟩ := he; exact ⟨h1, by rw [x.ar.bx]; exact h2⟩
  | eref l i' p =>
    obtain ⟨bs, b', o, m, cap, h1, h2, h3, h4, h5⟩ := he
    obtain ⟨c1, q1⟩ := h1.put1 x hd
    have ht : ((l.absorbs k ms).put1 u k i z ok).ty = l.ty := by rw [put1_ty, absorbs_ty]
    have et := elemTy_re (f := fun l => (l.absorbs k ms).put1 u k i z ok) ht h2
    exact ⟨c1, b', o, m, cap, q1, by rw [put1_len, absorbs_len]; exact h2, h3, by rw [show elemTy _ = elemTy l from et]; exact h4, by rw [show elemTy ((l.absorbs k ms).put1 u k i z ok) = elemTy l from et]; exact h5⟩
  | fn f caps => show v = _; rw [show v = _ from he, x.ar.bx]
  | tup ls => obtain ⟨vs, h1, h2⟩ := he; exact ⟨vs, h1, h2.put1 x hd⟩
  | mp d kt vt m =>
    obtain ⟨h0, es, c, h1, h2, h3⟩ := he
    exact ⟨by rw [x.ar.bx]; exact h0, es, c, by rw [x.ar.bx, x.oth _ (fun q => by have := x.kd; rw [← q, h2] at this; cases this)]; exact h1, by rw [x.ar.bx]; exact x.ar.bxk _ _ h2, by rw [x.ar.mt]; exact h3⟩
  | ment d kt vt k' =>
    obtain ⟨z, n, h0, es, c, e, h1, h2, h3⟩ := he
    exact ⟨z, n, h0, es, c, e, by rw [x.ar.bx, x.oth _ (fun q => by have := x.kd; rw [← q, h2] at this; cases this)]; exact h1, by rw [x.ar.bx]; exact x.ar.bxk _ _ h2, by rw [x.ar.mt]; exact h3⟩
  | stamp d kt vt k' =>
    obtain ⟨n, h0, es, c, e, h1, h2, h3⟩ := he
    exact ⟨n, h0, es, c, e, by rw [x.ar.bx, x.oth _ (fun q => by have := x.kd; rw [← q, h2] at this; cases this)]; exact h1, by rw [x.ar.bx]; exact x.ar.bxk _ _ h2, by rw [x.ar.mt]; exact h3⟩
  | it b' o =>
    obtain ⟨h0, h1, h2, h3, h4⟩ := he
    exact ⟨h0, by rw [x.oth _ (fun q => by have := x.kd; rw [← q, h3] at this; cases this)]; exact h1, h2, x.ar.fz _ h3, by rw [x.ar.own' b' (by rw [h4]; exact fun q => (x.ms0 0 q).1 rfl)]; exact h4⟩
end
theorem estore_sound {t : TypeId} {ty : Ty} {ad x : Operand} {e : Ent} {agg : Bool} {xs : List Leaf} {env env' : Env} (hT : TOK P T) (k0 : TyOK P T t ty) (hwal : ∀ b, W b → g.al b) (st : St n w0 W g env.get a w)
    (ha : opE env.get ad = some e) (hx : opE env.get x = some (.val agg xs)) (h : estoreE ty e xs env = some env') :
    ∃ g' w', (Instr.storeAt t (a.eval ad) (a.eval x)).run P w = .ok () w' ∧ g'.al = g.al ∧ St n w0 W g' env'.get a w' := by
  obtain ⟨s1, he1, -⟩ := opE_sound st.ent ha
  obtain ⟨s2, he2, -⟩ := opE_sound st.ent hx
  obtain ⟨bsx, hcx⟩ := ValR.cells he2
  have hone := hcx.cells1
  unfold estoreE at h
  split at h
  · rename_i l i p
    split at h
    · rename_i el u k lin strict v
      cases hq : (tyIs u p ty && (u.flat || p.isEmpty)) with
      | false => rw [hq] at h; cases h
      | true =>
        rw [hq] at h; simp only [cond_true] at h
        simp only [Bool.and_eq_true] at hq
        obtain ⟨hq1, hq2⟩ := hq
        have hq1 := tyIs_eq hq1
        split at h
        · rename_i y hy
          split at h
          · rename_i z ms ok hz htake
            cases hok : okTags k ms env with
            | false => rw [hok] at h; cases h
            | true =>
              rw [hok] at h; simp only [cond_true, Option.some.injEq] at h
              subst h
              simp only [okTags, Bool.and_eq_true, List.all_eq_true, Bool.not_eq_true'] at hok
              obtain ⟨⟨hk0, hkl⟩, hms⟩ := hok
              have hk0 := nbeq_ne hk0
              have hms0 : ∀ m ∈ ms, m ≠ 0 ∧ m ≠ k := fun m hm => ⟨nbeq_ne (hms m hm).1.1, nbeq_ne (hms m hm).1.2⟩
              obtain ⟨st1, ar⟩ := absorbAll_sound hk0 hwal st (fun m hm => ⟨(hms0 m hm).1, (hms0 m hm).2, (hms m hm).2⟩)
              have hkms : k ∉ ms := fun hk => nbeq_ne (hms k hk).1.2 rfl
              obtain ⟨bsl, b, o, len, cap, c1, c2, c3, c4, c5⟩ := he1
              obtain ⟨hd', blk, bs', d0, d0', d1, d2, d3, d4, d5, d6⟩ := c1
              injection d0 with d0 _
              rcases d3 with ⟨_, q1, _⟩ | ⟨b', o', cap', c, fr, q1, q2, ⟨q3, _⟩, ⟨e9, q4⟩, q5, q6⟩
              · rw [← d0] at q1; injection q1 with _ q1 _; omega
              · rw [← d0] at q1
                injection q1 with q1a q1b q1c
                injection q1a with q1a
                injection q1a with q1a q1o _
                subst q1a; subst q1o; subst q1c; subst q2
                obtain ⟨m1, m2, c', e8, m3⟩ := d5 b rfl
                rw [q4] at m3
                have hfr : fr = (0, 0) := by injection m3 with m3; injection m3
                subst hfr
                simp only [lenL, Option.some.injEq] at c2
                have hiv : i < v.length := by omega
                have gd : v[i]? = some (v.getD i u.dflt) := by rw [List.getD_eq_getElem?_getD, List.getElem?_eq_getElem hiv]; rfl
                obtain ⟨be, r1, r2⟩ := q6.get gd
                rw [List.drop_drop] at r1
                have hmul : (i + 1) * u.size ≤ cap * u.size := Nat.mul_le_mul_right _ (by omega)
                rw [Nat.succ_mul] at hmul
                have hry := valAs_rd hy hcx
                have lry := hry.length
                -- the new element
                have elem : ∃ bz, Rd w.heap u z (splice ((c.toList.drop (o + i * u.size)).take u.size) (poff u p) (a.eval x).cells.toList) bz ∧ poff u p + (a.eval x).cells.toList.length ≤ u.size ∧
                    (∀ y ∈ bz, (Gh.absorbs k ms g).kd y = .fz) ∧ (ok = true → bz.Nodup ∧ ∀ y ∈ bz, g.own y ∈ ms) := by
                  have lr1 := r1.length
                  cases hf : u.flat with
                  | true =>
                    have hfy : ty.flat = true := tyP_flat hf hq1
                    have := hry.flat hfy; subst this
                    have := r1.flat hf; subst this
                    obtain ⟨u1, u2⟩ := Rd_setP hry hz c4 r1
                    rw [lr1] at u2
                    exact ⟨[], u1, u2, by simp, fun _ => ⟨by simp, by simp⟩⟩
                  | false =>
                    rw [hf] at hq2 htake
                    simp only [Bool.false_or, List.isEmpty_iff] at hq2
                    subst hq2
                    have e0 : poff u [] = 0 := by cases u <;> rfl
                    have et : tyP u [] = some u := by cases u <;> rfl
                    rw [et] at hq1; injection hq1 with hq1; subst hq1
                    have hz' : Ty.cast u y = some z := by
                      have : setP u (v.getD i u.dflt) [] u y = Ty.cast u y := by cases u <;> rfl
                      rw [← this]; exact hz
                    obtain ⟨t1, t2⟩ := takeIn_sound hcx htake
                    refine ⟨bsx, ?_, by rw [e0, lry]; omega, fun y hy => ?_, fun hh => ⟨(t2 hh).1, fun y hy => ((t2 hh).2 y hy).1⟩⟩
                    · rw [e0, splice_all _ _ (by rw [lry, lr1])]; exact cast_rd hz' hry
                    · rcases t1 y hy with q | ⟨m, q1, q2⟩
                      · exact ar.fz y q
                      · exact ar.inn y m q2 q1
                obtain ⟨bz, z1, z2, z3, z4⟩ := elem
                have hroom : o + i * u.size + poff u p + ty.size ≤ c.size := by omega
                have hrun := run_storeVar (P := P) (T := T) (v := a.eval x) k0 q4 (by simpa using lry) hone hroom
                let X := (splice c.toList (o + i * u.size + poff u p) (a.eval x).cells.toList).toArray
                have hX : X.toList = splice c.toList (o + i * u.size) (splice ((c.toList.drop (o + i * u.size)).take u.size) (poff u p) (a.eval x).cells.toList) := by
                  rw [splice_splice _ _ _ _ _ (by simp; omega) z2]
                have hb' : (w.setRow b X).heap[b]? = some (.cells X e9 (0, 0)) := setRow_heap w b c X e9 (0, 0) q4
                have hoth : ∀ z, z ≠ b → (w.setRow b X).heap[z]? = w.heap[z]? := fun z hz => setRow_other w b z X hz
                have hsz : (w.setRow b X).heap.size = w.heap.size := by simp [World.setRow]
                have hnl : (splice ((c.toList.drop (o + i * u.size)).take u.size) (poff u p) (a.eval x).cells.toList).length = u.size := by
                  have lr1 := r1.length
                  rw [splice_length _ _ _ (by omega), lr1]
                have wr : Wr g w.heap (w.setRow b X).heap u k i z ms ok b :=
                  ⟨hk0, hms0, ar, m1, hoth, o, v.length, cap, c, X, e9, _, bz, by rw [← d1 rfl, ← d0, q1b], q4, hb', hiv, q3, q5, hX, hnl, z1, z3, z4⟩
                have m1' : (Gh.absorbs k ms g).kd b = .mu k := ar.mu b k m1 hkms
                have hin : b < w.heap.size ∧ (w0.heap.size ≤ b ∨ W b) := by
                  rcases st1.inv.kd b with q | q | q
                  · rw [m1'] at q; cases q
                  · rw [m1'] at q; cases q
                  · exact q
                refine ⟨Gh.absorbs k ms g, w.setRow b X, ?_, ar.al, ⟨by rw [hsz]; exact st1.inv.size, fun z hz hw => ?_, fun z => by rw [hsz]; exact st1.inv.kd z, st1.inv.no, st1.inv.al, fun z hz => by rw [hsz]; exact st1.inv.own z hz, fun z hz => ?_⟩,
                  fun s => ?_, st1.sz, st1.df, st1.os, ⟨st1.tape.tape, st1.tape.dr⟩, st1.output⟩
                · rw [c5]; exact hrun
                · have : z ≠ b := by
                    intro q; subst q
                    rcases hin.2 with q | q
                    · omega
                    · exact hw q
                  rw [hoth z this]; exact st1.inv.old z hz hw
                · by_cases q : z = b
                  · subst q; exact ⟨X, _, hb'⟩
                  · rw [hoth z q]; exact st1.inv.wr z hz
                · rw [Env.get_map _ rfl, Env.get_map _ rfl]
                  unfold killIf
                  cases hq : (env.get s).any (Leaf.bad u k) with
                  | true => trivial
                  | false => exact (st.ent s).put1 wr hq fun t u' pp h => ⟨litTag_get hkl h, fun hm => litTag_get (hms _ hm).2 h rfl⟩
          · cases h
        · cases h
    · cases h
  · cases h
end
def nameLit (s : Nat) (env : Env) : Option Env :=
  match env.get s with
  | .lit e u pp => (match argE.litVal u pp, (bif u.flat then some ([], true) else takeIn (s * 16 + 1) pp.flatten [] true) with
    | some l, some (ms, ok) => bif !(Nat.beq s 0) && okTags (s * 16 + 1) ms (env.put s .dead) then
        some (((absorbAll (s * 16 + 1) ms (env.put s .dead)).map (killIf (Leaf.isRt (s * 16 + 1)))).put s (.val false [.rt e u (s * 16 + 1) false ok true l])) else none
    | _, _ => none)
  | _ => none
section
variable {P : Program} {T : TTab} {n : NS} {w0 w : World} {W : Nat → Prop} {g : Gh} {get : Nat → Ent} {a : Act} {d : Nat}
theorem put_same {a : Act} {s : Nat} : a.put (some s) (a.tmps.getD s undef) = a := by
  cases a with
  | mk tmps defers =>
    simp only [Act.put]
    congr 1
    apply Array.ext_getElem?
    intro j
    rw [Array.getElem?_setIfInBounds]
    by_cases h : s = j
    · subst h
      rw [if_pos rfl]
      by_cases hs : s < tmps.size
      · rw [if_pos hs, Array.getD_eq_getD_getElem?, Array.getElem?_eq_getElem hs]; rfl
      · rw [if_neg hs, Array.getElem?_eq_none (by omega)]
    · rw [if_neg h]
theorem nameLit_sound {s : Nat} {env env' : Env} (hwal : ∀ b, W b → g.al b) (st : St n w0 W g env.get a w) (h : nameLit s env = some env') : ∃ g', g'.al = g.al ∧ St n w0 W g' env'.get a w := by
  unfold nameLit at h
  split at h
  · rename_i e u pp hget
    split at h
    · rename_i l ms ok hl htake
      cases hok : (!(Nat.beq s 0) && okTags (s * 16 + 1) ms (env.put s .dead)) with
      | false => rw [hok] at h; cases h
      | true =>
        rw [hok] at h; simp only [cond_true, Option.some.injEq] at h
        subst h
        have hs0 : s ≠ 0 := by
          simp only [Bool.and_eq_true, Bool.not_eq_true'] at hok
          exact nbeq_ne hok.1
        replace hok : okTags (s * 16 + 1) ms (env.put s .dead) = true := by
          simp only [Bool.and_eq_true] at hok; exact hok.2
        generalize hkk : s * 16 + 1 = k at *
        simp only [okTags, Bool.and_eq_true, List.all_eq_true, Bool.not_eq_true'] at hok
        obtain ⟨⟨hk0, hkl⟩, hms⟩ := hok
        have hk0 := nbeq_ne hk0
        have hkms : k ∉ ms := fun hk => nbeq_ne (hms k hk).1.2 rfl
        have he := st.ent s
        rw [hget] at he
        have hs : n.has s := by
          refine ⟨?_, fun _ => hs0⟩
          rcases Nat.lt_or_ge s n.n with q | q
          · exact q
          · obtain ⟨b, c, bs, h1, _⟩ := he
            rw [Array.getD_eq_getD_getElem?, Array.getElem?_eq_none (by rw [st.sz.1]; exact q)] at h1
            cases h1
        have st0 : St n w0 W g (env.put s .dead).get a w := st.kill fun s' => by
          rw [Env.get_put]
          by_cases q : s' = s
          · rw [if_pos q]; exact .inr rfl
          · rw [if_neg q]; exact .inl rfl
        obtain ⟨st1, ar⟩ := absorbAll_sound hk0 hwal st0 (fun m hm => ⟨nbeq_ne (hms m hm).1.1, nbeq_ne (hms m hm).1.2, (hms m hm).2⟩)
        obtain ⟨b, c, bs, h1, h2, h3, h4, h5, h6, h7⟩ := he
        rw [hkk] at h4 h5
        obtain ⟨r1, r2⟩ := lit_rd h6 hl
        have hz : ∀ (pp : List (List Leaf)) (cs : List Value) (bs : List Nat), PartsB g w.heap u.size pp cs bs → cs.length = pp.length * u.size → ∀ ls ∈ pp, sizes ls = u.size := by
          intro pp
          induction pp with
          | nil => intro cs bs _ _ ls hls; cases hls
          | cons x r ih =>
            rintro cs bs ⟨b1, b2, k1, k2, k3⟩ hl ls hls
            simp only [List.length_cons, Nat.succ_mul] at hl
            rcases List.mem_cons.1 hls with rfl | hls
            · have := k1.length; rw [← this]; simp; omega
            · exact ih _ _ k2 (by simp; omega) ls hls
        have take : (∀ b ∈ bs, g.kd b = .fz ∨ ∃ m ∈ ms, g.kd b = .mu m) ∧ (ok = true → bs.Nodup ∧ ∀ b ∈ bs, g.own b ∈ ms) := by
          cases hf : u.flat with
          | true =>
            rw [hf] at htake; simp only [cond_true, Option.some.injEq, Prod.mk.injEq] at htake
            have : bs = [] := r1.flat fun x cs b hx => hx.flat hf
            subst this; exact ⟨by simp, fun _ => ⟨by simp, by simp⟩⟩
          | false =>
            rw [hf] at htake
            obtain ⟨q1, q2⟩ := takeIn_sound (parts_flat (hz _ _ _ h6 (by simpa using h3)) h6) htake
            exact ⟨q1, fun hh => ⟨(q2 hh).1, fun b hb => ((q2 hh).2 b hb).1⟩⟩
        let g2 : Gh := { Gh.absorbs k ms g with H := fun t => if t = k then a.tmps.getD s undef else (Gh.absorbs k ms g).H t }
        refine ⟨g2, ar.al, ?_⟩
        have hv : a.tmps.getD s undef = .slice (some ⟨b, 0, none⟩) l.length l.length := by rw [h1, r2]
        have hlp : 0 < l.length := by
          rcases Nat.eq_zero_or_pos l.length with q | q
          · rw [q] at r2; omega
          · exact q
        have hlf : LeafB g2 w.heap (.rt e u k false ok true l) [a.tmps.getD s undef] ([b] ++ bs) := by
          refine ⟨_, some b, bs, rfl, rfl, fun _ => by simp [g2], fun _ => ?_, .inr ⟨b, 0, l.length, c, (0, 0), hv, rfl, ⟨Nat.le_refl _, hlp⟩, ⟨_, h2⟩, by rw [r2]; omega, by simpa using r1⟩, fun y hy => ?_, fun y hy => ?_, fun hh => ⟨fun y hy => ?_, (take.2 hh).1⟩⟩
          · rw [hv]
            constructor
            · intro q; cases q
            · intro q; subst q; simp at r2; omega
          · rcases take.1 y hy with q | ⟨m, q1, q2⟩
            · exact ar.fz y q
            · exact ar.inn y m q2 q1
          · injection hy with hy; subst hy
            exact ⟨ar.mu b k h4 hkms, by show (Gh.absorbs k ms g).own b = k; rw [ar.own' b (by rw [h5]; exact hkms)]; exact h5, c, _, h2⟩
          · exact ar.own y ((take.2 hh).2 y hy)
        have key := st1.putK (d := s) (g' := g2) (w' := w) (k := k) (e := .val false [.rt e u k false ok true l]) (v := a.tmps.getD s undef) hs
          ⟨Nat.le_refl _, fun _ _ _ => rfl, fun _ _ => rfl, fun _ _ => rfl, fun t ht => if_neg ht, rfl, rfl⟩ ⟨st1.inv.size, st1.inv.old, st1.inv.kd, st1.inv.no, st1.inv.al, st1.inv.own, st1.inv.wr⟩ rfl ⟨rfl, Nat.le_refl _⟩ rfl (by rw [litTag_all]; exact hkl)
          (LeafB.val1 hlf (by rw [hv]; rfl) s)
        rw [put_same] at key; exact key
    · cases h
  · cases h
end
inductive StepRes where
  | ok (c : Bool) (env : Env)
  | callr (rs : List Ty) (x : Option (Ress rs)) (mk : Ress rs → Env)
def StepRes.get : StepRes → Option Env
  | .ok c env => bif c then some env else none
  | .callr _ x mk => match x with | some r => some (mk r) | none => none
def flatAll : List Leaf → Bool
  | [] => true
  | .fz t _ _ _ :: r => t.flat && flatAll r
  | .rt _ _ _ _ _ _ _ :: _ => false
def oneRt : List Leaf → Option (TypeId × Ty × Nat)
  | [] => none
  | .fz t _ _ _ :: r => bif t.flat then oneRt r else none
  | .rt e u tag sub lin _ _ :: r => bif !sub && lin && flatAll r && !(Nat.beq tag 0) then some (e, u, tag) else none
def pickMany (e : TypeId) (u : Ty) : (t : Ty) → t.den → List Leaf → List u.den
  | .pair a b, y, .fz _ _ _ _ :: ls => pickMany e u b y.2 ls
  | .pair a b, y, .rt _ _ _ _ _ _ _ :: ls => (Ty.cast (.slice e u) y.1).getD []
  | _, _, _ => []
def pickV (e : TypeId) (u : Ty) (t : Ty) (y : t.den) (ls : List Leaf) : List u.den :=
  match ls with
  | [l] => bif l.ty.eqb t then (Ty.cast (.slice e u) y).getD [] else pickMany e u t y ls
  | _ => pickMany e u t y ls
def Leaf.meets (e : TypeId) (u : Ty) (r : Nat) : Leaf → Bool
  | .fz t reg lin _ => !u.flat && !t.flat && (Nat.beq reg r || (Nat.beq reg 0 && !lin))
  | .rt e' u' tag sub lin _ _ => bif Nat.beq tag r then sub || !((Ty.slice e' u').eqb (.slice e u)) else !u.flat && !lin
def Leaf.remark (e : TypeId) (u : Ty) (r : Nat) (x : List u.den) : Leaf → Leaf
  | .fz t reg lin v => .fz t reg lin v
  | .rt e' u' tag sub lin st v => bif Nat.beq tag r then .rt e u r false lin false x else .rt e' u' tag sub lin st v
def outE (e : TypeId) (u : Ty) (r : Nat) : Ent → Bool
  | .box true _ => !u.flat
  | .eref l _ _ => l.isRt r
  | _ => false
def killM (e : TypeId) (u : Ty) (r : Nat) (x : List u.den) (en : Ent) : Ent := bif en.any (Leaf.meets e u r) || outE e u r en then .dead else en.mapL (Leaf.remark e u r x)
def markEnv (env : Env) (d : Option Nat) (e : TypeId) (u : Ty) (r : Nat) (k : IntKind) (x : List u.den) (m : Int) : Env :=
  match d with
  | some d => (env.map (killM e u r x)).put d (intE k m)
  | none => env.map (killM e u r x)
def sortEnv (env : Env) (d : Option Nat) (e : TypeId) (u : Ty) (r : Nat) (x : List u.den) : Env :=
  match d with
  | some d => (env.map (killM e u r x)).put d .dead
  | none => env.map (killM e u r x)
def markC (env : Env) (d : Option Nat) (x k : Operand) : (ps : List PK) → (rs : List Ty) → (Args ps → Option (Ress rs)) → Option StepRes
  | [.v t, .v (.int i)], [t', .int i'], f =>
    (match x with
    | .tmp s => (match env.get s, opE env.get k with
      | .val agg ls, some ek => (match valAs t ls, asI ek, oneRt ls with
        | some v, some (i2, m), some (e, u, r) => bif t.eqb t' && kEq i i2 && ((agg && t.agg) || (!agg && !t.agg)) && !(litTag r env) then
            some (.callr [t', .int i'] (f (v, m, ())) fun y => markEnv env d e u r i' (pickV e u t' y.1 ls) y.2.1) else none
        | _, _, _ => none)
      | _, _ => none)
    | _ => none)
  | [.v t, .fn q], [t'], f =>
    (match x with
    | .tmp s => (match env.get s, opE env.get k with
      | .val agg ls, some (.fn q' []) => (match valAs t ls, oneRt ls with
        | some v, some (e, u, r) => bif t.eqb t' && Nat.beq q q' && ((agg && t.agg) || (!agg && !t.agg)) && !(litTag r env) then
            some (.callr [t'] (f (v, (), ())) fun y => sortEnv env d e u r (pickV e u t' y.1 ls)) else none
        | _, _ => none)
      | _, _ => none)
    | _ => none)
  | _, _, _ => none
def markE (K : CTab) (env : Env) (d : Option Nat) (f : Nat) (x k : Operand) : Option StepRes :=
  match ctr K f with
  | some C => bif Nat.beq C.inp 1 then markC env d x k C.ps C.rs C.f else none
  | none => none
section
variable {P : Program} {T : TTab} {K : CTab} {n : NS} {w0 w : World} {W : Nat → Prop} {g : Gh} {a : Act} {d : Option Nat}
theorem eqb_rfl' : ∀ t : Ty, t.eqb t = true := by
  intro t
  induction t with
  | int k => cases k <;> rfl
  | bool => rfl
  | unit => rfl
  | pair a b iha ihb => simp only [Ty.eqb, iha, ihb, Bool.and_self]
  | arr n t ih => simp only [Ty.eqb, ih, Nat.beq_refl, Bool.and_self]
  | slice e t ih => simp only [Ty.eqb, ih, Nat.beq_refl, Bool.and_self]
theorem cast_some {t : Ty} (x : t.den) : Ty.cast t x = some x := by
  unfold Ty.cast; rw [dif_pos (eqb_rfl' t)]
theorem slR_flat {h : Mem} {e : TypeId} {u : Ty} {l : List u.den} {hd : Value} {blk : Option Nat} {bs : List Nat} (hu : u.flat = true) (hs : SlR h e u.size (Rd h u) l hd blk bs) : bs = [] := by
  rcases hs with ⟨_, _, _, _, q⟩ | ⟨b, o, cap, c, fr, _, _, _, _, _, q⟩
  · exact q
  · exact RdL.flat (fun x cs b hr => hr.flat hu) q
theorem slR_blk {h h' : Mem} {e e' : TypeId} {u u' : Ty} {l : List u.den} {l' : List u'.den} {hd : Value} {blk blk' : Option Nat} {bs bs' : List Nat} (hs : SlR h e u.size (Rd h u) l hd blk bs) (hs' : SlR h' e' u'.size (Rd h' u') l' hd blk' bs') : blk = blk' := by
  rcases hs with ⟨p, q1, _, q2, _⟩ | ⟨b, o, cap, c, fr, q1, q2, ⟨_, q3⟩, _⟩ <;> rcases hs' with ⟨p', r1, _, r2, _⟩ | ⟨b', o', cap', c', fr', r1, r2, ⟨_, r3⟩, _⟩
  · rw [q2, r2]
  · rw [q1] at r1; injection r1 with _ _ r1; omega
  · rw [q1] at r1; injection r1 with _ _ r1; omega
  · rw [q1] at r1; injection r1 with r1 _ _; injection r1 with r1; injection r1 with r1 _ _; rw [q2, r2, r1]
theorem flatAll_none {h : Mem} : ∀ {ls : List Leaf} {cs : List Value} {bs : List Nat}, LeavesB g h ls cs bs → flatAll ls = true → bs = []
  | [], cs, bs, ⟨_, h2⟩, _ => h2
  | .fz t reg lin v :: r, cs, bs, ⟨b1, b2, h1, h2, h3⟩, hf => by
    simp only [flatAll, Bool.and_eq_true] at hf
    rw [h3, h1.1.flat hf.1, flatAll_none h2 hf.2]; rfl
  | .rt _ _ _ _ _ _ _ :: r, cs, bs, _, hf => by cases hf
theorem flatAll_ty : ∀ {t : Ty} {ls : List Leaf} {x : t.den}, valMany t ls = some x → flatAll ls = true → t.flat = true := by
  intro t
  induction t with
  | unit => intro ls x _ _; rfl
  | pair a b _ ihb =>
    intro ls x hv hf
    cases ls with
    | nil => cases hv
    | cons l r =>
      simp only [valMany] at hv
      split at hv
      · rename_i p q hp hq
        obtain ⟨e, _⟩ := Ty.cast_eq hp
        cases l with
        | fz t reg lin v =>
          simp only [flatAll, Bool.and_eq_true] at hf
          have e : t = a := e
          subst e
          simp only [Ty.flat, hf.1, ihb hq hf.2, Bool.and_self]
        | rt _ _ _ _ _ _ _ => cases hf
      · cases hv
  | _ => intro ls x hv; cases ls <;> cases hv
theorem oneRt_many {h h' : Mem} {e : TypeId} {u : Ty} {r : Nat} : ∀ {t : Ty} {ls : List Leaf} {x y : t.den} {cs : List Value} {bs bs' : List Nat}, valMany t ls = some x → oneRt ls = some (e, u, r) → LeavesB g h ls cs bs → Rd h' t y cs bs' →
    r ≠ 0 ∧ ∃ st v hd, LeafB g h (.rt e u r false true st v) [hd] bs ∧ Rd h' (.slice e u) (pickMany e u t y ls) [hd] bs' := by
  intro t
  induction t with
  | pair a b _ ihb =>
    intro ls x y cs bs bs' hv ho hl hr
    cases ls with
    | nil => cases hv
    | cons l rest =>
      simp only [valMany] at hv
      split at hv
      · rename_i p q hp hq
        obtain ⟨ea, _⟩ := Ty.cast_eq hp
        obtain ⟨b1, b2, h1, h2, h3⟩ := hl
        obtain ⟨c1, c2, r1, r2, r3⟩ := hr
        cases l with
        | fz t reg lin v =>
          have ea : t = a := ea
          subst ea
          simp only [oneRt] at ho
          cases hf : t.flat with
          | false => rw [hf] at ho; cases ho
          | true =>
            rw [hf] at ho; simp only [cond_true] at ho
            have e1 : b1 = [] := h1.1.flat hf
            have e2 : c1 = [] := r1.flat hf
            obtain ⟨k0, st, v', hd, k1, k2⟩ := ihb hq ho h2 r2
            exact ⟨k0, st, v', hd, by rw [h3, e1]; exact k1, by rw [r3, e2]; exact k2⟩
        | rt e' u' tag sub lin st v =>
          simp only [oneRt] at ho
          cases hc : (!sub && lin && flatAll rest && !(Nat.beq tag 0)) with
          | false => rw [hc] at ho; cases ho
          | true =>
            rw [hc] at ho; simp only [cond_true, Option.some.injEq, Prod.mk.injEq] at ho
            obtain ⟨rfl, rfl, rfl⟩ := ho
            simp only [Bool.and_eq_true, Bool.not_eq_true'] at hc
            obtain ⟨⟨⟨s1, s2⟩, s3⟩, s4⟩ := hc
            subst s1; subst s2
            have ea : Ty.slice e' u' = a := ea
            subst ea
            have e1 : b2 = [] := flatAll_none h2 s3
            have e2 : c2 = [] := r2.flat (flatAll_ty hq s3)
            obtain ⟨hd, blk, bs2, g1, g2⟩ := h1
            have g1 : cs.take 1 = [hd] := g1
            refine ⟨nbeq_ne s4, st, v, hd, by rw [h3, e1, List.append_nil]; exact ⟨hd, blk, bs2, rfl, g2⟩, ?_⟩
            have r1 : Rd h' (.slice e' u') y.1 [hd] c1 := by rw [← g1]; exact r1
            rw [r3, e2, List.append_nil]
            have : pickMany e' u' (.pair (.slice e' u') b) y (.rt e' u' tag false true st v :: rest) = y.1 := by
              simp only [pickMany]
              have : Ty.cast (.slice e' u') (a := .slice e' u') y.1 = some y.1 := cast_some _
              rw [this]; rfl
            rw [this]; exact r1
      · cases hv
  | unit => intro ls x y cs bs bs' hv ho; cases ls with | nil => cases ho | cons l r => cases hv
  | _ => intro ls x y cs bs bs' hv; cases ls <;> cases hv
theorem oneRt_as {h h' : Mem} {e : TypeId} {u : Ty} {r : Nat} {t : Ty} {ls : List Leaf} {x y : t.den} {cs : List Value} {bs bs' : List Nat} (hv : valAs t ls = some x) (ho : oneRt ls = some (e, u, r)) (hl : LeavesB g h ls cs bs) (hr : Rd h' t y cs bs') :
    r ≠ 0 ∧ ∃ st v hd, LeafB g h (.rt e u r false true st v) [hd] bs ∧ Rd h' (.slice e u) (pickV e u t y ls) [hd] bs' := by
  have many : valMany t ls = some x → pickV e u t y ls = pickMany e u t y ls → r ≠ 0 ∧ ∃ st v hd, LeafB g h (.rt e u r false true st v) [hd] bs ∧ Rd h' (.slice e u) (pickV e u t y ls) [hd] bs' := by
    intro hm he
    rw [he]; exact oneRt_many hm ho hl hr
  unfold valAs at hv
  split at hv
  · rename_i l
    cases hq : l.ty.eqb t with
    | false => rw [hq] at hv; exact many hv (by simp only [pickV, hq, cond_false])
    | true =>
      rw [hq] at hv; simp only [cond_true] at hv
      cases l with
      | fz t' reg lin v =>
        simp only [oneRt] at ho
        cases hf : t'.flat <;> rw [hf] at ho <;> cases ho
      | rt e' u' tag sub lin st v =>
        simp only [oneRt] at ho
        cases hc : (!sub && lin && flatAll [] && !(Nat.beq tag 0)) with
        | false => rw [hc] at ho; cases ho
        | true =>
          rw [hc] at ho; simp only [cond_true, Option.some.injEq, Prod.mk.injEq] at ho
          obtain ⟨rfl, rfl, rfl⟩ := ho
          simp only [Bool.and_eq_true, Bool.not_eq_true'] at hc
          obtain ⟨⟨⟨s1, s2⟩, s3⟩, s4⟩ := hc
          subst s1; subst s2
          have ea : Ty.slice e' u' = t := Ty.eq_of_eqb hq
          subst ea
          have hl := hl.one
          obtain ⟨hd, blk, bs2, g1, g2⟩ := hl
          subst g1
          refine ⟨nbeq_ne s4, st, v, hd, ⟨hd, blk, bs2, rfl, g2⟩, ?_⟩
          have : pickV e' u' (.slice e' u') y [.rt e' u' tag false true st v] = y := by
            simp only [pickV, hq, cond_true]
            rw [cast_some]; rfl
          rw [this]; exact hr
  · rename_i hne
    refine many hv ?_
    unfold pickV
    split
    · rename_i l; exact absurd rfl (hne l)
    · rfl
structure Marked (g : Gh) (e : TypeId) (u : Ty) (r : Nat) (x : List u.den) (hd : Value) (ba : List Nat) (h h' : Mem) : Prop where
  r0 : r ≠ 0
  lf : ∃ bs, LeafB g h' (.rt e u r false true false x) [hd] bs
  H : g.H r = hd
  size : h.size ≤ h'.size
  blk : ∀ b, b < h.size → b ∉ ba → h'[b]? = h[b]?
  inn : ∀ b ∈ ba, (g.kd b = .mu r ∨ (u.flat = false ∧ g.kd b = .fz)) ∧ g.own b = r
theorem remark_ty {e : TypeId} {u : Ty} {r : Nat} {x : List u.den} {l : Leaf} (h : l.meets e u r = false) : (l.remark e u r x).ty = l.ty := by
  cases l with
  | fz t reg lin v => rfl
  | rt e' u' tag sub lin st v =>
    simp only [Leaf.remark]
    cases hq : Nat.beq tag r with
    | false => rfl
    | true =>
      simp only [Leaf.meets, hq, cond_true, Bool.or_eq_false_iff, Bool.not_eq_false'] at h
      exact (Ty.eq_of_eqb h.2).symm
variable {e : TypeId} {u : Ty} {r : Nat} {x : List u.den} {hd : Value} {ba : List Nat} {h h' : Mem}
theorem LeafB.marked (m : Marked g e u r x hd ba h h') {l : Leaf} {cs : List Value} {bs : List Nat} (hl : LeafB g h l cs bs) (hm : l.meets e u r = false) : ∃ bs', LeafB g h' (l.remark e u r x) cs bs' := by
  cases l with
  | fz t reg lin v =>
    refine ⟨bs, hl.same (fun b hb => m.blk b (hl.lt b hb) fun hba => ?_) (fun _ _ => rfl) (fun _ _ => rfl) (fun _ _ _ _ _ _ _ _ _ => rfl)⟩
    obtain ⟨k1, k2⟩ := m.inn b hba
    have k3 := hl.2.1 b hb
    rcases k1 with k1 | ⟨k1, _⟩
    · rw [k3] at k1; cases k1
    · simp only [Leaf.meets, k1, Bool.not_false, Bool.true_and] at hm
      cases hf : t.flat with
      | true => have : bs = [] := hl.1.flat hf; subst this; cases hb
      | false =>
        rw [hf] at hm
        simp only [Bool.not_false, Bool.true_and, Bool.or_eq_false_iff, Bool.and_eq_false_iff, Bool.not_eq_false'] at hm
        obtain ⟨m1, m2⟩ := hm
        by_cases q0 : reg = 0
        · have hlin : lin = true := by
            rcases m2 with z | z
            · exact absurd q0 (nbeq_ne z)
            · exact z
          have := (hl.2.2.2 hlin).2 q0 b hb
          exact m.r0 (k2.symm.trans this)
        · have := hl.2.2.1 q0 b hb
          exact nbeq_ne m1 (this.symm.trans k2)
  | rt e' u' tag sub lin st v =>
    simp only [Leaf.remark]
    cases hq : Nat.beq tag r with
    | true =>
      simp only [Leaf.meets, hq, cond_true, Bool.or_eq_false_iff, Bool.not_eq_false'] at hm
      obtain ⟨s1, s2⟩ := hm
      subst s1
      have := Nat.eq_of_beq_eq_true hq; subst this
      have ee := Ty.eq_of_eqb s2
      injection ee with e1 e2
      subst e1; subst e2
      obtain ⟨hd', blk, bs', rfl, _, g3, _⟩ := hl
      have : hd' = hd := (g3 rfl).trans m.H
      subst this
      obtain ⟨bf, hd2, blk2, bs2, k1, k2, k3, _, k5, k6, k7, k8⟩ := m.lf
      exact ⟨bf, hd2, blk2, bs2, k1, k2, k3, fun q => (by cases q), k5, k6, k7, fun _ => k8 rfl⟩
    | false =>
      have hne := nbeq_ne hq
      simp only [Leaf.meets, hq, cond_false] at hm
      refine ⟨bs, hl.same (fun b hb => m.blk b (hl.lt b hb) fun hba => ?_) (fun _ _ => rfl) (fun _ _ => rfl) (fun _ _ _ _ _ _ _ _ _ => rfl)⟩
      obtain ⟨k1, k2⟩ := m.inn b hba
      obtain ⟨hd', blk, bs', rfl, rfl, _, _, _, h4, h5, h6⟩ := hl
      rcases List.mem_append.1 hb with hb | hb
      · have := (h5 b (by simpa using hb)).1
        rcases k1 with k1 | ⟨_, k1⟩
        · rw [this] at k1; injection k1 with k1; exact hne k1
        · rw [this] at k1; cases k1
      · have k3 := h4 b hb
        rcases k1 with k1 | ⟨k1, _⟩
        · rw [k3] at k1; cases k1
        · rw [k1] at hm
          simp only [Bool.not_false, Bool.true_and, Bool.not_eq_false'] at hm
          exact hne (((h6 hm).1 b hb).symm.trans k2)
theorem LeavesB.marked (m : Marked g e u r x hd ba h h') : ∀ {ls : List Leaf} {cs : List Value} {bs : List Nat}, LeavesB g h ls cs bs → ls.any (Leaf.meets e u r) = false → ∃ bs', LeavesB g h' (ls.map (Leaf.remark e u r x)) cs bs'
  | [], _, _, hl, _ => ⟨[], hl.1, rfl⟩
  | l :: r, cs, bs, ⟨b1, b2, h1, h2, h3⟩, hd => by
    simp only [List.any_cons, Bool.or_eq_false_iff] at hd
    obtain ⟨c1, q1⟩ := h1.marked m hd.1
    obtain ⟨c2, q2⟩ := LeavesB.marked m h2 hd.2
    exact ⟨c1 ++ c2, c1, c2, by rw [remark_ty hd.1]; exact q1, by rw [remark_ty hd.1]; exact q2, rfl⟩
theorem PartsB.marked (m : Marked g e u r x hd ba h h') {k : Nat} : ∀ {ls : List (List Leaf)} {cs : List Value} {bs : List Nat}, PartsB g h k ls cs bs → (ls.any fun l => l.any (Leaf.meets e u r)) = false → ∃ bs', PartsB g h' k (ls.map fun l => l.map (Leaf.remark e u r x)) cs bs'
  | [], _, _, hl, _ => ⟨[], hl.1, rfl⟩
  | l :: r, cs, bs, ⟨b1, b2, h1, h2, h3⟩, hd => by
    simp only [List.any_cons, Bool.or_eq_false_iff] at hd
    obtain ⟨c1, q1⟩ := h1.marked m hd.1
    obtain ⟨c2, q2⟩ := PartsB.marked m h2 hd.2
    exact ⟨c1 ++ c2, c1, c2, q1, q2, rfl⟩
theorem ValR.marked (m : Marked g e u r x hd ba h h') {agg : Bool} {ls : List Leaf} {v : Value} (hv : ValR g h agg ls v) (hd : ls.any (Leaf.meets e u r) = false) : ValR g h' agg (ls.map (Leaf.remark e u r x)) v := by
  obtain ⟨cs, bs, h1, h2, h3⟩ := hv
  obtain ⟨c, q⟩ := h3.marked m hd
  exact ⟨cs, c, h1, h2, q⟩
theorem ValsR.marked (m : Marked g e u r x hd ba h h') : ∀ {ls : List (Bool × List Leaf)} {vs : List Value}, ValsR g h ls vs → (ls.any fun p => p.2.any (Leaf.meets e u r)) = false → ValsR g h' (ls.map fun p => (p.1, p.2.map (Leaf.remark e u r x))) vs
  | [], _, hl, _ => hl
  | (agg, ls) :: r, vs, ⟨v, vs', h1, h2, h3⟩, hd => by
    simp only [List.any_cons, Bool.or_eq_false_iff] at hd
    exact ⟨v, vs', h1, h2.marked m hd.1, ValsR.marked m h3 hd.2⟩
theorem EntR.marked (m : Marked g e u r x hd ba h h') {s : Nat} {en : Ent} {v : Value} (he : EntR g h s en v) (hd : (en.any (Leaf.meets e u r) || outE e u r en) = false) (hl : ∀ t u' pp, en = .lit t u' pp → s * 16 + 1 ≠ r) : EntR g h' s (en.mapL (Leaf.remark e u r x)) v := by
  have lt : ∀ {b : Nat} {o : Obj}, h[b]? = some o → b < h.size := fun {b o} hb => by
    rcases Nat.lt_or_ge b h.size with hlt | hge
    · exact hlt
    · rw [Array.getElem?_eq_none hge] at hb; cases hb
  simp only [Bool.or_eq_false_iff] at hd
  obtain ⟨hd, hro⟩ := hd
  cases en with
  | dead => trivial
  | val agg ls => exact ValR.marked m he hd
  | lit t u' pp =>
    have hk := hl t u' pp rfl
    obtain ⟨b, c, bs, h1, h2, h3, h4, h5, h6, h7⟩ := he
    obtain ⟨c6, q6⟩ := h6.marked m hd
    have hnb : b ∉ ba := fun q => by
      rcases (m.inn b q).1 with k | ⟨_, k⟩
      · rw [h4] at k; injection k with k; exact hk k
      · rw [h4] at k; cases k
    exact ⟨b, c, c6, by simpa using h1, by rw [m.blk b (lt h2) hnb]; exact h2, by simpa using h3, h4, h5, q6, by simpa using h7⟩
  | box ro ls =>
    obtain ⟨b, c, e', fr, bs, h1, h2, h3, h4, h5, h6⟩ := he
    obtain ⟨c3, q3⟩ := h3.marked m hd
    have hnb : b ∉ ba := fun q => by
      rcases (m.inn b q).1 with k | ⟨k', k⟩
      · cases ro with
        | false => rw [(h5 rfl).1] at k; cases k
        | true => rcases h6 rfl with z | z <;> rw [z] at k <;> cases k
      · cases ro with
        | false => rw [(h5 rfl).1] at k; cases k
        | true => simp [outE, k'] at hro
    exact ⟨b, c, e', fr, c3, h1, by rw [m.blk b (lt h2) hnb]; exact h2, q3, h4, h5, h6⟩
  | ref s' base t p => exact he
  | eref l i p =>
    obtain ⟨bs, b, o, k, cap, h1, h2⟩ := he
    obtain ⟨c1, q1⟩ := h1.marked m hd
    have : l.remark e u r x = l := by
      cases l with
      | fz t reg lin v => rfl
      | rt e' u' tag sub lin st v =>
        have hq : Nat.beq tag r = false := hro
        simp only [Leaf.remark, hq, cond_false]
    rw [this] at q1
    simp only [Ent.mapL]
    rw [this]
    exact ⟨c1, b, o, k, cap, q1, h2⟩
  | fn f caps => exact he
  | tup ls => obtain ⟨vs, h1, h2⟩ := he; exact ⟨vs, h1, h2.marked m hd⟩
  | mp d kt vt m' =>
    obtain ⟨h0, es, c, h1, h2, h3⟩ := he
    exact ⟨h0, es, c, by rw [m.blk _ (lt h1) (fun q => by rcases (m.inn _ q).1 with k | ⟨_, k⟩ <;> (rw [h2] at k; cases k))]; exact h1, h2, h3⟩
  | ment d kt vt k' =>
    obtain ⟨z, n, h0, es, c, e, h1, h2, h3⟩ := he
    exact ⟨z, n, h0, es, c, e, by rw [m.blk _ (lt h1) (fun q => by rcases (m.inn _ q).1 with k | ⟨_, k⟩ <;> (rw [h2] at k; cases k))]; exact h1, h2, h3⟩
  | stamp d kt vt k' =>
    obtain ⟨n, h0, es, c, e, h1, h2, h3⟩ := he
    exact ⟨n, h0, es, c, e, by rw [m.blk _ (lt h1) (fun q => by rcases (m.inn _ q).1 with k | ⟨_, k⟩ <;> (rw [h2] at k; cases k))]; exact h1, h2, h3⟩
  | it b o =>
    obtain ⟨h0, h1, h2, h3, h4⟩ := he
    exact ⟨h0, by rw [m.blk _ (lt h1) (fun q => m.r0 ((m.inn _ q).2.symm.trans h4))]; exact h1, h2, h3, h4⟩
theorem valAs_one {h : Mem} {t : Ty} {ls : List Leaf} {v : Value} {y : t.den} (hv : ValR g h t.agg ls v) (hy : valAs t ls = some y) : ∃ bs, LeavesB g h ls v.cells.toList bs ∧ OneV h t y v bs := by
  obtain ⟨bs, hl⟩ := ValR.cells hv
  exact ⟨bs, hl, valAs_rd hy hl, (ValR.shape hv).1, (ValR.shape hv).2⟩
theorem one_int {h : Mem} {k : IntKind} {m : Int} (hm : (Lit.int k m).wf = true) : OneV h (.int k) m (.int k m) [] :=
  ⟨⟨rfl, hm, rfl⟩, fun q => (by cases q), fun _ => rfl⟩
theorem mark_St {env : Env} {w' : World} (st : St n w0 W g env.get a w) (m : Marked g e u r x hd ba w.heap w'.heap) (hw : ∀ b ∈ ba, ∃ c e, w'.heap[b]? = some (.cells c e (0, 0)))
    (os : w'.os = w.os) (tape : Tp w' w) (output : w'.output = w.output) (hl : litTag r env = false) : St n w0 W g (env.map (killM e u r x)).get a w' where
  inv := by
    have i := st.inv
    refine ⟨Nat.le_trans i.size m.size, fun b hb hW => ?_, fun b => ?_, i.no, i.al, fun b hb => ?_, fun b hb => ?_⟩
    · have hnb : b ∉ ba := fun q => by
        have ho := (m.inn b q).2
        rcases (i.own b (by rw [ho]; exact m.r0)).2 with q | q
        · omega
        · exact hW q
      rw [m.blk b (Nat.lt_of_lt_of_le hb i.size) hnb]; exact i.old b hb hW
    · rcases i.kd b with q | q | q
      · exact .inl q
      · exact .inr (.inl q)
      · exact .inr (.inr ⟨Nat.lt_of_lt_of_le q.1 m.size, q.2⟩)
    · have := i.own b hb; exact ⟨Nat.lt_of_lt_of_le this.1 m.size, this.2⟩
    · by_cases q : b ∈ ba
      · exact hw b q
      · rw [m.blk b (i.own b hb).1 q]; exact i.wr b hb
  ent s' := by
    rw [Env.get_map _ rfl]
    unfold killM
    cases hq : ((env.get s').any (Leaf.meets e u r) || outE e u r (env.get s')) with
    | true => trivial
    | false => exact (st.ent s').marked m hq fun t u' pp h => litTag_get hl h
  sz := st.sz
  df := st.df
  os := os.trans st.os
  tape := tape.trans st.tape
  output := output.trans st.output
theorem marked_leaf {st : Bool} {v : List u.den} {bs : List Nat} (hl : LeafB g h (.rt e u r false true st v) [hd] ba) (hr : Rd h' (.slice e u) x [hd] bs) (hn : bs.Nodup) (hs : ∀ b ∈ bs, b ∈ ba) (hw : ∀ b ∈ ba, ∃ c e, h'[b]? = some (.cells c e (0, 0))) :
    LeafB g h' (.rt e u r false true false x) [hd] bs ∧ g.H r = hd ∧ ∀ b ∈ ba, (g.kd b = .mu r ∨ (u.flat = false ∧ g.kd b = .fz)) ∧ g.own b = r := by
  obtain ⟨hd', blk, bs', k1, k2, k3, _, k5, k6, k7, k8⟩ := hl
  injection k1 with k1 _
  subst k1
  obtain ⟨hd2, blk2, bs2, j1, j2, j3⟩ := hr
  injection j1 with j1 _
  subst j1
  have := slR_blk k5 j2
  subst this
  obtain ⟨l1, l2⟩ := k8 rfl
  have hn2 := List.nodup_append.1 (j3 ▸ hn)
  have sub2 : ∀ b ∈ bs2, b ∈ bs' := fun b hb => by
    have q := hs b (by rw [j3]; exact List.mem_append_right _ hb)
    rw [k2] at q
    rcases List.mem_append.1 q with q | q
    · exact absurd rfl (hn2.2.2 b q b hb)
    · exact q
  have inn : ∀ b ∈ ba, (g.kd b = .mu r ∨ (u.flat = false ∧ g.kd b = .fz)) ∧ g.own b = r := by
    intro b hb
    rw [k2] at hb
    rcases List.mem_append.1 hb with q | q
    · obtain ⟨z1, z2, _⟩ := k7 b (by simpa using q); exact ⟨.inl z1, z2⟩
    · refine ⟨.inr ⟨?_, k6 b q⟩, l1 b q⟩
      cases hu : u.flat with
      | false => rfl
      | true => have := slR_flat hu k5; subst this; cases q
  refine ⟨⟨hd, blk, bs2, rfl, j3, k3, fun q => (by cases q), j2, fun b hb => k6 b (sub2 b hb), fun b hb => ?_, fun _ => ⟨fun b hb => l1 b (sub2 b hb), hn2.2.1⟩⟩, (k3 rfl).symm, inn⟩
  · obtain ⟨z1, z2, _⟩ := k7 b hb
    refine ⟨z1, z2, ?_⟩
    have hm : b ∈ ba := by rw [k2, hb]; simp
    rcases j2 with ⟨_, _, _, q, _⟩ | ⟨b', o, cap, c, fr, _, q1, _, q2, _⟩
    · rw [hb] at q; cases q
    · rw [hb] at q1; injection q1 with q1; subst q1
      obtain ⟨c', e', q3⟩ := hw b hm
      exact ⟨c', e', q3⟩
theorem leaf_nodup {st : Bool} {v : List u.den} (hl : LeafB g h (.rt e u r false true st v) [hd] ba) : ba.Nodup ∧ ∀ b ∈ ba, g.own b = r := by
  obtain ⟨hd', blk, bs', _, k2, _, _, _, k6, k7, k8⟩ := hl
  obtain ⟨l1, l2⟩ := k8 rfl
  rw [k2]
  refine ⟨List.nodup_append.2 ⟨by cases blk <;> simp, l2, fun p hp q hq e => ?_⟩, fun b hb => ?_⟩
  · subst e
    have := (k7 p (by simpa using hp)).1
    rw [k6 p hq] at this; cases this
  · rcases List.mem_append.1 hb with q | q
    · exact (k7 b (by simpa using q)).2.1
    · exact l1 b q
theorem mark_sound {env env' : Env} {f : Nat} {x k : Operand} {res : StepRes} (hK : KOK P K) (st : St n w0 W g env.get a w) (hd : ∀ q, d = some q → n.has q) (he : markE K env d f x k = some res) (hr : res.get = some env') :
    (∃ fn, P.funcs[f]? = some fn ∧ fn.name ≠ "runtime.NumGoroutine" ∧ fn.body.isNone = false) ∧
    Calls P f #[a.eval x, a.eval k] w fun e w' => ∃ v, e = .returned v ∧ St n w0 W g env'.get (a.put d v) w' := by
  unfold markE at he
  split at he
  · rename_i C hC
    obtain ⟨hok0, hok, hok2, hfn⟩ := hK _ _ hC
    clear hok0 hok2
    refine ⟨hfn, ?_⟩
    obtain ⟨ps, rs, fresh, st', inp, F⟩ := C
    cases hinp : Nat.beq inp 1 with
    | false => simp only [hinp] at he; cases he
    | true =>
      replace hok := hok (Nat.eq_of_beq_eq_true hinp)
      simp only [hinp, cond_true] at he
      unfold markC at he
      split at he
      · rename_i t i t' i' F
        split at he
        · rename_i s
          split at he
          · rename_i agg ls ek hs hk
            split at he
            · rename_i v i2 m el u r hv hi hreg
              cases hq : (t.eqb t' && kEq i i2 && ((agg && t.agg) || (!agg && !t.agg)) && !(litTag r env)) with
              | false => rw [hq] at he; cases he
              | true =>
                rw [hq] at he; simp only [cond_true, Option.some.injEq] at he; subst he
                simp only [Bool.and_eq_true, Bool.not_eq_true'] at hq
                obtain ⟨⟨⟨q1, q2⟩, q3⟩, q4⟩ := hq
                have := Ty.eq_of_eqb q1; subst this
                have := kEq_eq q2; subst this
                have hagg : agg = t.agg := by cases agg <;> cases hta : t.agg <;> simp [hta] at q3 <;> rfl
                simp only [StepRes.get] at hr
                split at hr
                · rename_i y hy
                  injection hr with hr
                  have e0 := st.ent s
                  rw [hs] at e0
                  obtain ⟨bs, l1, l2⟩ := valAs_one (t := t) (by rw [← hagg]; exact e0) hv
                  obtain ⟨p1, stt, v0, hd0, p2, p3⟩ := oneRt_as hv hreg l1 l2.1
                  obtain ⟨p4, p5⟩ := leaf_nodup p2
                  obtain ⟨s2, k1, _⟩ := opE_sound st.ent hk
                  obtain ⟨k2, k3⟩ := asI_inv k1 hi
                  have hav : ArgsV w.heap [.v t, .v (.int i)] (v, m, ()) [a.tmps.getD s undef, .int i m] bs :=
                    ⟨_, _, bs, [], rfl, by simp, l2, _, _, [], [], rfl, rfl, one_int k3, rfl, rfl⟩
                  have := hok (v, m, ()) y hy w _ bs hav p4 (fun b hb => st.inv.wr b (by rw [p5 b hb]; exact p1))
                  have ex : (#[a.eval (.tmp s), a.eval k] : Array Value) = [a.tmps.getD s undef, .int i m].toArray := by rw [k2]; rfl
                  rw [ex]
                  refine this.mono ?_
                  rintro e w' ⟨v0', rv, bf, z1, rfl, z2, ⟨zn, zs⟩, z3, z4, z5, z6, z7, z8⟩
                  simp only [List.head?_cons, Option.some.injEq] at z1
                  subst z1
                  obtain ⟨v1, r1, b1, b2, y1, y2, _, y3, y4⟩ := z2
                  simp only [List.cons.injEq] at y1
                  obtain ⟨rfl, rfl⟩ := y1
                  obtain ⟨kv, r2, b3, b4, y5, y6, _, y7, y8⟩ := y3
                  have y9 : b3 = [] := y6.1.flat rfl
                  have y10 : b4 = [] := y7.2
                  have y11 : r2 = [] := y7.1
                  subst y11; subst y5
                  refine ⟨kv, rfl, ?_⟩
                  have eb : bf = b1 := by rw [y4, y8, y9, y10]; simp
                  subst eb
                  obtain ⟨_, stt1, v01, hd1, p21, p31⟩ := oneRt_as hv hreg l1 y2.1
                  obtain ⟨r1, r2, r4⟩ := marked_leaf p21 p31 zn zs z8
                  have mk : Marked g el u r (pickV el u t y.1 ls) hd1 bs w.heap w'.heap := ⟨p1, ⟨_, r1⟩, r2, z6, z7, r4⟩
                  have st1 := mark_St st mk z8 z3 z4 z5 q4
                  cases d with
                  | none => rw [← hr]; exact st1
                  | some q =>
                    have hkv : kv = .int i' y.2.1 ∧ (Lit.int i' y.2.1).wf = true := by
                      have c1 := y6.2.2 rfl
                      have c2 := y6.1.1
                      rw [c1] at c2
                      simp only [List.cons.injEq, and_true] at c2
                      exact ⟨c2, y6.1.2.1⟩
                    have := St.putA st1 (hd q rfl) (v := kv) (e := intE i' y.2.1) (by rw [hkv.1]; exact intE_sound hkv.2)
                    rw [← hr]
                    have eg : (markEnv env (some q) el u r i' (pickV el u t y.1 ls) y.2.1).get = upd (env.map (killM el u r (pickV el u t y.1 ls))).get q (intE i' y.2.1) := by
                      funext s'; simp only [markEnv, Env.get_put, upd]
                    rw [eg]; exact this
                · cases hr
            · cases he
          · cases he
        · cases he
      · rename_i t qf t' F
        split at he
        · rename_i s
          split at he
          · rename_i agg ls q' hs hk
            split at he
            · rename_i v el u r hv hreg
              cases hq : (t.eqb t' && Nat.beq qf q' && ((agg && t.agg) || (!agg && !t.agg)) && !(litTag r env)) with
              | false => rw [hq] at he; cases he
              | true =>
                rw [hq] at he; simp only [cond_true, Option.some.injEq] at he; subst he
                simp only [Bool.and_eq_true, Bool.not_eq_true'] at hq
                obtain ⟨⟨⟨q1, q2⟩, q3⟩, q4⟩ := hq
                have := Ty.eq_of_eqb q1; subst this
                have := Nat.eq_of_beq_eq_true q2; subst this
                have hagg : agg = t.agg := by cases agg <;> cases hta : t.agg <;> simp [hta] at q3 <;> rfl
                simp only [StepRes.get] at hr
                split at hr
                · rename_i y hy
                  injection hr with hr
                  have e0 := st.ent s
                  rw [hs] at e0
                  obtain ⟨bs, l1, l2⟩ := valAs_one (t := t) (by rw [← hagg]; exact e0) hv
                  obtain ⟨p1, stt, v0, hd0, p2, p3⟩ := oneRt_as hv hreg l1 l2.1
                  obtain ⟨p4, p5⟩ := leaf_nodup p2
                  obtain ⟨s2, k1, _⟩ := opE_sound st.ent hk
                  have hf : a.eval k = .func (.func qf) #[] #[] := k1
                  have hav : ArgsV w.heap [.v t, .fn qf] (v, (), ()) [a.tmps.getD s undef, .func (.func qf) #[] #[]] bs :=
                    ⟨_, _, bs, [], rfl, by simp, l2, _, rfl, rfl, rfl⟩
                  have := hok (v, (), ()) y hy w _ bs hav p4 (fun b hb => st.inv.wr b (by rw [p5 b hb]; exact p1))
                  have ex : (#[a.eval (.tmp s), a.eval k] : Array Value) = [a.tmps.getD s undef, .func (.func qf) #[] #[]].toArray := by rw [hf]; rfl
                  rw [ex]
                  refine this.mono ?_
                  rintro e w' ⟨v0', rv, bf, z1, rfl, z2, ⟨zn, zs⟩, z3, z4, z5, z6, z7, z8⟩
                  simp only [List.head?_cons, Option.some.injEq] at z1
                  subst z1
                  obtain ⟨v1, r1, b1, b2, y1, y2, _, y3, y4⟩ := z2
                  simp only [List.cons.injEq] at y1
                  obtain ⟨rfl, rfl⟩ := y1
                  obtain ⟨y9, y10⟩ := y3
                  subst y9; subst y10
                  refine ⟨_, rfl, ?_⟩
                  have eb : bf = b1 := by rw [y4]; simp
                  subst eb
                  obtain ⟨_, stt1, v01, hd1, p21, p31⟩ := oneRt_as hv hreg l1 y2.1
                  obtain ⟨r1, r2, r4⟩ := marked_leaf p21 p31 zn zs z8
                  have mk : Marked g el u r (pickV el u t y.1 ls) hd1 bs w.heap w'.heap := ⟨p1, ⟨_, r1⟩, r2, z6, z7, r4⟩
                  have st1 := mark_St st mk z8 z3 z4 z5 q4
                  cases d with
                  | none => rw [← hr]; exact st1
                  | some q =>
                    have := St.putA st1 (hd q rfl) (v := retV []) (e := .dead) trivial
                    rw [← hr]
                    have eg : (sortEnv env (some q) el u r (pickV el u t y.1 ls)).get = upd (env.map (killM el u r (pickV el u t y.1 ls))).get q .dead := by
                      funext s'; simp only [sortEnv, Env.get_put, upd]
                    rw [eg]; exact this
                · cases hr
            · cases he
          · cases he
        · cases he
      · cases he
  · cases he
end
def Leaf.meetsE (u : Ty) (r : Nat) : Leaf → Bool
  | .fz t reg lin _ => !t.flat && (Nat.beq reg r || (Nat.beq reg 0 && !lin))
  | .rt _ u' tag _ lin _ _ => Nat.beq tag r || (!u'.flat && !lin)
def outF : Ent → Bool
  | .box true _ => true
  | _ => false
def killE (d : Nat) (u : Ty) (r : Nat) (en : Ent) : Ent := bif en.any (Leaf.meetsE u r) || outF en || en.at d then .dead else en
def fzAll (u : Ty) (r : Nat) : List Leaf → Bool
  | [] => true
  | l :: ls => (match l with | .fz _ _ _ _ => !(l.meetsE u r) | _ => false) && fzAll u r ls
def eatC (env : Env) (d : Option Nat) (x0 x1 x2 : Operand) : (ps : List PK) → (rs : List Ty) → (Args ps → Option (Ress rs)) → Option StepRes
  | [.v (.int i), .v (.slice e u), .v t], [t'], f =>
    (match d, opE env.get x0, opE env.get x1, opE env.get x2 with
    | some d, some e0, some (.val false [.rt e' u' r false true st v]), some (.val agg ls) => (match asI e0, Ty.cast (.slice e u) (Leaf.rt e' u' r false true st v).val, valAs t ls with
      | some (i', p), some l, some row => bif kEq i i' && !(Nat.beq r 0) && ((agg && t.agg) || (!agg && !t.agg)) && !(litTag r env) && fzAll u r ls && Nat.ble (tagRoom.width t') 14 then
          some (.callr [t'] (f (p, l, row, ())) fun y => (env.map (killE d u r)).put d (resE true false (d * 16 + 1) [t'] y)) else none
      | _, _, _ => none)
    | _, _, _, _ => none)
  | _, _, _ => none
def eatE (K : CTab) (env : Env) (d : Option Nat) (f : Nat) (x0 x1 x2 : Operand) : Option StepRes :=
  match ctr K f with
  | some C => bif Nat.beq C.inp 2 then eatC env d x0 x1 x2 C.ps C.rs C.f else none
  | none => none
section
variable {P : Program} {T : TTab} {K : CTab} {n : NS} {w0 w : World} {W : Nat → Prop} {g g2 : Gh} {a : Act} {d : Nat} {u : Ty} {r : Nat} {be : List Nat} {h h' : Mem}
structure Eaten (d : Nat) (g g2 : Gh) (u : Ty) (r : Nat) (be : List Nat) (h h' : Mem) : Prop where
  r0 : r ≠ 0
  size : h.size ≤ h'.size
  blk : ∀ b, b < h.size → b ∉ be → h'[b]? = h[b]?
  kd : ∀ b, b < h.size → b ∉ be → g2.kd b = g.kd b
  own : ∀ b, b < h.size → b ∉ be → g2.own b = g.own b
  H : ∀ t, tagAt d t = false → g2.H t = g.H t
  bx : g2.bx = g.bx
  mt : g2.mt = g.mt
  inn : ∀ b ∈ be, (g.kd b = .mu r ∨ g.kd b = .fz) ∧ g.own b = r
theorem LeafB.eaten (m : Eaten d g g2 u r be h h') {l : Leaf} {cs : List Value} {bs : List Nat} (hl : LeafB g h l cs bs) (hm : l.meetsE u r = false) : ∀ b ∈ bs, b ∉ be := by
  intro b hb hbe
  obtain ⟨k1, k2⟩ := m.inn b hbe
  cases l with
  | fz t reg lin v =>
    simp only [Leaf.meetsE] at hm
    cases hf : t.flat with
    | true => have : bs = [] := hl.1.flat hf; subst this; cases hb
    | false =>
      rw [hf] at hm
      simp only [Bool.not_false, Bool.true_and, Bool.or_eq_false_iff, Bool.and_eq_false_iff, Bool.not_eq_false'] at hm
      obtain ⟨m1, m2⟩ := hm
      by_cases q0 : reg = 0
      · have hlin : lin = true := by
          rcases m2 with z | z
          · exact absurd q0 (nbeq_ne z)
          · exact z
        exact m.r0 (k2.symm.trans ((hl.2.2.2 hlin).2 q0 b hb))
      · exact nbeq_ne m1 ((hl.2.2.1 q0 b hb).symm.trans k2)
  | rt e' u' tag sub lin st v =>
    simp only [Leaf.meetsE, Bool.or_eq_false_iff] at hm
    obtain ⟨m1, m2⟩ := hm
    have hne := nbeq_ne m1
    obtain ⟨hd', blk, bs', rfl, rfl, _, _, hs, h4, h5, h6⟩ := hl
    rcases List.mem_append.1 hb with hb | hb
    · exact hne ((h5 b (by simpa using hb)).2.1.symm.trans k2)
    · cases hu : u'.flat with
      | true => have := slR_flat hu hs; subst this; cases hb
      | false =>
        rw [hu] at m2
        simp only [Bool.not_false, Bool.true_and, Bool.not_eq_false'] at m2
        exact hne (((h6 m2).1 b hb).symm.trans k2)
theorem LeafB.eat (m : Eaten d g g2 u r be h h') {l : Leaf} {cs : List Value} {bs : List Nat} (hl : LeafB g h l cs bs) (hm : l.meetsE u r = false) (hd : l.at d = false) : LeafB g2 h' l cs bs :=
  hl.same (fun b hb => m.blk b (hl.lt b hb) (hl.eaten m hm b hb)) (fun b hb => m.kd b (hl.lt b hb) (hl.eaten m hm b hb)) (fun b hb => m.own b (hl.lt b hb) (hl.eaten m hm b hb)) (fun e t tag sub lin st v he _ => by subst he; exact m.H _ hd)
theorem LeavesB.eat (m : Eaten d g g2 u r be h h') : ∀ {ls : List Leaf} {cs : List Value} {bs : List Nat}, LeavesB g h ls cs bs → ls.any (Leaf.meetsE u r) = false → ls.any (Leaf.at d) = false → LeavesB g2 h' ls cs bs
  | [], _, _, hl, _, _ => hl
  | l :: r, cs, bs, ⟨b1, b2, h1, h2, h3⟩, hm, hd => by
    simp only [List.any_cons, Bool.or_eq_false_iff] at hd hm
    exact ⟨b1, b2, h1.eat m hm.1 hd.1, LeavesB.eat m h2 hm.2 hd.2, h3⟩
theorem PartsB.eat (m : Eaten d g g2 u r be h h') {n : Nat} : ∀ {ls : List (List Leaf)} {cs : List Value} {bs : List Nat}, PartsB g h n ls cs bs → (ls.any fun l => l.any (Leaf.meetsE u r)) = false → (ls.any fun l => l.any (Leaf.at d)) = false → PartsB g2 h' n ls cs bs
  | [], _, _, hl, _, _ => hl
  | l :: r, cs, bs, ⟨b1, b2, h1, h2, h3⟩, hm, hd => by
    simp only [List.any_cons, Bool.or_eq_false_iff] at hd hm
    exact ⟨b1, b2, h1.eat m hm.1 hd.1, PartsB.eat m h2 hm.2 hd.2, h3⟩
theorem ValR.eat (m : Eaten d g g2 u r be h h') {agg : Bool} {ls : List Leaf} {v : Value} (hv : ValR g h agg ls v) (hm : ls.any (Leaf.meetsE u r) = false) (hd : ls.any (Leaf.at d) = false) : ValR g2 h' agg ls v := by
  obtain ⟨cs, bs, h1, h2, h3⟩ := hv
  exact ⟨cs, bs, h1, h2, h3.eat m hm hd⟩
theorem ValsR.eat (m : Eaten d g g2 u r be h h') : ∀ {ls : List (Bool × List Leaf)} {vs : List Value}, ValsR g h ls vs → (ls.any fun p => p.2.any (Leaf.meetsE u r)) = false → (ls.any fun p => p.2.any (Leaf.at d)) = false → ValsR g2 h' ls vs
  | [], _, hl, _, _ => hl
  | (agg, ls) :: r, vs, ⟨v, vs', h1, h2, h3⟩, hm, hd => by
    simp only [List.any_cons, Bool.or_eq_false_iff] at hd hm
    exact ⟨v, vs', h1, h2.eat m hm.1 hd.1, ValsR.eat m h3 hm.2 hd.2⟩
theorem EntR.eat (m : Eaten d g g2 u r be h h') {s : Nat} (hs : s ≠ d) {en : Ent} {v : Value} (he : EntR g h s en v) (hm : (en.any (Leaf.meetsE u r) || outF en || en.at d) = false) (hl : ∀ t u' pp, en = .lit t u' pp → s * 16 + 1 ≠ r) : EntR g2 h' s en v := by
  have lt : ∀ {b : Nat} {o : Obj}, h[b]? = some o → b < h.size := fun {b o} hb => by
    rcases Nat.lt_or_ge b h.size with hlt | hge
    · exact hlt
    · rw [Array.getElem?_eq_none hge] at hb; cases hb
  simp only [Bool.or_eq_false_iff] at hm
  obtain ⟨⟨hm, ho⟩, hd⟩ := hm
  cases en with
  | dead => trivial
  | val agg ls => exact ValR.eat m he hm hd
  | lit t u' pp =>
    have hk := hl t u' pp rfl
    obtain ⟨b, c, bs, h1, h2, h3, h4, h5, h6, h7⟩ := he
    have hnb : b ∉ be := fun q => hk (h5.symm.trans (m.inn b q).2)
    exact ⟨b, c, bs, h1, by rw [m.blk b (lt h2) hnb]; exact h2, h3, by rw [m.kd b (lt h2) hnb]; exact h4, by rw [m.own b (lt h2) hnb]; exact h5, h6.eat m hm hd, h7⟩
  | box ro ls =>
    cases ro with
    | true => cases ho
    | false =>
      obtain ⟨b, c, e', fr, bs, h1, h2, h3, h4, h5, h6⟩ := he
      have hnb : b ∉ be := fun q => by
        rcases (m.inn b q).1 with k | k
        · rw [(h5 rfl).1] at k; cases k
        · rw [(h5 rfl).1] at k; cases k
      exact ⟨b, c, e', fr, bs, h1, by rw [m.blk b (lt h2) hnb]; exact h2, h3.eat m hm hd, by rw [m.bx]; exact h4, fun _ => by rw [m.kd b (lt h2) hnb]; exact h5 rfl, fun q => (by cases q)⟩
  | ref s' base t p => obtain ⟨h1, h2⟩ := he; exact ⟨h1, by rw [m.bx]; exact h2⟩
  | eref l i p =>
    obtain ⟨bs, b, o, k, cap, h1, h2⟩ := he
    exact ⟨bs, b, o, k, cap, h1.eat m hm hd, h2⟩
  | fn f caps =>
    simp only [EntR] at he ⊢
    rw [he, m.bx]
  | tup ls => obtain ⟨vs, h1, h2⟩ := he; exact ⟨vs, h1, h2.eat m hm hd⟩
  | mp d' kt vt m' =>
    obtain ⟨h0, es, c, h1, h2, h3⟩ := he
    have hnb : g.bx d' ∉ be := fun q => by rcases (m.inn _ q).1 with k | k <;> (rw [h2] at k; cases k)
    exact ⟨by rw [m.bx]; exact h0, es, c, by rw [m.bx, m.blk _ (lt h1) hnb]; exact h1, by rw [m.bx, m.kd _ (lt h1) hnb]; exact h2, by rw [m.mt]; exact h3⟩
  | ment d' kt vt k' =>
    obtain ⟨z, n, h0, es, c, e, h1, h2, h3⟩ := he
    have hnb : g.bx d' ∉ be := fun q => by rcases (m.inn _ q).1 with k | k <;> (rw [h2] at k; cases k)
    exact ⟨z, n, h0, es, c, e, by rw [m.bx, m.blk _ (lt h1) hnb]; exact h1, by rw [m.bx, m.kd _ (lt h1) hnb]; exact h2, by rw [m.mt]; exact h3⟩
  | stamp d' kt vt k' =>
    obtain ⟨n, h0, es, c, e, h1, h2, h3⟩ := he
    have hnb : g.bx d' ∉ be := fun q => by rcases (m.inn _ q).1 with k | k <;> (rw [h2] at k; cases k)
    exact ⟨n, h0, es, c, e, by rw [m.bx, m.blk _ (lt h1) hnb]; exact h1, by rw [m.bx, m.kd _ (lt h1) hnb]; exact h2, by rw [m.mt]; exact h3⟩
  | it b o =>
    obtain ⟨h0, h1, h2, h3, h4⟩ := he
    have hnb : b ∉ be := fun q => m.r0 ((m.inn _ q).2.symm.trans h4)
    exact ⟨h0, by rw [m.blk _ (lt h1) hnb]; exact h1, h2, by rw [m.kd _ (lt h1) hnb]; exact h3, by rw [m.own _ (lt h1) hnb]; exact h4⟩
theorem fzAll_any {u : Ty} {r : Nat} : ∀ {ls : List Leaf}, fzAll u r ls = true → ls.any (Leaf.meetsE u r) = false
  | [], _ => rfl
  | l :: ls, h => by
    simp only [fzAll, Bool.and_eq_true] at h
    cases l with
    | fz t reg lin v =>
      simp only [List.any_cons, Bool.or_eq_false_iff]
      exact ⟨by simpa using h.1, fzAll_any h.2⟩
    | rt _ _ _ _ _ _ _ => simp at h
theorem eat_sound {env env' : Env} {dst : Option Nat} {f : Nat} {x0 x1 x2 : Operand} {res : StepRes} (hK : KOK P K) (hwal : ∀ b, W b → g.al b) (st : St n w0 W g env.get a w) (hd : ∀ q, dst = some q → n.has q) (he : eatE K env dst f x0 x1 x2 = some res) (hr : res.get = some env') :
    (∃ fn, P.funcs[f]? = some fn ∧ fn.name ≠ "runtime.NumGoroutine" ∧ fn.body.isNone = false) ∧
    Calls P f #[a.eval x0, a.eval x1, a.eval x2] w fun e w' => ∃ v, e = .returned v ∧ ∃ g', g'.al = g.al ∧ St n w0 W g' env'.get (a.put dst v) w' := by
  unfold eatE at he
  split at he
  · rename_i C hC
    obtain ⟨hok0, hok1, hok, hfn⟩ := hK _ _ hC
    clear hok0 hok1
    refine ⟨hfn, ?_⟩
    obtain ⟨ps, rs, fresh, st', inp, F⟩ := C
    cases hinp : Nat.beq inp 2 with
    | false => simp only [hinp] at he; cases he
    | true =>
      replace hok := hok (Nat.eq_of_beq_eq_true hinp)
      simp only [hinp, cond_true] at he
      unfold eatC at he
      split at he
      · rename_i i e u t t' F
        split at he
        · rename_i d e0 e' u' r stt v agg ls g0 g1 g2
          split at he
          · rename_i i' p l row hi hc hrow
            cases hq : (kEq i i' && !(Nat.beq r 0) && ((agg && t.agg) || (!agg && !t.agg)) && !(litTag r env) && fzAll u r ls && Nat.ble (tagRoom.width t') 14) with
            | false => rw [hq] at he; cases he
            | true =>
              rw [hq] at he; simp only [cond_true, Option.some.injEq] at he; subst he
              simp only [Bool.and_eq_true, Bool.not_eq_true'] at hq
              obtain ⟨⟨⟨⟨⟨q1, q2⟩, q3⟩, q4⟩, q5⟩, q6⟩ := hq
              have := kEq_eq q1; subst this
              have hr0 := nbeq_ne q2
              have hagg : agg = t.agg := by cases agg <;> cases hta : t.agg <;> simp [hta] at q3 <;> rfl
              obtain ⟨ee, hc⟩ := Ty.cast_eq hc
              injection ee with e1 e2
              have e1 := e1.symm; have e2 := e2.symm
              subst e1; subst e2
              have hc : v = l := hc
              subst hc
              simp only [StepRes.get] at hr
              split at hr
              · rename_i y hy
                injection hr with hr
                obtain ⟨s0, k0, _⟩ := opE_sound st.ent g0
                obtain ⟨s1, k1, _⟩ := opE_sound st.ent g1
                obtain ⟨s2, k2, _⟩ := opE_sound st.ent g2
                obtain ⟨j1, j2⟩ := asI_inv k0 hi
                obtain ⟨be, l1, hcell⟩ := val1 k1
                obtain ⟨br, l2, l2'⟩ := valAs_one (t := t) (by rw [← hagg]; exact k2) hrow
                obtain ⟨nb, ob⟩ := leaf_nodup l1
                have inn : ∀ b ∈ be, (g.kd b = .mu r ∨ g.kd b = .fz) ∧ g.own b = r := by
                  intro b hb
                  refine ⟨?_, ob b hb⟩
                  obtain ⟨hd', blk, bs', z1, z2, _, _, _, z6, z7, z8⟩ := l1
                  rw [z2] at hb
                  rcases List.mem_append.1 hb with q | q
                  · exact .inl (z7 b (by simpa using q)).1
                  · exact .inr (z6 b q)
                have m0 : Eaten d g g u r be w.heap w.heap := ⟨hr0, Nat.le_refl _, fun _ _ _ => rfl, fun _ _ _ => rfl, fun _ _ _ => rfl, fun _ _ => rfl, rfl, rfl, inn⟩
                have hdis : ∀ b ∈ br, b ∉ be := by
                  have : ∀ {ls : List Leaf} {cs : List Value} {bs : List Nat}, LeavesB g w.heap ls cs bs → ls.any (Leaf.meetsE u r) = false → ∀ b ∈ bs, b ∉ be := by
                    intro ls
                    induction ls with
                    | nil => rintro cs bs ⟨_, h2⟩ _ b hb; rw [h2] at hb; cases hb
                    | cons l ls ih =>
                      rintro cs bs ⟨b1, b2, z1, z2, z3⟩ hm b hb
                      simp only [List.any_cons, Bool.or_eq_false_iff] at hm
                      rw [z3] at hb
                      rcases List.mem_append.1 hb with q | q
                      · exact z1.eaten m0 hm.1 b q
                      · exact ih z2 hm.2 b q
                  exact this l2 (fzAll_any q5)
                have ho1 : OneV w.heap (.slice e u) v (a.eval x1) be := by
                  obtain ⟨hd', blk, bs', z1, z2, _, _, z5, _⟩ := l1
                  refine ⟨?_, fun q => (by cases q), fun _ => hcell⟩
                  rw [hcell]
                  exact ⟨hd', blk, bs', by simpa using z1, z5, z2⟩
                have := hok p v row y hy w (a.eval x1) (a.eval x2) be br j2 ho1 l2' nb (fun b hb => st.inv.wr b (by rw [ob b hb]; exact hr0)) hdis
                rw [j1]
                refine this.mono ?_
                rintro ee w' ⟨rv, bs, rfl, z1, z2, z3, z4, z5, z6, z7, z8, z9⟩
                refine ⟨rv, rfl, ?_⟩
                -- what is said of the old blocks no more
                have hlt : ∀ b ∈ bs, b < w'.heap.size := z1.1.lt
                let ga : Gh := { g with kd := fun b => if b ∈ be then .fz else g.kd b, own := fun b => if b ∈ be then 0 else g.own b }
                have kfz : ∀ b ∈ bs, ga.kd b = .fz := by
                  intro b hb
                  show (if b ∈ be then BK.fz else g.kd b) = .fz
                  by_cases q : b ∈ be
                  · rw [if_pos q]
                  · rw [if_neg q]
                    rcases z8 b hb with z | z
                    · exact st.inv.fresh z
                    · exact absurd z q
                have hres : ResV w'.heap false [t'] y [rv] bs := ⟨rv, [], bs, [], rfl, z1, fun q => (by cases q), ⟨rfl, rfl⟩, by simp⟩
                obtain ⟨g', p1, p2, p3⟩ := resE_claim (g := ga) (fresh := true) (tag := d * 16 + 1) hres kfz (fun _ => ⟨z7, z9⟩) (by simpa [tagRoom] using q6)
                have out : ∀ b, b < w.heap.size → b ∉ be → b ∉ bs := fun b hb hn q => by
                  rcases z8 b q with z | z
                  · omega
                  · exact hn z
                have m : Eaten d g g' u r be w.heap w'.heap := by
                  refine ⟨hr0, z5, z6, fun b hb hn => ?_, fun b hb hn => ?_, fun t ht => ?_, p1.bx, p1.mt, inn⟩
                  · rw [p1.kd b (out b hb hn)]; exact if_neg hn
                  · rw [p1.own b (out b hb hn)]; exact if_neg hn
                  · exact p1.H t (tagAt_out ht)
                refine ⟨g', p1.al, ?_⟩
                rw [← hr]
                have dn := hd d rfl
                have inv : Inv g' w0.heap w'.heap W := by
                  have ii := st.inv
                  have beW : ∀ b ∈ be, w0.heap.size ≤ b ∨ W b := fun b hb => (ii.own b (by rw [ob b hb]; exact hr0)).2
                  have same : ∀ b, (b ∉ be ∧ b ∉ bs ∧ g'.kd b = g.kd b ∧ g'.own b = g.own b) ∨ ((w0.heap.size ≤ b ∨ W b) ∧ b < w'.heap.size ∧ (g'.kd b = .fz ∨ ∃ t, g'.kd b = .mu t) ∧ (g'.own b = 0 ∨ ∃ c e, w'.heap[b]? = some (.cells c e (0, 0)))) := by
                    intro b
                    by_cases q : b ∈ bs
                    · refine .inr ⟨?_, hlt b q, p1.mine b q, .inr (z9 b q)⟩
                      rcases z8 b q with z | z
                      · exact .inl (Nat.le_trans ii.size z)
                      · exact beW b z
                    · by_cases q' : b ∈ be
                      · refine .inr ⟨beW b q', ?_, .inl ?_, .inl ?_⟩
                        · exact Nat.lt_of_lt_of_le (l1.lt b q') z5
                        · rw [p1.kd b q]; exact if_pos q'
                        · rw [p1.own b q]; exact if_pos q'
                      · refine .inl ⟨q', q, ?_, ?_⟩
                        · rw [p1.kd b q]; exact if_neg q'
                        · rw [p1.own b q]; exact if_neg q'
                  refine ⟨Nat.le_trans ii.size z5, fun b hb hW => ?_, fun b => ?_, fun b hb => ?_, fun b hb => ?_, fun b hb => ?_, fun b hb => ?_⟩
                  · have hn : b ∉ be := fun q => by
                      rcases beW b q with z | z
                      · omega
                      · exact hW z
                    rw [z6 b (Nat.lt_of_lt_of_le hb ii.size) hn]; exact ii.old b hb hW
                  · rcases same b with ⟨_, _, q, _⟩ | ⟨q1, q2, q3, _⟩
                    · rw [q]
                      rcases ii.kd b with k | k | k
                      · exact .inl k
                      · exact .inr (.inl k)
                      · exact .inr (.inr ⟨Nat.lt_of_lt_of_le k.1 z5, k.2⟩)
                    · exact .inr (.inr ⟨q2, q1⟩)
                  · rcases same b with ⟨_, _, q, _⟩ | ⟨_, _, q, _⟩
                    · rw [q] at hb; exact ii.no b hb
                    · rcases q with q | ⟨t, q⟩ <;> rw [q] at hb <;> cases hb
                  · rw [p1.al]
                    rcases same b with ⟨_, _, q, _⟩ | ⟨q1, _, _, _⟩
                    · rw [q] at hb; exact ii.al b hb
                    · rcases q1 with z | z
                      · exact .inl z
                      · exact .inr (hwal b z)
                  · rcases same b with ⟨_, _, _, q⟩ | ⟨q1, q2, _, _⟩
                    · rw [q] at hb; have := ii.own b hb; exact ⟨Nat.lt_of_lt_of_le this.1 z5, this.2⟩
                    · exact ⟨q2, q1⟩
                  · rcases same b with ⟨hn, _, _, q⟩ | ⟨_, _, _, q⟩
                    · rw [q] at hb
                      rw [z6 b (ii.own b hb).1 hn]; exact ii.wr b hb
                    · exact q.resolve_left hb
                have ents : ∀ s, s ≠ d → EntR g' w'.heap s ((env.map (killE d u r)).get s) (a.tmps.getD s undef) := by
                  intro s hsd
                  rw [Env.get_map _ rfl]
                  unfold killE
                  cases hq : ((env.get s).any (Leaf.meetsE u r) || outF (env.get s) || (env.get s).at d) with
                  | true => trivial
                  | false => exact (st.ent s).eat m hsd hq fun t u' pp hh => litTag_get q4 hh
                have st1 : St n w0 W g' ((env.map (killE d u r)).put d .dead).get a w' := by
                  refine ⟨inv, fun s => ?_, st.sz, st.df, z2.trans st.os, z3.trans st.tape, z4.trans st.output⟩
                  rw [Env.get_put]
                  by_cases hsd : s = d
                  · rw [if_pos hsd]; trivial
                  · rw [if_neg hsd]; exact ents s hsd
                have st2 := St.putA st1 dn (v := rv) (e := resE true false (d * 16 + 1) [t'] y) (p2 d)
                have eg : ((env.map (killE d u r)).put d (resE true false (d * 16 + 1) [t'] y)).get = upd ((env.map (killE d u r)).put d .dead).get d (resE true false (d * 16 + 1) [t'] y) := by
                  funext s
                  simp only [Env.get_put, upd]
                  by_cases hsd : s = d
                  · rw [if_pos hsd, if_pos hsd]
                  · rw [if_neg hsd, if_neg hsd, if_neg hsd]
                rw [eg]; exact st2
              · cases hr
          · cases he
        · cases he
      · cases he
  · cases he
end
def setMp (d : Nat) (kt vt : Ty) (x : kt.den) (y : vt.den) (e : Ent) : Ent :=
  match e with
  | .mp d' kt' vt' m => bif Nat.beq d' d then (match Ty.cast kt' x, Ty.cast vt' y with | some x', some y' => .mp d' kt' vt' ((x', y') :: m) | _, _ => .dead) else .mp d' kt' vt' m
  | e => e
def mapSetE (T : TTab) (t : TypeId) (ex ek ev : Ent) (env : Env) : Option Env :=
  match mapKey T t ex ek with
  | some ⟨d, kt, vt, _, x⟩ => (match ev with
    | .val false [l] => (match Ty.cast vt l.val with | some y => some (env.map (setMp d kt vt x y)) | none => none)
    | _ => none)
  | none => none
def entrySetE (ex es ev : Ent) (env : Env) : Option Env :=
  match ex, es, ev with
  | .mp d kt vt _, .stamp d' kt' vt' x, .val false [l] => (match Ty.cast kt x, Ty.cast vt l.val with
    | some x', some y => bif Nat.beq d' d then some (env.map (setMp d kt vt x' y)) else none
    | _, _ => none)
  | _, _, _ => none
theorem eqb_self : ∀ t : Ty, t.eqb t = true := by
  intro t
  induction t with
  | int k => cases k <;> rfl
  | bool => rfl
  | unit => rfl
  | pair a b iha ihb => simp [Ty.eqb, iha, ihb]
  | arr n t ih => simp [Ty.eqb, ih]
  | slice e t ih => simp [Ty.eqb, ih]
theorem cast_id {t : Ty} (x : t.den) : Ty.cast t x = some x := by
  unfold Ty.cast; rw [dif_pos (eqb_self t)]
section
variable {P : Program} {T : TTab} {K : CTab} {n : NS} {w0 w : World} {W : Nat → Prop} {g : Gh} {a : Act} {d : Nat} {kt vt : Ty}
theorem mget_hit (hk : keyT kt = true) {x : kt.den} {y : vt.den} {m : List (kt.den × vt.den)} : mget kt vt ((x, y) :: m) x = y := by
  simp only [mget]; rw [(eqd_key hk).2 rfl]; rfl
theorem mget_miss (hk : keyT kt = true) {x x' : kt.den} {y : vt.den} {m : List (kt.den × vt.den)} (h : x ≠ x') : mget kt vt ((x, y) :: m) x' = mget kt vt m x' := by
  simp only [mget]
  cases hq : kt.eqd x x' with
  | true => exact absurd ((eqd_key hk).1 hq) h
  | false => rfl
theorem MapR.set {es : List MapEntry} {c j : Nat} {m : List (kt.den × vt.den)} (M : MapR kt vt es c m) {e0 : MapEntry} (hj : es[j]? = some e0) {x : kt.den} {y : vt.den} {v : Value} (hx : Vk kt x e0.key) (hy : Vk vt y v) :
    MapR kt vt (es.set j ⟨e0.key, v, e0.born⟩) c ((x, y) :: m) := by
  have hjl : j < es.length := by
    rcases Nat.lt_or_ge j es.length with q | q
    · exact q
    · rw [List.getElem?_eq_none q] at hj; cases hj
  have hm0 := List.mem_of_getElem? hj
  have keys : (es.set j ⟨e0.key, v, e0.born⟩).map (·.key) = es.map (·.key) := by
    rw [List.map_set]
    apply List.ext_getElem?; intro i
    rw [List.getElem?_set]
    split
    · rename_i q; subst q; rw [if_pos (by simpa using hjl), List.getElem?_map, hj]; rfl
    · rfl
  have borns : (es.set j ⟨e0.key, v, e0.born⟩).map (·.born) = es.map (·.born) := by
    rw [List.map_set]
    apply List.ext_getElem?; intro i
    rw [List.getElem?_set]
    split
    · rename_i q; subst q; rw [if_pos (by simpa using hjl), List.getElem?_map, hj]; rfl
    · rfl
  refine ⟨fun e he => ?_, fun k hk => ?_, ?_, fun e he => ?_, ?_, M.flat⟩
  · obtain ⟨i, hi⟩ := List.getElem?_of_mem he
    rw [List.getElem?_set] at hi
    split at hi
    · injection hi with hi; subst hi
      exact ⟨x, hx, by rw [mget_hit M.flat.1]; exact hy⟩
    · rename_i q
      have hme := List.mem_of_getElem? hi
      obtain ⟨k, k1, k2⟩ := M.ent e hme
      have ne : x ≠ k := by
        intro z; subst z
        have := List.pairwise_iff_getElem.1 M.dist
        have hil : i < es.length := by
          rcases Nat.lt_or_ge i es.length with q | q
          · exact q
          · rw [List.getElem?_eq_none q] at hi; cases hi
        have a1 : es[i] = e := by rw [List.getElem?_eq_getElem hil] at hi; injection hi
        have a2 : es[j] = e0 := by rw [List.getElem?_eq_getElem hjl] at hj; injection hj
        rcases Nat.lt_or_gt_of_ne q with z | z
        · have := this j i hjl hil z x; rw [a1, a2] at this; exact this hx k1
        · have := this i j hil hjl z x; rw [a1, a2] at this; exact this k1 hx
      exact ⟨k, k1, by rw [mget_miss M.flat.1 ne]; exact k2⟩
  · have ne : x ≠ k := by
      intro z; subst z
      exact hk ⟨e0.key, v, e0.born⟩ (List.mem_of_getElem? (i := j) (by rw [List.getElem?_set, if_pos rfl, if_pos hjl])) hx
    rw [mget_miss M.flat.1 ne]
    refine M.none k fun e he hke => ?_
    have : e.key ∈ (es.set j ⟨e0.key, v, e0.born⟩).map (·.key) := by rw [keys]; exact List.mem_map_of_mem he
    obtain ⟨e', h1, h2⟩ := List.mem_map.1 this
    exact hk e' h1 (by rw [h2]; exact hke)
  · have := (List.pairwise_map (f := fun e : MapEntry => e.key) (R := fun a b => ∀ k, Vk kt k a → ¬ Vk kt k b)).2 M.dist
    rw [← keys] at this
    exact List.pairwise_map.1 this
  · have : e.born ∈ es.map (·.born) := by rw [← borns]; exact List.mem_map_of_mem he
    obtain ⟨e', h1, h2⟩ := List.mem_map.1 this
    rw [← h2]; exact M.born e' h1
  · have := (List.pairwise_map (f := fun e : MapEntry => e.born) (R := fun a b => a ≠ b)).2 M.bdist
    rw [← borns] at this
    exact List.pairwise_map.1 this
theorem MapR.add {es : List MapEntry} {c : Nat} {m : List (kt.den × vt.den)} (M : MapR kt vt es c m) {x : kt.den} {y : vt.den} {u v : Value} (hx : Vk kt x u) (hy : Vk vt y v) (hn : ∀ e ∈ es, ¬ Vk kt x e.key) :
    MapR kt vt (es ++ [⟨u, v, c⟩]) (c + 1) ((x, y) :: m) := by
  have hl : (es ++ [⟨u, zv vt, c⟩])[es.length]? = some ⟨u, zv vt, c⟩ := by simp
  have := (M.push hx hn).set hl (x := x) (y := y) (v := v) hx hy
  have e : (es ++ [(⟨u, zv vt, c⟩ : MapEntry)]).set es.length ⟨u, v, c⟩ = es ++ [⟨u, v, c⟩] := by
    rw [List.set_append_right _ _ (Nat.le_refl _)]; simp
  rw [e] at this; exact this
def KeepC (h h' : Mem) : Prop := ∀ (b : Nat) (c : Array Value) (e : TypeId) (fr : Nat × Nat), h[b]? = some (Obj.cells c e fr) → h'[b]? = h[b]?
section
variable {h h' : Mem}
theorem LeafB.keepC (x : KeepC h h') {l : Leaf} {cs : List Value} {bs : List Nat} (hl : LeafB g h l cs bs) : LeafB g h' l cs bs :=
  hl.same (fun b m => by obtain ⟨c, e, fr, q⟩ := hl.cellsB b m; exact x _ _ _ _ q) (fun _ _ => rfl) (fun _ _ => rfl) (fun _ _ _ _ _ _ _ _ _ => rfl)
theorem LeavesB.keepC (x : KeepC h h') : ∀ {ls : List Leaf} {cs : List Value} {bs : List Nat}, LeavesB g h ls cs bs → LeavesB g h' ls cs bs
  | [], _, _, hl => hl
  | l :: r, cs, bs, ⟨b1, b2, h1, h2, h3⟩ => ⟨b1, b2, h1.keepC x, LeavesB.keepC x h2, h3⟩
theorem PartsB.keepC (x : KeepC h h') {m : Nat} : ∀ {ls : List (List Leaf)} {cs : List Value} {bs : List Nat}, PartsB g h m ls cs bs → PartsB g h' m ls cs bs
  | [], _, _, hl => hl
  | l :: r, cs, bs, ⟨b1, b2, h1, h2, h3⟩ => ⟨b1, b2, h1.keepC x, PartsB.keepC x h2, h3⟩
theorem ValR.keepC (x : KeepC h h') {agg : Bool} {ls : List Leaf} {v : Value} (hv : ValR g h agg ls v) : ValR g h' agg ls v := by
  obtain ⟨cs, bs, h1, h2, h3⟩ := hv; exact ⟨cs, bs, h1, h2, h3.keepC x⟩
theorem ValsR.keepC (x : KeepC h h') : ∀ {ls : List (Bool × List Leaf)} {vs : List Value}, ValsR g h ls vs → ValsR g h' ls vs
  | [], _, hl => hl
  | (agg, ls) :: r, vs, ⟨v, vs', h1, h2, h3⟩ => ⟨v, vs', h1, h2.keepC x, ValsR.keepC x h3⟩
end
theorem map_St {env : Env} {x : kt.den} {y : vt.den} {es es' : Array MapEntry} {c c' : Nat} (st : St n w0 W g env.get a w) (hb : w.heap[g.bx d]? = some (.map es c)) (hkd : g.kd (g.bx d) = .bx d) (hmt : g.mt d = (kt, vt))
    (hM : ∀ m, MapR kt vt es.toList c m → MapR kt vt es'.toList c' ((x, y) :: m)) (hs : ∀ e ∈ es.toList, ∃ e' ∈ es'.toList, e'.born = e.born ∧ e'.key = e.key) :
    St n w0 W g (env.map (setMp d kt vt x y)).get a { w with heap := w.heap.setIfInBounds (g.bx d) (.map es' c') } := by
  have lt : g.bx d < w.heap.size := by
    rcases Nat.lt_or_ge (g.bx d) w.heap.size with hlt | hge
    · exact hlt
    · rw [Array.getElem?_eq_none hge] at hb; cases hb
  have kc : KeepC w.heap (w.heap.setIfInBounds (g.bx d) (.map es' c')) := fun b c1 e1 fr hq => by
    rw [Array.getElem?_setIfInBounds, if_neg (fun q => by rw [← q, hb] at hq; cases hq)]
  have at' : (w.heap.setIfInBounds (g.bx d) (.map es' c'))[g.bx d]? = some (.map es' c') := by rw [Array.getElem?_setIfInBounds, if_pos rfl, if_pos lt]
  have oth : ∀ d' , d' ≠ d → g.kd (g.bx d') = .bx d' → (w.heap.setIfInBounds (g.bx d) (.map es' c'))[g.bx d']? = w.heap[g.bx d']? := fun d' hne hk => by
    rw [Array.getElem?_setIfInBounds, if_neg (fun q => by rw [q, hk] at hkd; injection hkd with hkd; exact hne hkd)]
  have stamp : ∀ {d' : Nat} {kt' vt' : Ty} {k : kt'.den} {m : Int}, StampR g w.heap d' kt' vt' k m → StampR g (w.heap.setIfInBounds (g.bx d) (.map es' c')) d' kt' vt' k m := by
    rintro d' kt' vt' k m ⟨es1, c1, e1, h1, h2, h3, h4, h5, h6⟩
    by_cases q : d' = d
    · subst q
      rw [hb] at h1; injection h1 with h1; injection h1 with h1 h1'
      subst h1
      obtain ⟨e', z1, z2, z3⟩ := hs e1 h4
      exact ⟨es', c', e', at', h2, h3, z1, by rw [z2]; exact h5, by rw [z3]; exact h6⟩
    · exact ⟨es1, c1, e1, by rw [oth d' q h2]; exact h1, h2, h3, h4, h5, h6⟩
  refine ⟨set_inv st.inv hb hkd, fun s => ?_, st.sz, st.df, st.os, ⟨st.tape.1, st.tape.2⟩, st.output⟩
  rw [Env.get_map _ rfl]
  have he := st.ent s
  show EntR g (w.heap.setIfInBounds (g.bx d) (.map es' c')) s _ _
  revert he
  generalize env.get s = e
  generalize a.tmps.getD s undef = v
  intro he
  cases e with
  | dead => trivial
  | val agg ls => exact ValR.keepC kc he
  | lit e t pp =>
    obtain ⟨b, c1, bs, h1, h2, h3, h4, h5, h6, h7⟩ := he
    exact ⟨b, c1, bs, h1, by rw [kc _ _ _ _ h2]; exact h2, h3, h4, h5, h6.keepC kc, h7⟩
  | box ro ls =>
    obtain ⟨b, c1, e, fr, bs, h1, h2, h3, h4⟩ := he
    exact ⟨b, c1, e, fr, bs, h1, by rw [kc _ _ _ _ h2]; exact h2, h3.keepC kc, h4⟩
  | ref s' base t p => exact he
  | eref l i p => obtain ⟨bs, b, o, m, cap, h1, h2⟩ := he; exact ⟨bs, b, o, m, cap, h1.keepC kc, h2⟩
  | fn f caps => exact he
  | tup ls => obtain ⟨vs, h1, h2⟩ := he; exact ⟨vs, h1, h2.keepC kc⟩
  | ment d' kt' vt' k => obtain ⟨z, n, h0, h1⟩ := he; exact ⟨z, n, h0, stamp h1⟩
  | stamp d' kt' vt' k => obtain ⟨n, h0, h1⟩ := he; exact ⟨n, h0, stamp h1⟩
  | it b o =>
    obtain ⟨h0, h1, ⟨m, s1, l, c1, rfl⟩, h3⟩ := he
    exact ⟨h0, by rw [Array.getElem?_setIfInBounds, if_neg (fun q => by rw [← q, hb] at h1; cases h1)]; exact h1, ⟨m, s1, l, c1, rfl⟩, h3⟩
  | mp d' kt' vt' m =>
    obtain ⟨h0, es1, c1, h1, h2, h3, h4⟩ := he
    by_cases q : d' = d
    · subst q
      rw [hmt] at h3; injection h3 with h3 h3'
      subst h3; subst h3'
      rw [hb] at h1; injection h1 with h1; injection h1 with h1 h1'
      subst h1; subst h1'
      simp only [setMp, Nat.beq_refl, cond_true, cast_id]
      exact ⟨h0, es', c', at', h2, hmt, hM _ h4⟩
    · simp only [setMp, nbeq_f q, cond_false]
      exact ⟨h0, es1, c1, by rw [oth d' q h2]; exact h1, h2, h3, h4⟩
theorem modify_set {es : Array MapEntry} {j : Nat} {f : MapEntry → MapEntry} {e0 : MapEntry} (h : es.toList[j]? = some e0) : (es.modify j f).toList = es.toList.set j (f e0) := by
  rw [Array.toList_modify]
  apply List.ext_getElem?
  intro i
  rw [List.getElem?_modify, List.getElem?_set]
  have hjl : j < es.toList.length := by
    rcases Nat.lt_or_ge j es.toList.length with q | q
    · exact q
    · rw [List.getElem?_eq_none q] at h; cases h
  by_cases e : j = i
  · subst e; rw [if_pos rfl, if_pos hjl, h]; simp
  · rw [if_neg e]; simp [e]
theorem set_old {es : List MapEntry} {j : Nat} {e0 e1 : MapEntry} (h : es[j]? = some e0) (h1 : e1.born = e0.born ∧ e1.key = e0.key) : ∀ e ∈ es, ∃ e' ∈ es.set j e1, e'.born = e.born ∧ e'.key = e.key := by
  intro e he
  have hjl : j < es.length := by
    rcases Nat.lt_or_ge j es.length with q | q
    · exact q
    · rw [List.getElem?_eq_none q] at h; cases h
  obtain ⟨i, hi⟩ := List.getElem?_of_mem he
  by_cases q : j = i
  · subst q
    rw [h] at hi; injection hi with hi; subst hi
    exact ⟨e1, List.mem_of_getElem? (i := j) (by rw [List.getElem?_set, if_pos rfl, if_pos hjl]), h1⟩
  · exact ⟨e, List.mem_of_getElem? (i := i) (by rw [List.getElem?_set, if_neg q]; exact hi), rfl, rfl⟩
theorem el_val {h : Mem} {s : Nat} {l : Leaf} {v : Value} {y : vt.den} (hv : elT vt = true) (he : EntR g h s (.val false [l]) v) (hc : Ty.cast vt l.val = some y) : Vk vt y v := by
  rcases elT_form hv with ⟨k, rfl⟩ | rfl
  · obtain ⟨bs, hl, hcell⟩ := val1 he
    obtain ⟨r1, r2, _⟩ := cast_rd hc hl.rd
    exact ⟨by rw [hcell]; exact ⟨r1, r2, rfl⟩, (fun q => by cases q), fun _ => hcell⟩
  · obtain ⟨bs, hl, hcell⟩ := val1 he
    obtain ⟨r1, _⟩ := cast_rd hc hl.rd
    exact ⟨by rw [hcell]; exact ⟨r1, rfl⟩, (fun q => by cases q), fun _ => hcell⟩
theorem mapSet_sound {env env' : Env} {t : TypeId} {x k v : Operand} {ex ek ev : Ent} (hT : TOK P T) (st : St n w0 W g env.get a w) (hx : opE env.get x = some ex) (hk : opE env.get k = some ek) (hv : opE env.get v = some ev)
    (h : mapSetE T t ex ek ev env = some env') : ∃ w', (Instr.mapUpdate t (a.eval x) (a.eval k) (a.eval v)).run P w = .ok () w' ∧ St n w0 W g env'.get a w' := by
  unfold mapSetE at h
  split at h
  · rename_i d kt vt m xk hm
    split at h
    · rename_i l
      split at h
      · rename_i y hy
        injection h with h; subst h
        obtain ⟨s1, r1, _⟩ := opE_sound st.ent hx
        obtain ⟨s2, r2, _⟩ := opE_sound st.ent hk
        obtain ⟨s3, r3, _⟩ := opE_sound st.ent hv
        obtain ⟨kT, eT, es, c, hu, tk, te, hxv, hb, hkd, hmt, M, hkv⟩ := map_look hT r1 r2 hm
        have hyv := el_val M.flat.2 r3 hy
        rw [hxv]
        rcases run_findKey' (w := w) hT M.flat.1 tk hkv es.toList M.keys with ⟨h1, h2⟩ | ⟨j, e, h1, h2, h3⟩
        · refine ⟨{ w with heap := w.heap.setIfInBounds (g.bx d) (.map (es.push ⟨a.eval k, a.eval v, c⟩) (c + 1)) }, ?_, map_St st hb hkd hmt (fun m' M' => ?_) (fun e he => ⟨e, by simp at he; simp [he], rfl, rfl⟩)⟩
          · simp only [Instr.mapUpdate, Sem.run_bind, run_underlying hu, Result.andThen_ok, MapKept.run_getObj_map hb, run_check hT M.flat.1 tk hkv, h1, MapKept.run_setObj_map _ hb]
          · rw [Array.toList_push]; exact M'.add hkv hyv h2
        · have hj : es[j]? = some e := by simpa using h2
          have hke : e.key = a.eval k := h3.det M.flat.1 hkv
          refine ⟨{ w with heap := w.heap.setIfInBounds (g.bx d) (.map (es.modify j fun e' => { e' with key := a.eval k, val := a.eval v }) c) }, ?_, map_St st hb hkd hmt (fun m' M' => ?_) ?_⟩
          · simp only [Instr.mapUpdate, Sem.run_bind, run_underlying hu, Result.andThen_ok, MapKept.run_getObj_map hb, run_check hT M.flat.1 tk hkv, h1, hj, Option.map_some, Option.getD_some, hke, run_stays M.flat.1 hkv, MapKept.run_setObj_map _ hb]
          · rw [modify_set h2]
            have := M'.set h2 (y := y) (v := a.eval v) h3 hyv
            rw [hke] at this; exact this
          · rw [modify_set h2]
            exact set_old h2 ⟨rfl, hke.symm⟩
      · cases h
    · cases h
  · cases h
theorem entrySet_sound {env env' : Env} {t : TypeId} {x k v : Operand} {ex ek ev : Ent} (st : St n w0 W g env.get a w) (hx : opE env.get x = some ex) (hk : opE env.get k = some ek) (hv : opE env.get v = some ev)
    (h : entrySetE ex ek ev env = some env') : ∃ w', (Instr.entryStore t (a.eval x) (a.eval k) (a.eval v)).run P w = .ok () w' ∧ St n w0 W g env'.get a w' := by
  unfold entrySetE at h
  split at h
  · rename_i d kt vt m d' kt' vt' xk l
    split at h
    · rename_i x' y hcx hcy
      cases hq : Nat.beq d' d with
      | false => rw [hq] at h; cases h
      | true =>
        rw [hq] at h; simp only [cond_true, Option.some.injEq] at h
        have := Nat.eq_of_beq_eq_true hq; subst this
        subst h
        obtain ⟨s1, r1, _⟩ := opE_sound st.ent hx
        obtain ⟨s2, r2, _⟩ := opE_sound st.ent hk
        obtain ⟨s3, r3, _⟩ := opE_sound st.ent hv
        obtain ⟨h0, es, c, hb, hkd, hmt, M⟩ := r1
        obtain ⟨nn, k0, es2, c2, e, k1, k2, k3, k4, k5, k6⟩ := r2
        rw [hb] at k1; injection k1 with k1; injection k1 with k1 _
        subst k1
        rw [hmt] at k3; injection k3 with k3 k3'
        subst k3; subst k3'
        rw [cast_id] at hcx; injection hcx with hcx; subst hcx
        have hyv := el_val M.flat.2 r3 hcy
        obtain ⟨j, hj⟩ : ∃ j, es.findIdx? (fun e' => (e'.born : Int) == nn) = some j := by
          cases hf : es.findIdx? (fun e' => (e'.born : Int) == nn) with
          | some j => exact ⟨j, rfl⟩
          | none =>
            have := Array.findIdx?_eq_none_iff.1 hf e (by simpa using k4)
            simp [k5] at this
        have hjs : ∃ e', es.toList[j]? = some e' ∧ (e'.born : Int) = nn := by
          obtain ⟨hlt, hp, _⟩ := Array.findIdx?_eq_some_iff_getElem.1 hj
          exact ⟨es[j], by simp [hlt], by simpa using hp⟩
        obtain ⟨e', j1, j2⟩ := hjs
        have hee : e' = e := by
          have bb : e'.born = e.born := by omega
          obtain ⟨i, hi⟩ := List.getElem?_of_mem k4
          have pw := List.pairwise_iff_getElem.1 M.bdist
          have l1 : j < es.toList.length := by
            rcases Nat.lt_or_ge j es.toList.length with q | q
            · exact q
            · rw [List.getElem?_eq_none q] at j1; cases j1
          have l2 : i < es.toList.length := by
            rcases Nat.lt_or_ge i es.toList.length with q | q
            · exact q
            · rw [List.getElem?_eq_none q] at hi; cases hi
          have a1 : es.toList[j] = e' := by rw [List.getElem?_eq_getElem l1] at j1; injection j1
          have a2 : es.toList[i] = e := by rw [List.getElem?_eq_getElem l2] at hi; injection hi
          rcases Nat.lt_trichotomy i j with z | z | z
          · have := pw i j l2 l1 z; rw [a1, a2] at this; exact absurd bb.symm this
          · subst z; rw [a1] at a2; exact a2
          · have := pw j i l1 l2 z; rw [a1, a2] at this; exact absurd bb this
        subst hee
        refine ⟨{ w with heap := w.heap.setIfInBounds (g.bx d') (.map (es.modify j fun e' => { e' with val := a.eval v }) c) }, ?_, map_St st hb hkd hmt (fun m' M' => ?_) ?_⟩
        · rw [h0, k0]
          have hi : (asInt (.int .i64 nn)).run P w = .ok nn w := rfl
          simp only [Instr.entryStore, Sem.run_bind, Result.andThen_ok, MapKept.run_getObj_map hb, hi, Sem.run_pure, hj, MapKept.run_setObj_map _ hb]
        · rw [modify_set j1]
          exact M'.set j1 (y := y) (v := a.eval v) k6 hyv
        · rw [modify_set j1]
          exact set_old j1 ⟨rfl, rfl⟩
    · cases h
  · cases h
end
def litArg (env : Env) (x : Operand) : Env :=
  match x with
  | .tmp s => (match env.get s with | .lit _ _ _ => (match nameLit s env with | some e => e | none => env) | _ => env)
  | _ => env
def preL (env : Env) (o : Oper) : Env :=
  match o.op with
  | .move x | .assign x => litArg env x
  | .store _ _ x => litArg env x
  | _ => env
def preE (env : Env) (o : Oper) : Env :=
  match o.dst with
  | some d => bif creates o then (preL env o).map (killAt d) else preL env o
  | none => preL env o
def tailE (T : TTab) (K : CTab) (env : Env) (o : Oper) : Option StepRes :=
  match o.op with
  | .call c => (match c.callee with
    | .builtin .append => (match o.dst, c.argTypes.toList, c.args.toList with
      | some d, [t1, t2], [s, x] => bif Nat.beq t1 t2 then (match tyOf T t1, opE env.get s, opE env.get x with
        | some (.slice e u), some es, some ex => (match appendE e u d es ex env with | some (c, env') => some (.ok c env') | none => none)
        | _, _, _ => none)
        else (match tyOf T t1, tyOf T t2, opE env.get s, opE env.get x with
        | some (.slice e u), some (.int _), some es, some ex => (match appendME e u d es ex env with | some (c, env') => some (.ok c env') | none => none)
        | _, _, _, _ => none)
      | _, _, _ => none)
    | .value f => (match opE env.get f, c.args.toList with
      | some (.fn k []), [x, q] => markE K env o.dst k x q
      | some (.fn k []), [x0, x1, x2] => eatE K env o.dst k x0 x1 x2
      | _, _ => none)
    | _ => none)
  | .store t ad x => (match o.dst, tyOf T t, opE env.get ad, opE env.get x with
    | none, some ty, some e, some (.val _ xs) => (match estoreE ty e xs env with | some env' => some (.ok true env') | none => none)
    | _, _, _, _ => none)
  | .mapUpdate t x k v => (match o.dst, opE env.get x, opE env.get k, opE env.get v with
    | none, some ex, some ek, some ev => (match mapSetE T t ex ek ev env with | some env' => some (.ok true env') | none => none)
    | _, _, _, _ => none)
  | .insert t x k v => (match o.dst, opE env.get x, opE env.get k, opE env.get v with
    | none, some ex, some ek, some ev => (match mapSetE T t ex ek ev env with | some env' => some (.ok true env') | none => none)
    | _, _, _, _ => none)
  | .entryStore t x k v => (match o.dst, opE env.get x, opE env.get k, opE env.get v with
    | none, some ex, some ek, some ev => (match entrySetE ex ek ev env with | some env' => some (.ok true env') | none => none)
    | _, _, _, _ => none)
  | _ => none
def rtTags : List Leaf → List Nat
  | [] => []
  | .rt _ _ tag _ _ _ _ :: r => tag :: rtTags r
  | _ :: r => rtTags r
def freezes : List Nat → Env → Option Env
  | [], env => some env
  | m :: r, env => bif Nat.beq m 0 || litTag m env then none else freezes r (env.map (Ent.mapL (Leaf.absorb m m)))
def entTags : Ent → List Nat
  | .val _ ls => rtTags ls
  | .box _ ls => rtTags ls
  | _ => []
def nodupN : List Nat → List Nat → List Nat
  | [], acc => acc
  | x :: r, acc => bif memN acc x then nodupN r acc else nodupN r (x :: acc)
def litArgs : List Operand → Env → Env
  | [], env => env
  | x :: r, env => litArgs r (litArg env x)
def frzArgs (env : Env) (o : Oper) : Option Env :=
  match o.op with
  | .call c => (match c.callee with
    | .value _ => freezes (nodupN (c.args.toList.flatMap fun x => match x with | .tmp s => entTags ((litArgs c.args.toList env).get s) | _ => []) []) (litArgs c.args.toList env)
    | _ => none)
  | _ => none
def step1 (T : TTab) (K : CTab) (env : Env) (o : Oper) : Option StepRes :=
  match evOp T K (preE env o).get o with
  | some (.ok c ups) => some (.ok c ((preE env o).puts ups))
  | some (.callr rs x mk) => some (.callr rs x fun r => (preE env o).puts (mk r))
  | none => tailE T K (preE env o) o
def stepE (T : TTab) (K : CTab) (env : Env) (o : Oper) : Option StepRes :=
  match step1 T K env o with
  | some r => some r
  | none => (match frzArgs env o with
    | some env' => step1 T K env' o
    | none => none)
theorem Env.get_puts : ∀ (ups : List (Nat × Ent)) (env : Env), (env.puts ups).get = upds env.get ups
  | [], env => rfl
  | (i, e) :: r, env => by
    simp only [Env.puts, upds]
    rw [Env.get_puts r]
    congr 1
    funext s
    rw [Env.get_put]; rfl
section
variable {P : Program} {T : TTab} {K : CTab} {n : NS} {w0 w : World} {W : Nat → Prop} {g : Gh} {get : Nat → Ent} {a : Act} {d : Nat}
theorem litArg_sound {env : Env} {x : Operand} (hwal : ∀ b, W b → g.al b) (st : St n w0 W g env.get a w) : ∃ g', g'.al = g.al ∧ St n w0 W g' (litArg env x).get a w := by
  unfold litArg
  split
  · rename_i s
    split
    · rename_i e u pp hget
      split
      · rename_i env' h; exact nameLit_sound hwal st h
      · exact ⟨g, rfl, st⟩
    · exact ⟨g, rfl, st⟩
  · exact ⟨g, rfl, st⟩
theorem preL_sound {env : Env} {o : Oper} (hwal : ∀ b, W b → g.al b) (st : St n w0 W g env.get a w) : ∃ g', g'.al = g.al ∧ St n w0 W g' (preL env o).get a w := by
  unfold preL
  split
  · exact litArg_sound hwal st
  · exact litArg_sound hwal st
  · exact litArg_sound hwal st
  · exact ⟨g, rfl, st⟩
theorem killAt_clean (d : Nat) (e : Ent) : (killAt d e).at d = false := by
  unfold killAt
  cases h : e.at d with
  | true => rfl
  | false => exact h
theorem preE_sound {env : Env} {o : Oper} (hwal : ∀ b, W b → g.al b) (st : St n w0 W g env.get a w) : (∃ g', g'.al = g.al ∧ St n w0 W g' (preE env o).get a w) ∧
    (creates o = true → ∀ d, o.dst = some d → ∀ s, ((preE env o).get s).at d = false) := by
  obtain ⟨g', q1, q2⟩ := preL_sound (o := o) hwal st
  unfold preE
  cases ho : o.dst with
  | none => exact ⟨⟨g', q1, q2⟩, fun _ d hd => by cases hd⟩
  | some d =>
    simp only
    cases hc : creates o with
    | false => exact ⟨⟨g', q1, q2⟩, fun h => by cases h⟩
    | true =>
      simp only [cond_true]
      refine ⟨⟨g', q1, q2.kill fun s => ?_⟩, fun _ d' hd' s => ?_⟩
      · rw [Env.get_map _ rfl]
        unfold killAt
        cases ((preL env o).get s).at d with
        | true => exact .inr rfl
        | false => exact .inl rfl
      · injection hd' with hd'; subst hd'
        rw [Env.get_map _ rfl]; exact killAt_clean d _
theorem step1_sound {o : Oper} {env env' : Env} {r : StepRes} {Q : Exit → Act → World → Prop} (hT : TOK P T) (hK : KOK P K) (hwal : ∀ b, W b → g.al b) (st : St n w0 W g env.get a w) (he : step1 T K env o = some r) (hr : r.get = some env')
    (hd : ∀ d, o.dst = some d → n.has d) :
    Oper.wp P o a w (fun a' w' => ∃ g', g'.al = g.al ∧ St n w0 W g' env'.get a' w') Q := by
  obtain ⟨⟨g1, q1, st1⟩, cl⟩ := preE_sound (o := o) hwal st
  have main : ∀ {r1 : OpRes} {ups : List (Nat × Ent)}, evOp T K (preE env o).get o = some r1 → r1.get = some ups → env' = (preE env o).puts ups → Oper.wp P o a w (fun a' w' => ∃ g', g'.al = g.al ∧ St n w0 W g' env'.get a' w') Q := by
    intro r1 ups h1 h2 h3
    have := evOp_sound (Q := Q) hT hK st1 h1 h2 hd cl
    refine Oper.wp_mono (fun a' w' h => ?_) this
    obtain ⟨g', z1, z2⟩ := h
    exact ⟨g', z1.trans q1, by rw [h3, Env.get_puts]; exact z2⟩
  unfold step1 at he
  split at he
  · rename_i c ups h1
    injection he with he; subst he
    simp only [StepRes.get] at hr
    cases c with
    | false => cases hr
    | true =>
      simp only [cond_true, Option.some.injEq] at hr
      exact main h1 rfl hr.symm
  · rename_i rs x mk h1
    injection he with he; subst he
    simp only [StepRes.get] at hr
    cases x with
    | none => cases hr
    | some y =>
      simp only [Option.some.injEq] at hr
      exact main h1 rfl hr.symm
  · unfold tailE at he
    have hwal1 : ∀ b, W b → g1.al b := fun b hb => by rw [q1]; exact hwal b hb
    split at he
    · rename_i c hop
      split at he
      · rename_i hcal
        split at he
        · rename_i d t1 t2 s x hdst hty hargs
          cases hq : Nat.beq t1 t2 with
          | false =>
            rw [hq] at he; simp only [cond_false] at he
            split at he
            · rename_i e u kk es ex h1 h1' h2 h3
              split at he
              · rename_i cc env2 happ
                injection he with he; subst he
                simp only [StepRes.get] at hr
                cases cc with
                | false => cases hr
                | true =>
                  simp only [cond_true, Option.some.injEq] at hr; subst hr
                  obtain ⟨g', v, w', z1, z2, z3⟩ := appendM_sound (P := P) (ty := o.type) (ti := t2) hT (hT _ _ h1) (hT _ _ h1').und hwal1 st1 (hd d hdst) h2 h3 happ
                  have hats : c.argTypes = #[t1, t2] := by apply Array.ext'; simpa using hty
                  have hargs : c.args.map a.eval = #[a.eval s, a.eval x] := by apply Array.ext'; simp [hargs]
                  refine upon_val (v := v) (w' := w') ?_ ⟨g', z2.trans q1, ?_⟩
                  · simp only [execOp, hop, resolve, hcal, invoke, builtin, Sem.run_bind, Sem.run_pure, Result.andThen_ok, hargs, hats, z1]
                  · rw [hdst]; exact z3
              · cases he
            · cases he
          | true =>
            rw [hq] at he; simp only [cond_true] at he
            have := Nat.eq_of_beq_eq_true hq; subst this
            split at he
            · rename_i e u es ex h1 h2 h3
              split at he
              · rename_i cc env2 happ
                injection he with he; subst he
                simp only [StepRes.get] at hr
                cases cc with
                | false => cases hr
                | true =>
                  simp only [cond_true, Option.some.injEq] at hr; subst hr
                  obtain ⟨g', v, w', z1, z2, z3⟩ := append_sound (P := P) (ty := o.type) hT (hT _ _ h1) hwal1 st1 (hd d hdst) h2 h3 happ
                  have hats : c.argTypes = #[t1, t1] := by apply Array.ext'; simpa using hty
                  have hargs : c.args.map a.eval = #[a.eval s, a.eval x] := by apply Array.ext'; simp [hargs]
                  refine upon_val (v := v) (w' := w') ?_ ⟨g', z2.trans q1, ?_⟩
                  · simp only [execOp, hop, resolve, hcal, invoke, builtin, Sem.run_bind, Sem.run_pure, Result.andThen_ok, hargs, hats, z1]
                  · rw [hdst]; exact z3
              · cases he
            · cases he
        · cases he
      · rename_i f hcal
        split at he
        · rename_i kf x q h1 hargs
          obtain ⟨s1, r1, _⟩ := opE_sound st1.ent h1
          have hf : a.eval f = .func (.func kf) #[] #[] := r1
          obtain ⟨⟨fn, f1, f2, f3⟩, hcalls⟩ := mark_sound hK st1 hd he hr
          unfold Oper.wp
          have hargs : c.args.map a.eval = #[a.eval x, a.eval q] := by apply Array.ext'; simp [hargs]
          have run : (execOp a.eval o).run P w = .ok (.enter kf #[a.eval x, a.eval q]) w := by
            simp only [execOp, hop, resolve, hcal, hf, Deferred.ofValue, invoke, callFunc, Sem.run_bind, Sem.run_pure, Result.andThen_ok, run_program, f1]
            rw [if_neg (by simpa using f2), if_neg (by simp [f3])]
            simp [hargs]
          rw [run]
          simp only [Oper.upon]
          refine hcalls.mono ?_
          rintro e w' ⟨v, rfl, k2⟩
          exact ⟨g1, q1, k2⟩
        · rename_i kf x0 x1 x2 h1 hargs
          obtain ⟨s1, r1, _⟩ := opE_sound st1.ent h1
          have hf : a.eval f = .func (.func kf) #[] #[] := r1
          obtain ⟨⟨fn, f1, f2, f3⟩, hcalls⟩ := eat_sound hK hwal1 st1 hd he hr
          unfold Oper.wp
          have hargs : c.args.map a.eval = #[a.eval x0, a.eval x1, a.eval x2] := by apply Array.ext'; simp [hargs]
          have run : (execOp a.eval o).run P w = .ok (.enter kf #[a.eval x0, a.eval x1, a.eval x2]) w := by
            simp only [execOp, hop, resolve, hcal, hf, Deferred.ofValue, invoke, callFunc, Sem.run_bind, Sem.run_pure, Result.andThen_ok, run_program, f1]
            rw [if_neg (by simpa using f2), if_neg (by simp [f3])]
            simp [hargs]
          rw [run]
          simp only [Oper.upon]
          refine hcalls.mono ?_
          rintro e w' ⟨v, rfl, g', k1, k2⟩
          exact ⟨g', k1.trans q1, k2⟩
        · cases he
      · cases he
    · rename_i t ad x hop
      split at he
      · rename_i ty e agg xs hdst h1 h2 h3
        split at he
        · rename_i env2 hst
          injection he with he; subst he
          simp only [StepRes.get, cond_true, Option.some.injEq] at hr; subst hr
          obtain ⟨g', w', z1, z2, z3⟩ := estore_sound (P := P) hT (hT _ _ h1) hwal1 st1 h2 h3 hst
          refine upon_skip (w' := w') ?_ ⟨g', z2.trans q1, ?_⟩
          · simp only [execOp, hop, Sem.run_bind, Sem.run_pure]
            rw [z1]; rfl
          · rw [hdst]; exact z3
        · cases he
      · cases he
    · rename_i t x k v hop
      split at he
      · rename_i ex ek ev hdst h1 h2 h3
        split at he
        · rename_i env2 hst
          injection he with he; subst he
          simp only [StepRes.get, cond_true, Option.some.injEq] at hr; subst hr
          obtain ⟨w', z1, z3⟩ := mapSet_sound (P := P) hT st1 h1 h2 h3 hst
          refine upon_skip (w' := w') ?_ ⟨g1, q1, ?_⟩
          · simp only [execOp, hop, Sem.run_bind, Sem.run_pure]
            rw [z1]; rfl
          · rw [hdst]; exact z3
        · cases he
      · cases he
    · rename_i t x k v hop
      split at he
      · rename_i ex ek ev hdst h1 h2 h3
        split at he
        · rename_i env2 hst
          injection he with he; subst he
          simp only [StepRes.get, cond_true, Option.some.injEq] at hr; subst hr
          obtain ⟨w', z1, z3⟩ := mapSet_sound (P := P) hT st1 h1 h2 h3 hst
          refine upon_skip (w' := w') ?_ ⟨g1, q1, ?_⟩
          · simp only [execOp, hop, Sem.run_bind, Sem.run_pure]
            rw [z1]; rfl
          · rw [hdst]; exact z3
        · cases he
      · cases he
    · rename_i t x k v hop
      split at he
      · rename_i ex ek ev hdst h1 h2 h3
        split at he
        · rename_i env2 hst
          injection he with he; subst he
          simp only [StepRes.get, cond_true, Option.some.injEq] at hr; subst hr
          obtain ⟨w', z1, z3⟩ := entrySet_sound (P := P) (t := t) st1 h1 h2 h3 hst
          refine upon_skip (w' := w') ?_ ⟨g1, q1, ?_⟩
          · simp only [execOp, hop, Sem.run_bind, Sem.run_pure]
            rw [z1]; rfl
          · rw [hdst]; exact z3
        · cases he
      · cases he
    · cases he
theorem freezes_sound : ∀ {ms : List Nat} {env env' : Env} {g : Gh}, (∀ b, W b → g.al b) → St n w0 W g env.get a w → freezes ms env = some env' → ∃ g', g'.al = g.al ∧ St n w0 W g' env'.get a w
  | [], env, env', g, _, st, h => by injection h with h; subst h; exact ⟨g, rfl, st⟩
  | m :: r, env, env', g, hw, st, h => by
    simp only [freezes] at h
    cases hq : (Nat.beq m 0 || litTag m env) with
    | true => rw [hq] at h; cases h
    | false =>
      rw [hq] at h; simp only [cond_false] at h
      simp only [Bool.or_eq_false_iff] at hq
      have hm := nbeq_ne hq.1
      have st' := st.absorb hw hm hm hq.2
      obtain ⟨g', q1, q2⟩ := freezes_sound (g := g.absorb m m) hw st' h
      exact ⟨g', q1, q2⟩
theorem litArgs_sound : ∀ {xs : List Operand} {env : Env} {g : Gh}, (∀ b, W b → g.al b) → St n w0 W g env.get a w → ∃ g', g'.al = g.al ∧ St n w0 W g' (litArgs xs env).get a w
  | [], env, g, hw, st => ⟨g, rfl, st⟩
  | x :: r, env, g, hw, st => by
    obtain ⟨g1, q1, q2⟩ := litArg_sound (x := x) hw st
    obtain ⟨g2, q3, q4⟩ := litArgs_sound (xs := r) (fun b hb => by rw [q1]; exact hw b hb) q2
    exact ⟨g2, q3.trans q1, q4⟩
theorem stepE_sound {o : Oper} {env env' : Env} {r : StepRes} {Q : Exit → Act → World → Prop} (hT : TOK P T) (hK : KOK P K) (hwal : ∀ b, W b → g.al b) (st : St n w0 W g env.get a w) (he : stepE T K env o = some r) (hr : r.get = some env')
    (hd : ∀ d, o.dst = some d → n.has d) :
    Oper.wp P o a w (fun a' w' => ∃ g', g'.al = g.al ∧ St n w0 W g' env'.get a' w') Q := by
  unfold stepE at he
  split at he
  · rename_i r' hr'
    injection he with he; subst he
    exact step1_sound hT hK hwal st hr' hr hd
  · split at he
    · rename_i e he'
      unfold frzArgs at he'
      split at he'
      · rename_i c _
        split at he'
        · obtain ⟨g1, q1, q2⟩ := litArgs_sound (xs := c.args.toList) hwal st
          obtain ⟨g2, q3, q4⟩ := freezes_sound (g := g1) (fun b hb => by rw [q1]; exact hwal b hb) q2 he'
          have := step1_sound (Q := Q) hT hK (fun b hb => by rw [q3, q1]; exact hwal b hb) q4 he hr hd
          refine Oper.wp_mono (fun a' w' h => ?_) this
          obtain ⟨g', z1, z2⟩ := h
          exact ⟨g', z1.trans (q3.trans q1), z2⟩
        · cases he'
      · cases he'
    · cases he
end
section
variable {T : TTab} {K : CTab} {get get' : Nat → Ent}
theorem slotsOf_mem : ∀ {xs : List Operand} {s : Nat}, Operand.tmp s ∈ xs → s ∈ slotsOf xs
  | [], _, h => by cases h
  | x :: r, s, h => by
    rcases List.mem_cons.1 h with h | h
    · subst h; simp [slotsOf]
    · have := slotsOf_mem h
      cases x <;> simp [slotsOf, this]
theorem opE_congr {x : Operand} (h : ∀ s, x = .tmp s → get' s = get s) : opE get' x = opE get x := by
  cases x with
  | tmp s => simp only [opE]; rw [h s rfl]
  | const v => cases v <;> rfl
  | _ => rfl
theorem partEs_congr : ∀ {ps : List (Nat × Operand)}, (∀ s, Operand.tmp s ∈ ps.map (·.2) → get' s = get s) → partEs get' ps = partEs get ps
  | [], _ => rfl
  | (i, x) :: r, h => by
    simp only [partEs]
    rw [opE_congr (fun s hs => h s (by simp [hs])), partEs_congr (fun s hs => h s (by simp only [List.map_cons, List.mem_cons]; exact .inr hs))]
theorem operEs_congr : ∀ {xs : List Operand}, (∀ s, Operand.tmp s ∈ xs → get' s = get s) → operEs get' xs = operEs get xs
  | [], _ => rfl
  | x :: r, h => by
    simp only [operEs]
    rw [opE_congr (fun s hs => h s (by simp [hs])), operEs_congr (fun s hs => h s (by simp [hs]))]
theorem optI_congr {x : Option Operand} (h : ∀ s, x = some (.tmp s) → get' s = get s) : optI get' x = optI get x := by
  cases x with
  | none => rfl
  | some x => simp only [optI]; rw [opE_congr (fun s hs => h s (by rw [hs]))]
theorem capsOf_congr : ∀ {xs : List Operand}, (∀ s, Operand.tmp s ∈ xs → get' s = get s) → evOp.capsOf get' xs = evOp.capsOf get xs
  | [], _ => rfl
  | x :: r, h => by
    cases x with
    | tmp s => simp only [evOp.capsOf]; rw [h s (by simp), capsOf_congr (fun s hs => h s (by simp [hs]))]
    | _ => rfl
theorem loadE_congr {ty : Ty} {x : Operand} {e : Ent} (h : ∀ r ∈ refOf e, get' r = get r) : loadE get' ty x e = loadE get ty x e := by
  cases e with
  | ref s base t p => simp only [loadE]; rw [h s (by simp [refOf])]
  | _ => rfl
theorem storeE_congr {ty : Ty} {s : Nat} {xs : List Leaf} (h0 : get' s = get s) (h : ∀ r ∈ refOf (get s), get' r = get r) : storeE get' ty s xs = storeE get ty s xs := by
  unfold storeE
  rw [h0]
  cases hs : get s with
  | ref b base t p => simp only; rw [h b (by rw [hs]; simp [refOf])]
  | box ro ls => cases ro <;> rfl
  | _ => rfl
theorem mem_reads {o : Oper} {s : Nat} (h : Operand.tmp s ∈ o.op.operands.toList) : s ∈ readsOf get o := by
  unfold readsOf; exact List.mem_append_left _ (slotsOf_mem h)
theorem mem_refs {o : Oper} {s r : Nat} (h : Operand.tmp s ∈ o.op.operands.toList) (hr : r ∈ refOf (get s)) : r ∈ readsOf get o := by
  unfold readsOf; exact List.mem_append_right _ (List.mem_flatMap.2 ⟨s, slotsOf_mem h, hr⟩)
theorem evOp_congr {o : Oper} (h : ∀ s ∈ readsOf get o, get' s = get s) : evOp T K get' o = evOp T K get o := by
  have h1 : ∀ s, Operand.tmp s ∈ o.op.operands.toList → get' s = get s := fun s hs => h s (mem_reads hs)
  have h2 : ∀ s, Operand.tmp s ∈ o.op.operands.toList → ∀ r ∈ refOf (get s), get' r = get r := fun s hs r hr => h r (mem_refs hs hr)
  have refs : ∀ {x : Operand} {e : Ent}, x ∈ o.op.operands.toList → opE get x = some e → (∀ r ∈ refOf e, get' r = get r) := by
    intro x e hx he
    cases x with
    | tmp s => simp only [opE, Option.some.injEq] at he; subst he; exact h2 s hx
    | const v =>
      simp only [opE] at he
      split at he
      · rename_i heq; cases heq
      · cases hk : kwf _ _ <;> rw [hk] at he
        · cases he
        · injection he with he; subst he; intro r hr; cases hr
      · injection he with he; subst he; intro r hr; cases hr
      · injection he with he; subst he; intro r hr; cases hr
      · cases he
    | func f => simp only [opE, Option.some.injEq] at he; subst he; intro r hr; cases hr
    | _ => simp [opE] at he
  cases hop : o.op with
  | move x =>
    simp only [evOp, hop]
    rw [opE_congr (fun s hs => h1 s (by simp [hop, Op.operands, hs]))]
  | assign x =>
    simp only [evOp, hop]
    rw [opE_congr (fun s hs => h1 s (by simp [hop, Op.operands, hs]))]
  | pick c x y =>
    simp only [evOp, hop]
    rw [opE_congr (x := c) (fun s hs => h1 s (by simp [hop, Op.operands, hs])), opE_congr (x := x) (fun s hs => h1 s (by simp [hop, Op.operands, hs])), opE_congr (x := y) (fun s hs => h1 s (by simp [hop, Op.operands, hs]))]
  | alloc t => simp only [evOp, hop]
  | box t x =>
    simp only [evOp, hop]
    rw [opE_congr (fun s hs => h1 s (by simp [hop, Op.operands, hs]))]
  | build t ps =>
    simp only [evOp, hop]
    rw [partEs_congr (fun s hs => h1 s (by simpa [hop, Op.operands] using hs))]
  | buildSlice t len ps =>
    simp only [evOp, hop]
    rw [partEs_congr (fun s hs => h1 s (by simpa [hop, Op.operands] using hs))]
  | load t x =>
    simp only [evOp, hop]
    rw [opE_congr (fun s hs => h1 s (by simp [hop, Op.operands, hs]))]
    split
    · rename_i ty e h3 h4
      rw [loadE_congr (refs (x := x) (by simp [hop, Op.operands]) h4)]
    · rfl
  | fieldAddr t x f =>
    simp only [evOp, hop]
    rw [opE_congr (fun s hs => h1 s (by simp [hop, Op.operands, hs]))]
  | field t x f =>
    simp only [evOp, hop]
    rw [opE_congr (fun s hs => h1 s (by simp [hop, Op.operands, hs]))]
  | indexAddr t x ix =>
    simp only [evOp, hop]
    rw [opE_congr (x := x) (fun s hs => h1 s (by simp [hop, Op.operands, hs])), opE_congr (x := ix) (fun s hs => h1 s (by simp [hop, Op.operands, hs]))]
  | binOp op t x y z =>
    simp only [evOp, hop]
    rw [opE_congr (x := x) (fun s hs => h1 s (by simp [hop, Op.operands, hs])), opE_congr (x := y) (fun s hs => h1 s (by simp [hop, Op.operands, hs]))]
  | unOp op t x =>
    simp only [evOp, hop]
    rw [opE_congr (fun s hs => h1 s (by simp [hop, Op.operands, hs]))]
  | convert s t x =>
    simp only [evOp, hop]
    rw [opE_congr (fun s hs => h1 s (by simp [hop, Op.operands, hs]))]
  | extract x i =>
    simp only [evOp, hop]
    rw [opE_congr (fun s hs => h1 s (by simp [hop, Op.operands, hs]))]
  | makeMap t rs => cases rs <;> simp only [evOp, hop]
  | lookup t x y ok =>
    cases ok with
    | true => simp only [evOp, hop]
    | false =>
      simp only [evOp, hop]
      rw [opE_congr (x := x) (fun s hs => h1 s (by simp [hop, Op.operands, hs])), opE_congr (x := y) (fun s hs => h1 s (by simp [hop, Op.operands, hs]))]
  | mapEntry t x y =>
    simp only [evOp, hop]
    rw [opE_congr (x := x) (fun s hs => h1 s (by simp [hop, Op.operands, hs])), opE_congr (x := y) (fun s hs => h1 s (by simp [hop, Op.operands, hs]))]
  | slice t x lo hi mx =>
    simp only [evOp, hop]
    rw [opE_congr (x := x) (fun s hs => h1 s (by simp [hop, Op.operands, hs])), optI_congr (x := lo) (fun s hs => h1 s (by simp [hop, Op.operands, hs])), optI_congr (x := hi) (fun s hs => h1 s (by simp [hop, Op.operands, hs]))]
  | makeSlice t l c =>
    simp only [evOp, hop]
    rw [opE_congr (x := l) (fun s hs => h1 s (by simp [hop, Op.operands, hs])), opE_congr (x := c) (fun s hs => h1 s (by simp [hop, Op.operands, hs]))]
  | makeFunc f fi ca =>
    cases f with
    | func f =>
      simp only [evOp, hop]
      rw [capsOf_congr (fun s hs => h1 s (by simp only [hop, Op.operands, Array.toList_append, List.mem_append]; exact .inr hs))]
    | _ => simp only [evOp, hop]
  | call c =>
    have hargs : operEs get' c.args.toList = operEs get c.args.toList := operEs_congr (fun s hs => h1 s (by simp only [hop, Op.operands, Call.operands, Array.toList_append, List.mem_append]; exact .inr hs))
    simp only [evOp, hop]
    split
    · rw [hargs]
    · rw [hargs]
    · rw [hargs]
    · rename_i f hcal
      have hm : f ∈ o.op.operands.toList := by simp [hop, Op.operands, Call.operands, hcal]
      rw [hargs, opE_congr (x := f) (fun s hs => h1 s (by rw [← hs]; exact hm))]
      split
      · rename_i fid caps es h3 h4
        have hc : ∀ r ∈ caps, get' r = get r := refs hm h3
        have e1 : (caps.all fun s => isBox (get' s)) = caps.all fun s => isBox (get s) := by
          clear h3
          induction caps with
          | nil => rfl
          | cons x r ih => simp only [List.all_cons]; rw [hc x (by simp), ih (fun r hr => hc r (by simp [hr]))]
        have e2 : caps.map get' = caps.map get := List.map_congr_left hc
        rw [e1, e2]
      · rfl
    · rfl
  | store t x y =>
    simp only [evOp, hop]
    rw [opE_congr (x := y) (fun s hs => h1 s (by simp [hop, Op.operands, hs]))]
    split
    · rename_i ty s agg xs h3 h4 h5
      have hm : Operand.tmp s ∈ o.op.operands.toList := by simp [hop, Op.operands]
      rw [storeE_congr (h1 s hm) (h2 s hm)]
    · rfl
  | _ => simp only [evOp, hop]
end
def opK {α : Type} (T : TTab) (K : CTab) (env : Env) (o : Oper) (k : Env → Option α) : Option α :=
  match stepE T K env o with
  | some (.ok c env') => bif c then k env' else none
  | some (.callr _ x mk) => (match x with | some r => k (mk r) | none => none)
  | none => none
def deadE (env : Env) (o : Oper) : Env :=
  match o.dst with
  | some d => env.put d (.tup [])
  | none => env
def guardK {α : Type} (L : List Oper) (env : Env) (o : Oper) (k : Env → Bool → Option α) : Option α :=
  match o.guard with
  | none => k env true
  | some (j, want) => (match L[j]? with
    | some oj => (match oj.dst with
      | some dj => (match env.get dj with
        | .val false [.fz .bool 0 false b] => bif b then k (env.put dj (boolE true)) want else k (env.put dj (boolE false)) (!want)
        | .tup [] => k env false
        | _ => none)
      | none => none)
    | none => none)
def seqK {α : Type} (T : TTab) (K : CTab) (L : List Oper) : List Nat → Env → (Env → Option α) → Option α
  | [], env, k => k env
  | i :: is, env, k => (match L[i]? with
    | none => seqK T K L is env k
    | some o => guardK L env o fun env1 wanted => bif wanted then opK T K env1 o (fun e => seqK T K L is e k) else seqK T K L is (deadE env1 o) k)
section
variable {α : Type} {P : Program} {T : TTab} {K : CTab} {n : NS} {w0 w : World} {W : Nat → Prop} {g : Gh} {get : Nat → Ent} {a : Act} {d : Nat} {L : List Oper} {A : Nat → Prop}
theorem opK_inv {env : Env} {o : Oper} {k : Env → Option α} {y : α} (h : opK T K env o k = some y) : ∃ r env', stepE T K env o = some r ∧ r.get = some env' ∧ k env' = some y := by
  unfold opK at h
  split at h
  · rename_i c env' hs
    cases c with
    | false => cases h
    | true => exact ⟨_, env', hs, rfl, h⟩
  · rename_i rs x mk hs
    cases x with
    | none => cases h
    | some r => exact ⟨_, mk r, hs, rfl, h⟩
  · cases h
theorem put_eq {env : Env} {s : Nat} {e : Ent} (h : env.get s = e) : (env.put s e).get = env.get := by
  funext s'
  rw [Env.get_put]
  by_cases q : s' = s
  · rw [if_pos q, q, h]
  · rw [if_neg q]
theorem bool_at {h : Mem} {s : Nat} {b : Bool} {v : Value} (he : EntR g h s (.val false [.fz .bool 0 false b]) v) : v = .bool b := by
  obtain ⟨bs, hl, _⟩ := val1 he
  obtain ⟨⟨h1, _⟩, _⟩ := hl
  injection h1
theorem yielded_undef {h : Mem} {j dj : Nat} {oj : Oper} (hj : L[j]? = some oj) (hdj : oj.dst = some dj) (he : EntR g h dj (.tup []) (a.tmps.getD dj undef)) : yielded L.toArray a.tmps j = none := by
  obtain ⟨vs, h1, h2⟩ := he
  simp only [yielded, List.getElem?_toArray, hj, Option.bind_some, hdj]
  rw [Array.getD_eq_getD_getElem?] at h1
  cases hq : a.tmps[dj]? with
  | none => rfl
  | some v =>
    rw [hq] at h1
    have h1 : v = .tuple vs := h1
    rw [h1]
theorem guardK_inv {env : Env} {o : Oper} {k : Env → Bool → Option α} {y : α} (st : St n w0 W g env.get a w) (h : guardK L env o k = some y) :
    ∃ wanted env1, k env1 wanted = some y ∧ env1.get = env.get ∧ Region.wanted o (yielded L.toArray a.tmps) = wanted ∧
      (o.guard = none ∧ wanted = true ∨ (∃ j want oj dj b, o.guard = some (j, want) ∧ L[j]? = some oj ∧ oj.dst = some dj ∧ env.get dj = .val false [.fz .bool 0 false b] ∧ wanted = (b == want)) ∨ ∃ j want oj dj, o.guard = some (j, want) ∧ L[j]? = some oj ∧ oj.dst = some dj ∧ env.get dj = .tup [] ∧ wanted = false) := by
  unfold guardK at h
  split at h
  · rename_i hg; exact ⟨true, env, h, rfl, by simp [Region.wanted, hg], .inl ⟨hg, rfl⟩⟩
  · rename_i j want hg
    split at h
    · rename_i oj hj
      split at h
      · rename_i dj hdj
        split at h
        · rename_i b hget
          have hv := st.ent dj; rw [hget] at hv
          have hv := bool_at hv
          have hy : yielded L.toArray a.tmps j = some b := by
            have hlt : dj < a.tmps.size := by
              rcases Nat.lt_or_ge dj a.tmps.size with q | q
              · exact q
              · rw [Array.getD_eq_getD_getElem?, Array.getElem?_eq_none q] at hv; cases hv
            have h2 : a.tmps[dj]? = some (.bool b) := by
              rw [Array.getD_eq_getD_getElem?, Array.getElem?_eq_getElem hlt] at hv
              rw [Array.getElem?_eq_getElem hlt]; congr 1
            simp only [yielded, List.getElem?_toArray, hj, Option.bind_some, hdj, h2]
          have hw : Region.wanted o (yielded L.toArray a.tmps) = (b == want) := by
            simp only [Region.wanted, hg, hy]
            cases b <;> cases want <;> rfl
          cases b with
          | true =>
            refine ⟨want, _, h, put_eq hget, by rw [hw]; cases want <;> rfl, .inr (.inl ⟨j, want, oj, dj, true, hg, hj, hdj, hget, by cases want <;> rfl⟩)⟩
          | false =>
            refine ⟨!want, _, h, put_eq hget, by rw [hw]; cases want <;> rfl, .inr (.inl ⟨j, want, oj, dj, false, hg, hj, hdj, hget, by cases want <;> rfl⟩)⟩
        · rename_i hget
          have hv := st.ent dj; rw [hget] at hv
          refine ⟨false, env, h, rfl, ?_, .inr (.inr ⟨j, want, oj, dj, hg, hj, hdj, hget, rfl⟩)⟩
          simp only [Region.wanted, hg, yielded_undef hj hdj hv]
          rfl
        · cases h
      · cases h
    · cases h
theorem St.get_eq {env env' : Nat → Ent} (st : St n w0 W g env a w) (h : env' = env) : St n w0 W g env' a w := by rw [h]; exact st
theorem St.undef {o : Oper} {env : Nat → Ent} (st : St n w0 W g env a w) (hd : ∀ d, o.dst = some d → n.has d) : St n w0 W g (match o.dst with | some d => upd env d (.tup []) | none => env) (a.put o.dst undef) w := by
  cases ho : o.dst with
  | none => exact st
  | some d =>
    have hdn := hd d ho
    refine ⟨st.inv, fun s => ?_, st.szPut hdn, by simp [Act.put, st.df], st.os, st.tape, st.output⟩
    rw [put_getD (by rw [st.sz.1]; exact hdn.1)]
    simp only [upd]
    by_cases h : s = d
    · simp only [if_pos h]; exact ⟨#[], rfl, rfl⟩
    · simp only [if_neg h]; exact st.ent s
theorem deadE_get {env : Env} {o : Oper} : (deadE env o).get = (match o.dst with | some d => upd env.get d (.tup []) | none => env.get) := by
  unfold deadE
  cases o.dst with
  | none => rfl
  | some d => funext s; simp only [Env.get_put, upd]
theorem seqK_sound {Q : Exit → Act → World → Prop} (hT : TOK P T) (hK : KOK P K) (hwal : ∀ b, W b → A b) (hd : ∀ (i : Nat) (o : Oper), L[i]? = some o → ∀ d, o.dst = some d → n.has d) : ∀ {is : List Nat} {env : Env} {k : Env → Option α} {y : α} {a : Act} {w : World} {g : Gh},
    seqK T K L is env k = some y → St n w0 W g env.get a w → g.al = A → (∀ env' a' w' g', k env' = some y → St n w0 W g' env'.get a' w' → g'.al = A → Q .normal a' w') → wpOps P L.toArray Q is a w
  | [], env, k, y, a, w, g, h, st, hA, hk => by
    simp only [wpOps]; exact hk env a w g h st hA
  | i :: is, env, k, y, a, w, g, h, st, hA, hk => by
    simp only [wpOps, List.getElem?_toArray]
    simp only [seqK] at h
    cases hi : L[i]? with
    | none => rw [hi] at h; simp only at h ⊢; exact seqK_sound hT hK hwal hd h st hA hk
    | some o =>
      rw [hi] at h; simp only at h ⊢
      obtain ⟨wanted, env1, h1, h2, h3, _⟩ := guardK_inv st h
      have st1 := st.get_eq h2
      rw [h3]
      cases wanted with
      | true =>
        simp only [cond_true] at h1
        simp only [if_true]
        left
        obtain ⟨r, env', q1, q2, q3⟩ := opK_inv h1
        have := stepE_sound (Q := Q) hT hK (fun b hb => by rw [hA]; exact hwal b hb) st1 q1 q2 (hd i o hi)
        refine Oper.wp_mono (fun a' w' hh => ?_) this
        obtain ⟨g', z1, z2⟩ := hh
        exact seqK_sound hT hK hwal hd q3 z2 (z1.trans hA) hk
      | false =>
        simp only [cond_false] at h1
        simp only [Bool.false_eq_true, if_false]
        have := st1.undef (hd i o hi)
        exact seqK_sound hT hK hwal hd h1 (this.get_eq deadE_get) hA hk
end
def aftB (o : Oper) : List Nat := (o.after.toList.filter (Region.binds .any)).map (·.on)
def preMask (done : List Nat) : List Nat → Nat
  | [] => 0
  | j :: r => preMask done r ||| (1 <<< j ||| done.getD j 0)
def presL : List Oper → List Nat → List Nat
  | [], done => done
  | o :: r, done => presL r (done ++ [preMask done (aftB o)])
def tgt (o : Oper) : Option Nat :=
  match o.dst with
  | some d => some d
  | none => (match o.op with
    | .store _ (.tmp s) _ => bif o.guard.isNone then some s else none
    | _ => none)
def gslot (L : List Oper) (o : Oper) : List Nat :=
  match o.guard with
  | some (j, _) => (match L[j]? with | some oj => oj.dst.toList | none => [])
  | none => []
def prefK {α : Type} (T : TTab) (K : CTab) (L : List Oper) : List Oper → Env → List Nat → List Ent → List (List Nat) → (Env → List Nat → List Ent → List (List Nat) → Option α) → Option α
  | [], env, D, es, rds, k => k env D es rds
  | o :: r, env, D, es, rds, k => (match tgt o with
    | none => none
    | some d => bif o.dst.isSome && memN D d then none else guardK L env o fun env1 wanted =>
      bif wanted then (match evOp T K env1.get o with
        | some (.ok c ups) => (match ups with
          | [(d', e)] => bif Nat.beq d' d then (bif c then prefK T K L r (env1.put d e) (D ++ [d]) (es ++ [e]) (rds ++ [gslot L o ++ readsOf env1.get o]) k else none) else none
          | _ => none)
        | some (.callr _ x mk) => (match x with
          | some y => (match mk y with
            | [(d', e)] => bif Nat.beq d' d then prefK T K L r (env1.put d e) (D ++ [d]) (es ++ [e]) (rds ++ [gslot L o ++ readsOf env1.get o]) k else none
            | _ => none)
          | none => none)
        | none => none)
      else prefK T K L r (env1.put d (.tup [])) (D ++ [d]) (es ++ [.tup []]) (rds ++ [gslot L o ++ readsOf env1.get o]) k)
def splitM : List Nat → Nat → Nat
  | [], n => n
  | p :: r, n => bif Nat.beq p (2 ^ (n - 1) - 1) then splitM r (n - 1) else n
def edgesOk : List Oper → Nat → Bool
  | [], _ => true
  | o :: r, i => (aftB o).all (fun j => Nat.blt j i) && edgesOk r (i + 1)
def tailOk : List Nat → Nat → Nat → Bool
  | [], _, _ => true
  | p :: r, m, i => (Nat.blt i m || Nat.beq p (2 ^ i - 1)) && tailOk r m (i + 1)
def slotOk (pres : List Nat) (s j : Nat) : List Nat → Nat → Bool
  | [], _ => true
  | d :: r, x => (!(Nat.beq d s) || Nat.beq x j || (Nat.blt x j && (pres.getD j 0).testBit x) || (Nat.blt j x && (pres.getD x 0).testBit j)) && slotOk pres s j r (x + 1)
def readsOk (D pres : List Nat) : List (List Nat) → Nat → Bool
  | [], _ => true
  | rd :: r, j => (rd.all fun s => slotOk pres s j D 0) && readsOk D pres r (j + 1)
def notAt (pres : List Nat) (d j : Nat) : List Ent → Nat → Bool
  | [], _ => true
  | e :: r, i => (Nat.beq i j || (pres.getD i 0).testBit j || !(e.at d)) && notAt pres d j r (i + 1)
def atOk (pres : List Nat) (es : List Ent) : List Oper → Nat → Bool
  | [], _ => true
  | o :: r, j => (match o.dst with | some d => !(creates o) || notAt pres d j es 0 | none => true) && atOk pres es r (j + 1)
def killC : List Oper → Env → Env
  | [], env => env
  | o :: r, env => (match o.dst with
    | some d => bif creates o then killC r (env.map (killAt d)) else killC r env
    | none => killC r env)
def drawAt {α : Type} (T : TTab) (K : CTab) (L : List Oper) (pres : List Nat) (m : Nat) (env : Env) (k : Env → Option α) : Option α :=
  bif edgesOk L 0 && tailOk pres m 0 then
    prefK T K L (L.take m) (killC (L.take m) env) [] [] [] fun env1 D es rds =>
      bif readsOk D pres rds 0 && atOk pres es (L.take m) 0 then seqK T K L (List.range' m (L.length - m)) env1 k else none
  else none
def drawK {α : Type} (T : TTab) (K : CTab) (L : List Oper) (env : Env) (k : Env → Option α) : Option α :=
  drawAt T K L (presL L []) (splitM (presL L []).reverse L.length) env k
theorem presL_len : ∀ (L : List Oper) (done : List Nat), ∃ t, presL L done = done ++ t ∧ t.length = L.length
  | [], done => ⟨[], by simp [presL]⟩
  | o :: r, done => by
    obtain ⟨t, h1, h2⟩ := presL_len r (done ++ [preMask done (aftB o)])
    exact ⟨preMask done (aftB o) :: t, by simp [presL, h1], by simp [h2]⟩
theorem presL_get : ∀ (L : List Oper) (done : List Nat) (i : Nat) (o : Oper), L[i]? = some o → (presL L done).getD (done.length + i) 0 = preMask ((presL L done).take (done.length + i)) (aftB o)
  | [], done, i, o, h => by cases h
  | x :: r, done, 0, o, h => by
    simp only [List.getElem?_cons_zero, Option.some.injEq] at h; subst h
    obtain ⟨t, h1, h2⟩ := presL_len r (done ++ [preMask done (aftB x)])
    simp only [presL, h1, Nat.add_zero]
    rw [List.getD_eq_getElem?_getD]
    simp
  | x :: r, done, i + 1, o, h => by
    have := presL_get r (done ++ [preMask done (aftB x)]) i o (by simpa using h)
    simp only [List.length_append, List.length_singleton] at this
    rw [show done.length + (i + 1) = done.length + 1 + i by omega]
    exact this
theorem preMask_bit {done : List Nat} : ∀ {l : List Nat} {x : Nat}, (preMask done l).testBit x = true → ∃ j ∈ l, x = j ∨ (done.getD j 0).testBit x = true
  | [], x, h => by simp [preMask] at h
  | j :: r, x, h => by
    simp only [preMask, Nat.testBit_or, Bool.or_eq_true] at h
    rcases h with h | h | h
    · obtain ⟨j', h1, h2⟩ := preMask_bit h; exact ⟨j', by simp [h1], h2⟩
    · rw [Nat.one_shiftLeft, Nat.testBit_two_pow] at h
      exact ⟨j, by simp, .inl (by simpa using (of_decide_eq_true h).symm)⟩
    · exact ⟨j, by simp, .inr h⟩
theorem pre_sub {L : List Oper} {S : Nat → Prop} (hS : ∀ (i : Nat) (o : Oper), L[i]? = some o → S i → ∀ j ∈ aftB o, S j) : ∀ (i : Nat) (o : Oper), L[i]? = some o → (∀ j ∈ aftB o, S j) → ∀ x, ((presL L []).getD i 0).testBit x = true → S x := by
  intro i
  induction i using Nat.strongRecOn with
  | _ i ih =>
    intro o ho hj x hx
    have e := presL_get L [] i o ho
    simp only [List.length_nil, Nat.zero_add] at e
    rw [e] at hx
    obtain ⟨j, h1, h2⟩ := preMask_bit hx
    rcases h2 with rfl | h2
    · exact hj x h1
    · rcases Nat.lt_or_ge j i with hlt | hge
      · have e2 : ((presL L []).take i).getD j 0 = (presL L []).getD j 0 := by
          rw [List.getD_eq_getElem?_getD, List.getD_eq_getElem?_getD, List.getElem?_take_of_lt hlt]
        rw [e2] at h2
        have hl : j < L.length := by
          have : i < L.length := by
            rcases Nat.lt_or_ge i L.length with q | q
            · exact q
            · rw [List.getElem?_eq_none q] at ho; cases ho
          omega
        exact ih j hlt L[j] (List.getElem?_eq_getElem hl) (hS j L[j] (List.getElem?_eq_getElem hl) (hj j h1)) x h2
      · rw [List.getD_eq_getElem?_getD, List.getElem?_eq_none (by simp; omega)] at h2
        simp at h2
def mixG : List Nat → List Ent → Nat → (Nat → Bool) → Nat → Ent → Ent
  | d :: r, e :: t, i, f, s, c => mixG r t (i + 1) f s (bif Nat.beq d s && f i then e else c)
  | [], _, _, _, _, c => c
  | _ :: _, [], _, _, _, c => c
def mixR (get0 : Nat → Ent) (D : List Nat) (es : List Ent) (f : Nat → Bool) (s : Nat) : Ent := mixG D es 0 f s (get0 s)
theorem mixG_congr : ∀ {D : List Nat} {es : List Ent} {i : Nat} {f f' : Nat → Bool} {s : Nat} {c : Ent}, (∀ x, D[x]? = some s → f (i + x) = f' (i + x)) → mixG D es i f s c = mixG D es i f' s c
  | [], _, _, _, _, _, _, _ => rfl
  | _ :: _, [], _, _, _, _, _, _ => rfl
  | d :: r, e :: t, i, f, f', s, c, h => by
    simp only [mixG]
    have e0 : (Nat.beq d s && f i) = (Nat.beq d s && f' i) := by
      cases hq : Nat.beq d s with
      | false => rfl
      | true => have := h 0 (by simp [Nat.eq_of_beq_eq_true hq]); simpa using this
    rw [e0]
    exact mixG_congr fun x hx => by rw [show i + 1 + x = i + (x + 1) by omega]; exact h (x + 1) (by simpa using hx)
theorem mixG_append : ∀ {D : List Nat} {es : List Ent} {d : Nat} {e : Ent} {i : Nat} {f : Nat → Bool} {s : Nat} {c : Ent}, es.length = D.length → mixG (D ++ [d]) (es ++ [e]) i f s c = bif Nat.beq d s && f (i + D.length) then e else mixG D es i f s c
  | [], [], d, e, i, f, s, c, _ => rfl
  | x :: r, y :: t, d, e, i, f, s, c, h => by
    simp only [List.cons_append, mixG]
    rw [mixG_append (by simpa using h), List.length_cons, show i + 1 + r.length = i + (r.length + 1) by omega]
  | [], _ :: _, _, _, _, _, _, _, h => by simp at h
  | _ :: _, [], _, _, _, _, _, _, h => by simp at h
theorem mixG_none : ∀ {D : List Nat} {es : List Ent} {i : Nat} {f : Nat → Bool} {s : Nat} {c : Ent}, (∀ x, i ≤ x → f x = false) → mixG D es i f s c = c
  | [], _, _, _, _, _, _ => rfl
  | _ :: _, [], _, _, _, _, _ => rfl
  | d :: r, e :: t, i, f, s, c, h => by
    simp only [mixG]
    rw [h i (Nat.le_refl _), Bool.and_false, cond_false]
    exact mixG_none fun x hx => h x (by omega)
theorem mixG_stable : ∀ {D t : List Nat} {es t' : List Ent} {i n : Nat} {s : Nat} {c : Ent}, es.length = D.length → n ≤ i + D.length → mixG (D ++ t) (es ++ t') i (fun x => decide (x < n)) s c = mixG D es i (fun x => decide (x < n)) s c
  | [], t, [], t', i, n, s, c, _, h => mixG_none fun x hx => decide_eq_false (by simp at h; omega)
  | d :: r, t, e :: u, t', i, n, s, c, hl, h => by
    simp only [List.cons_append, mixG]
    exact mixG_stable (by simpa using hl) (by simp at h; omega)
  | [], _, _ :: _, _, _, _, _, _, h, _ => by simp at h
  | _ :: _, _, [], _, _, _, _, _, h, _ => by simp at h
theorem mixG_last : ∀ {D : List Nat} {es : List Ent} {i x : Nat} {f : Nat → Bool} {s : Nat} {c e : Ent}, D[x]? = some s → es[x]? = some e → f (i + x) = true → (∀ z, x < z → D[z]? = some s → f (i + z) = false) → mixG D es i f s c = e
  | [], _, _, x, _, _, _, _, h, _, _, _ => by cases h
  | _ :: _, [], _, x, _, _, _, _, _, h, _, _ => by cases h
  | d :: r, y :: t, i, 0, f, s, c, e, h1, h2, h3, h4 => by
    simp only [List.getElem?_cons_zero, Option.some.injEq] at h1 h2
    subst h1; subst h2
    simp only [mixG, Nat.beq_refl, Bool.true_and]
    rw [show i + 0 = i from rfl] at h3
    rw [h3, cond_true, mixG_congr (f' := fun _ => false) fun z hz => by
      rw [show i + 1 + z = i + (z + 1) by omega]; exact h4 (z + 1) (by omega) (by simpa using hz)]
    exact mixG_none fun _ _ => rfl
  | d :: r, y :: t, i, x + 1, f, s, c, e, h1, h2, h3, h4 => by
    simp only [mixG]
    refine mixG_last (x := x) (by simpa using h1) (by simpa using h2) ?_ fun z hz hD => ?_
    · rw [show i + 1 + x = i + (x + 1) by omega]; exact h3
    · rw [show i + 1 + z = i + (z + 1) by omega]; exact h4 (z + 1) (by omega) (by simpa using hD)
theorem mixG_cases : ∀ {D : List Nat} {es : List Ent} {i : Nat} {f : Nat → Bool} {s : Nat} {c : Ent}, mixG D es i f s c = c ∨ ∃ x e, D[x]? = some s ∧ es[x]? = some e ∧ f (i + x) = true ∧ mixG D es i f s c = e
  | [], _, _, _, _, _ => .inl rfl
  | _ :: _, [], _, _, _, _ => .inl rfl
  | d :: r, y :: t, i, f, s, c => by
    simp only [mixG]
    rcases mixG_cases (D := r) (es := t) (i := i + 1) (f := f) (s := s) (c := bif Nat.beq d s && f i then y else c) with h | ⟨x, e, h1, h2, h3, h4⟩
    · cases hq : (Nat.beq d s && f i) with
      | false => rw [hq] at h; exact .inl h
      | true =>
        rw [hq] at h
        simp only [Bool.and_eq_true] at hq
        exact .inr ⟨0, y, by simp [Nat.eq_of_beq_eq_true hq.1], by simp, hq.2, h⟩
    · exact .inr ⟨x + 1, e, by simpa using h1, by simpa using h2, by rw [show i + (x + 1) = i + 1 + x by omega]; exact h3, h4⟩
theorem mixR_stable {get0 : Nat → Ent} {D t : List Nat} {es t' : List Ent} {i : Nat} (hl : es.length = D.length) (hi : i ≤ D.length) :
    mixR get0 (D ++ t) (es ++ t') (fun x => decide (x < i)) = mixR get0 D es (fun x => decide (x < i)) := by
  funext s
  exact mixG_stable hl (by omega)
theorem mixR_put {get0 : Nat → Ent} {D : List Nat} {es : List Ent} {d : Nat} {e : Ent} (hl : es.length = D.length) :
    upd (mixR get0 D es (fun x => decide (x < D.length))) d e = mixR get0 (D ++ [d]) (es ++ [e]) (fun x => decide (x < (D ++ [d]).length)) := by
  funext s
  unfold mixR upd
  rw [mixG_append hl, Nat.zero_add, decide_eq_true (by simp), Bool.and_true]
  by_cases h : s = d
  · subst h; rw [if_pos rfl, Nat.beq_refl, cond_true]
  · rw [if_neg h, nbeq_f (fun q => h q.symm), cond_false]
    exact mixG_congr fun x hx => by
      have : x < D.length := by
        rcases Nat.lt_or_ge x D.length with q | q
        · exact q
        · rw [List.getElem?_eq_none q] at hx; cases hx
      simp; omega
def WantedIn (L : List Oper) (get : Nat → Ent) (o : Oper) (wanted : Bool) : Prop :=
  o.guard = none ∧ wanted = true ∨ (∃ j want oj dj b, o.guard = some (j, want) ∧ L[j]? = some oj ∧ oj.dst = some dj ∧ get dj = .val false [.fz .bool 0 false b] ∧ wanted = (b == want)) ∨ ∃ j want oj dj, o.guard = some (j, want) ∧ L[j]? = some oj ∧ oj.dst = some dj ∧ get dj = .tup [] ∧ wanted = false
structure Fact (T : TTab) (K : CTab) (L : List Oper) (get0 : Nat → Ent) (D : List Nat) (es : List Ent) (rds : List (List Nat)) (i : Nat) (o : Oper) : Prop where
  ex : ∃ d e rd wanted, tgt o = some d ∧ D[i]? = some d ∧ (∀ x, x < i → D[x]? = some d → d ∈ rd) ∧ es[i]? = some e ∧ rds[i]? = some rd ∧ rd = gslot L o ++ readsOf (mixR get0 D es (fun x => decide (x < i))) o ∧
    WantedIn L (mixR get0 D es (fun x => decide (x < i))) o wanted ∧ (wanted = true → ∃ r, evOp T K (mixR get0 D es (fun x => decide (x < i))) o = some r ∧ r.get = some [(d, e)]) ∧ (wanted = false → e = .tup [])
section
variable {α : Type} {P : Program} {T : TTab} {K : CTab} {L : List Oper}
theorem guardK_pure {env : Env} {o : Oper} {k : Env → Bool → Option α} {y : α} (h : guardK L env o k = some y) :
    ∃ wanted env1, k env1 wanted = some y ∧ env1.get = env.get ∧ WantedIn L env.get o wanted := by
  unfold guardK at h
  split at h
  · rename_i hg; exact ⟨true, env, h, rfl, .inl ⟨hg, rfl⟩⟩
  · rename_i j want hg
    split at h
    · rename_i oj hj
      split at h
      · rename_i dj hdj
        split at h
        · rename_i b hget
          cases b with
          | true => exact ⟨want, _, h, put_eq hget, .inr (.inl ⟨j, want, oj, dj, true, hg, hj, hdj, hget, by cases want <;> rfl⟩)⟩
          | false => exact ⟨!want, _, h, put_eq hget, .inr (.inl ⟨j, want, oj, dj, false, hg, hj, hdj, hget, by cases want <;> rfl⟩)⟩
        · rename_i hget
          exact ⟨false, env, h, rfl, .inr (.inr ⟨j, want, oj, dj, hg, hj, hdj, hget, rfl⟩)⟩
        · cases h
      · cases h
    · cases h
theorem tgt_read {get : Nat → Ent} {o : Oper} {d : Nat} (h : tgt o = some d) (hn : o.dst.isSome = true → False) : d ∈ readsOf get o := by
  unfold tgt at h
  split at h
  · rename_i d' hd; exact absurd (by rw [hd]; rfl) hn
  · split at h
    · rename_i t s y hop
      cases hq : o.guard.isNone with
      | false => rw [hq] at h; cases h
      | true =>
        rw [hq] at h; injection h with h; subst h
        exact mem_reads (by rw [hop]; simp [Op.operands])
    · cases h
theorem prefK_inv {get0 : Nat → Ent} : ∀ {ops : List Oper} {env : Env} {D : List Nat} {es : List Ent} {rds : List (List Nat)} {k : Env → List Nat → List Ent → List (List Nat) → Option α} {y : α},
    prefK T K L ops env D es rds k = some y → env.get = mixR get0 D es (fun x => decide (x < D.length)) → es.length = D.length → rds.length = D.length →
    ∃ env' D' es' rds', k env' D' es' rds' = some y ∧ (∃ t, D' = D ++ t) ∧ (∃ t, es' = es ++ t) ∧ (∃ t, rds' = rds ++ t) ∧ D'.length = D.length + ops.length ∧ es'.length = D'.length ∧ rds'.length = D'.length ∧
      env'.get = mixR get0 D' es' (fun x => decide (x < D'.length)) ∧ ∀ (i : Nat) (o : Oper), ops[i]? = some o → Fact T K L get0 D' es' rds' (D.length + i) o
  | [], env, D, es, rds, k, y, h, hE, h1, h2 => ⟨env, D, es, rds, h, ⟨[], by simp⟩, ⟨[], by simp⟩, ⟨[], by simp⟩, by simp, h1, h2, hE, fun i o ho => by cases ho⟩
  | o :: r, env, D, es, rds, k, y, h, hE, h1, h2 => by
    simp only [prefK] at h
    split at h
    · cases h
    · rename_i d hd
      cases hm : (o.dst.isSome && memN D d) with
      | true => rw [hm] at h; cases h
      | false =>
        rw [hm] at h; simp only [cond_false] at h
        obtain ⟨wanted, env1, q1, q2, q3⟩ := guardK_pure h
        have go : ∀ (e : Ent), prefK T K L r (env1.put d e) (D ++ [d]) (es ++ [e]) (rds ++ [gslot L o ++ readsOf env1.get o]) k = some y → (wanted = true → ∃ r, evOp T K env1.get o = some r ∧ r.get = some [(d, e)]) → (wanted = false → e = .tup []) →
            ∃ env' D' es' rds', k env' D' es' rds' = some y ∧ (∃ t, D' = D ++ t) ∧ (∃ t, es' = es ++ t) ∧ (∃ t, rds' = rds ++ t) ∧ D'.length = D.length + (o :: r).length ∧ es'.length = D'.length ∧ rds'.length = D'.length ∧
              env'.get = mixR get0 D' es' (fun x => decide (x < D'.length)) ∧ ∀ (i : Nat) (o' : Oper), (o :: r)[i]? = some o' → Fact T K L get0 D' es' rds' (D.length + i) o' := by
          intro e hp hw hn
          have hE' : (env1.put d e).get = mixR get0 (D ++ [d]) (es ++ [e]) (fun x => decide (x < (D ++ [d]).length)) := by
            rw [← mixR_put h1, ← hE, ← q2]
            funext s; rw [Env.get_put]; rfl
          obtain ⟨env', D', es', rds', z1, ⟨t1, z2⟩, ⟨t2, z3⟩, ⟨t3, z4⟩, z5, z6, z7, z8, z9⟩ := prefK_inv hp hE' (by simp [h1]) (by simp [h2])
          refine ⟨env', D', es', rds', z1, ⟨[d] ++ t1, by rw [z2]; simp⟩, ⟨[e] ++ t2, by rw [z3]; simp⟩, ⟨[gslot L o ++ readsOf env1.get o] ++ t3, by rw [z4]; simp⟩, by rw [z5]; simp; omega, z6, z7, z8, fun i o' ho' => ?_⟩
          cases i with
          | zero =>
            simp only [List.getElem?_cons_zero, Option.some.injEq] at ho'; subst ho'
            have hgi : mixR get0 D' es' (fun x => decide (x < D.length + 0)) = env1.get := by
              rw [Nat.add_zero, z2, z3, List.append_assoc D, List.append_assoc es, mixR_stable h1 (Nat.le_refl _), q2, hE]
            refine ⟨d, e, gslot L o ++ readsOf env1.get o, wanted, hd, by rw [z2]; simp, fun x hx hDx => ?_, by rw [z3, ← h1]; simp, by rw [z4, ← h2]; simp, by rw [hgi], by rw [hgi, q2]; exact q3, fun hh => by rw [hgi]; exact hw hh, hn⟩
            have hDx' : D[x]? = some d := by
              rw [z2, List.append_assoc, List.getElem?_append_left (by omega)] at hDx; exact hDx
            exact List.mem_append_right _ (tgt_read hd fun ho => by
              rw [ho, Bool.true_and] at hm
              have := memN_iff.2 (List.mem_of_getElem? hDx')
              rw [hm] at this; cases this)
          | succ i =>
            have := z9 i o' (by simpa using ho')
            simp only [List.length_append, List.length_singleton] at this
            rw [show D.length + (i + 1) = D.length + 1 + i by omega]; exact this
        cases wanted with
        | true =>
          simp only [cond_true] at q1
          split at q1
          · rename_i c ups hev
            split at q1
            · rename_i d' e
              cases hdd : Nat.beq d' d with
              | false => rw [hdd] at q1; cases q1
              | true =>
                rw [hdd] at q1; simp only [cond_true] at q1
                have := Nat.eq_of_beq_eq_true hdd; subst this
                cases c with
                | false => cases q1
                | true => exact go e q1 (fun _ => ⟨_, hev, rfl⟩) (fun q => by cases q)
            · cases q1
          · rename_i rs x mk hev
            split at q1
            · rename_i yy
              split at q1
              · rename_i d' e hmk
                cases hdd : Nat.beq d' d with
                | false => rw [hdd] at q1; cases q1
                | true =>
                  rw [hdd] at q1; simp only [cond_true] at q1
                  have := Nat.eq_of_beq_eq_true hdd; subst this
                  exact go e q1 (fun _ => ⟨_, hev, by simp only [OpRes.get, hmk]⟩) (fun q => by cases q)
              · cases q1
            · cases q1
          · cases q1
        | false =>
          simp only [cond_false] at q1
          exact go (.tup []) q1 (fun q => by cases q) (fun _ => rfl)
end
structure LRel (N : Nat) (listed : Array Bool) (R : List Nat) : Prop where
  size : listed.size = N
  at_ : ∀ i, i < N → listed[i]? = some (decide (i ∉ R))
section
variable {α : Type} {P : Program} {T : TTab} {K : CTab} {n : NS} {w0 : World} {W : Nat → Prop} {L : List Oper} {A : Nat → Prop}
theorem LRel.set {N : Nat} {listed : Array Bool} {R : List Nat} (x : LRel N listed R) (hn : R.Nodup) (i : Nat) : LRel N (listed.setIfInBounds i true) (R.erase i) where
  size := by simp [x.size]
  at_ j hj := by
    rw [Array.getElem?_setIfInBounds]
    by_cases h : i = j
    · subst h
      rw [if_pos rfl, if_pos (by rw [x.size]; exact hj)]
      congr 1
      have hni : i ∉ R.erase i := fun h => (hn.mem_erase_iff.1 h).1 rfl
      exact (decide_eq_true hni).symm
    · rw [if_neg h, x.at_ j hj]
      congr 1
      apply Bool.eq_iff_iff.2
      simp only [decide_eq_true_eq, hn.mem_erase_iff]
      constructor
      · intro h1 h2; exact h1 h2.2
      · intro h1 h2; exact h1 ⟨fun e => h e.symm, h2⟩
theorem ready_iff {listed : Array Bool} {R : List Nat} (x : LRel L.length listed R) {i : Nat} : i ∈ Region.ready .any L.toArray listed ↔ ∃ o, L[i]? = some o ∧ i ∈ R ∧ ∀ j ∈ aftB o, j < L.length ∧ j ∉ R := by
  unfold Region.ready
  rw [List.mem_filter]
  simp only [List.mem_range, List.size_toArray, List.getElem?_toArray, Bool.and_eq_true, Bool.not_eq_true']
  have ht : ∀ j, j < L.length → listed.getD j true = decide (j ∉ R) := fun j hj => by rw [Array.getD_eq_getD_getElem?, x.at_ j hj]; rfl
  have hf : ∀ j, listed.getD j false = true ↔ j < L.length ∧ j ∉ R := by
    intro j
    rw [Array.getD_eq_getD_getElem?]
    by_cases hj : j < L.length
    · rw [x.at_ j hj]; simp [hj]
    · rw [Array.getElem?_eq_none (by rw [x.size]; omega)]; simp [hj]
  constructor
  · rintro ⟨h1, h2, h3⟩
    rw [List.getElem?_eq_getElem h1] at h3
    simp only [Option.map_some, Option.getD_some] at h3
    refine ⟨L[i], List.getElem?_eq_getElem h1, by rw [ht i h1] at h2; simpa using h2, fun j hj => ?_⟩
    unfold aftB at hj
    obtain ⟨e, he, rfl⟩ := List.mem_map.1 hj
    obtain ⟨he1, he2⟩ := List.mem_filter.1 he
    rw [Array.all_eq_true_iff_forall_mem] at h3
    have := h3 e (by simpa using he1)
    rw [he2] at this
    simp only [Bool.not_true, Bool.false_or] at this
    exact (hf _).1 this
  · rintro ⟨o, h1, h2, h3⟩
    have hlt : i < L.length := by
      rcases Nat.lt_or_ge i L.length with q | q
      · exact q
      · rw [List.getElem?_eq_none q] at h1; cases h1
    refine ⟨hlt, by rw [ht i hlt]; simpa using h2, ?_⟩
    rw [h1]
    simp only [Option.map_some, Option.getD_some]
    rw [Array.all_eq_true_iff_forall_mem]
    intro e he
    cases hb : Region.binds .any e with
    | false => rfl
    | true =>
      simp only [Bool.not_true, Bool.false_or]
      exact (hf _).2 (h3 e.on (List.mem_map.2 ⟨e, List.mem_filter.2 ⟨by simpa using he, hb⟩, rfl⟩))
theorem wpOp_seq {Q : Exit → Act → World → Prop} {Kp : Act → World → Prop} {i : Nat} {is : List Nat} {env : Env} {k : Env → Option α} {y : α} {a : Act} {w : World} {g : Gh} {o : Oper} (hT : TOK P T) (hK : KOK P K) (hwal : ∀ b, W b → A b)
    (hd : ∀ (i : Nat) (o : Oper), L[i]? = some o → ∀ d, o.dst = some d → n.has d) (hi : L[i]? = some o) (h : seqK T K L (i :: is) env k = some y) (st : St n w0 W g env.get a w) (hA : g.al = A)
    (hk : ∀ env' a' w' g', seqK T K L is env' k = some y → St n w0 W g' env'.get a' w' → g'.al = A → Kp a' w') : wpOp P L.toArray Q i Kp a w := by
  simp only [wpOp, List.getElem?_toArray, hi]
  simp only [seqK, hi] at h
  obtain ⟨wanted, env1, h1, h2, h3, _⟩ := guardK_inv st h
  have st1 := st.get_eq h2
  rw [h3]
  cases wanted with
  | true =>
    simp only [cond_true] at h1
    simp only [if_true]
    left
    obtain ⟨r, env', q1, q2, q3⟩ := opK_inv h1
    have := stepE_sound (Q := Q) hT hK (fun b hb => by rw [hA]; exact hwal b hb) st1 q1 q2 (hd i o hi)
    refine Oper.wp_mono (fun a' w' hh => ?_) this
    obtain ⟨g', z1, z2⟩ := hh
    exact hk _ _ _ _ q3 z2 (z1.trans hA)
  | false =>
    simp only [cond_false] at h1
    simp only [Bool.false_eq_true, if_false]
    have := st1.undef (hd i o hi)
    exact hk _ _ _ _ h1 (this.get_eq deadE_get) hA
structure Dr (T : TTab) (K : CTab) (L : List Oper) (m : Nat) (get0 : Nat → Ent) (D : List Nat) (es : List Ent) (rds : List (List Nat)) : Prop where
  edges : ∀ (i : Nat) (o : Oper), L[i]? = some o → ∀ j ∈ aftB o, j < i
  tail : ∀ i, m ≤ i → i < L.length → (presL L []).getD i 0 = 2 ^ i - 1
  mN : m ≤ L.length
  facts : ∀ (i : Nat) (o : Oper), i < m → L[i]? = some o → Fact T K L get0 D es rds i o
  lenD : D.length = m
  lenE : es.length = m
  reads : ∀ (j : Nat) (rd : List Nat), rds[j]? = some rd → ∀ s ∈ rd, ∀ x, D[x]? = some s → x = j ∨ (x < j ∧ ((presL L []).getD j 0).testBit x = true) ∨ (j < x ∧ ((presL L []).getD x 0).testBit j = true)
  at_ : ∀ (j : Nat) (o : Oper) (d : Nat), j < m → L[j]? = some o → o.dst = some d → creates o = true → ∀ (i : Nat) (e : Ent), es[i]? = some e → i ≠ j → ((presL L []).getD i 0).testBit j = false → e.at d = false
  clean : ∀ (j : Nat) (o : Oper) (d : Nat), j < m → L[j]? = some o → o.dst = some d → creates o = true → ∀ s, (get0 s).at d = false
section
variable {m : Nat} {get0 : Nat → Ent} {D : List Nat} {es : List Ent} {rds : List (List Nat)}
theorem getL_lt {β : Type} {l : List β} {i : Nat} {o : β} (h : l[i]? = some o) : i < l.length := by
  rcases Nat.lt_or_ge i l.length with q | q
  · exact q
  · rw [List.getElem?_eq_none q] at h; cases h
theorem get_lt {L : List Oper} {i : Nat} {o : Oper} (h : L[i]? = some o) : i < L.length := by
  rcases Nat.lt_or_ge i L.length with q | q
  · exact q
  · rw [List.getElem?_eq_none q] at h; cases h
theorem any_tail {Q : Exit → Act → World → Prop} {k : Env → Option α} {y : α} (hT : TOK P T) (hK : KOK P K) (hwal : ∀ b, W b → A b) (hd : ∀ (i : Nat) (o : Oper), L[i]? = some o → ∀ d, o.dst = some d → n.has d) (dr : Dr T K L m get0 D es rds)
    (hk : ∀ env' a' w' g', k env' = some y → St n w0 W g' env'.get a' w' → g'.al = A → Q .normal a' w') : ∀ (fuel i : Nat) {R : List Nat} {listed : Array Bool} {env : Env} {a : Act} {w : World} {g : Gh}, L.length - i ≤ fuel → m ≤ i → i ≤ L.length → R.Nodup → LRel L.length listed R →
    (∀ x, x ∈ R ↔ i ≤ x ∧ x < L.length) → seqK T K L (List.range' i (L.length - i)) env k = some y → St n w0 W g env.get a w → g.al = A → wpAny P .any L.toArray Q fuel listed a w := by
  intro fuel
  induction fuel with
  | zero =>
    intro i R listed env a w g hf hm hi hn x hR hs st hA
    have e : L.length - i = 0 := by omega
    rw [e] at hs
    refine ⟨?_, hk env a w g hs st hA⟩
    apply List.eq_nil_iff_forall_not_mem.2
    intro j hj
    obtain ⟨o, _, h2, _⟩ := (ready_iff x).1 hj
    have := (hR j).1 h2; omega
  | succ fuel ih =>
    intro i R listed env a w g hf hm hi hn x hR hs st hA
    rcases Nat.lt_or_ge i L.length with hlt | hge
    · have ho : L[i]? = some L[i] := List.getElem?_eq_getElem hlt
      have hready : i ∈ Region.ready .any L.toArray listed := (ready_iff x).2 ⟨L[i], ho, (hR i).2 ⟨Nat.le_refl _, hlt⟩, fun j hj => by
        have := dr.edges i _ ho j hj
        exact ⟨by omega, fun h => by have := (hR j).1 h; omega⟩⟩
      refine ⟨fun h => (by rw [h] at hready; cases hready), fun j hj => ?_⟩
      obtain ⟨o, h1, h2, h3⟩ := (ready_iff x).1 hj
      have hji := (hR j).1 h2
      have hje : j = i := by
        rcases Nat.lt_or_ge i j with q | q
        · exfalso
          have := pre_sub (L := L) (S := fun x => x ∉ R) (fun i0 o0 h0 hs0 j0 hj0 hj1 => by
            have e1 := dr.edges i0 o0 h0 j0 hj0
            have e2 := (hR j0).1 hj1
            have e3 := get_lt h0
            exact hs0 ((hR i0).2 ⟨by omega, e3⟩)) j o h1 (fun j0 hj0 => (h3 j0 hj0).2) i (by
              rw [dr.tail j (by omega) hji.2, Nat.testBit_two_pow_sub_one]; simpa using q)
          exact this ((hR i).2 ⟨Nat.le_refl _, hlt⟩)
        · omega
      subst hje
      have hr : List.range' j (L.length - j) = j :: List.range' (j + 1) (L.length - (j + 1)) := by
        rw [show L.length - j = (L.length - (j + 1)) + 1 by omega, List.range'_succ]
      rw [hr] at hs
      refine wpOp_seq hT hK hwal hd h1 hs st hA fun env' a' w' g' q1 q2 q3 => ?_
      refine ih (j + 1) (by omega) (by omega) (by omega) (hn.erase j) (x.set hn j) (fun z => ?_) q1 q2 q3
      rw [hn.mem_erase_iff, hR z]
      omega
    · have hRe : ∀ z, z ∉ R := fun z hz => by have := (hR z).1 hz; omega
      have hnil : Region.ready .any L.toArray listed = [] := by
        apply List.eq_nil_iff_forall_not_mem.2
        intro j hj
        obtain ⟨o, _, h2, _⟩ := (ready_iff x).1 hj
        exact hRe j h2
      have e : L.length - i = 0 := by omega
      rw [e] at hs
      refine ⟨fun _ => hk env a w g hs st hA, fun j hj => ?_⟩
      rw [hnil] at hj; cases hj
theorem len_sub : ∀ {l R : List Nat}, l.Nodup → (∀ z ∈ l, z ∈ R) → l.length ≤ R.length
  | [], _, _, _ => Nat.zero_le _
  | z :: l, R, hn, h => by
    have h1 := h z (by simp)
    have := len_sub (l := l) (R := R.erase z) (List.nodup_cons.1 hn).2 (fun y hy => (List.mem_erase_of_ne (fun e => by subst e; exact (List.nodup_cons.1 hn).1 hy)).2 (h y (by simp [hy])))
    rw [List.length_erase_of_mem h1] at this
    have : 0 < R.length := List.length_pos_of_mem h1
    simp; omega
theorem min_of {R : List Nat} : ∀ x, x ∈ R → ∃ i ∈ R, ∀ j ∈ R, i ≤ j := by
  intro x
  induction x using Nat.strongRecOn with
  | _ x ih =>
    intro hx
    by_cases h : ∃ j ∈ R, j < x
    · obtain ⟨j, h1, h2⟩ := h; exact ih j h2 h1
    · exact ⟨x, hx, fun j hj => by
        rcases Nat.lt_or_ge j x with q | q
        · exact absurd ⟨j, hj, q⟩ h
        · exact q⟩
theorem wanted_of {o : Oper} {get : Nat → Ent} {wanted : Bool} {a : Act} {w : World} {g : Gh} (st : St n w0 W g get a w) (h : WantedIn L get o wanted) : Region.wanted o (yielded L.toArray a.tmps) = wanted := by
  rcases h with ⟨h1, h2⟩ | ⟨j, want, oj, dj, b, hg, hj, hdj, hget, hw⟩ | ⟨j, want, oj, dj, hg, hj, hdj, hget, hw⟩
  · simp [Region.wanted, h1, h2]
  · have hv := st.ent dj; rw [hget] at hv
    have hv := bool_at hv
    have hy : yielded L.toArray a.tmps j = some b := by
      have hlt : dj < a.tmps.size := by
        rcases Nat.lt_or_ge dj a.tmps.size with q | q
        · exact q
        · rw [Array.getD_eq_getD_getElem?, Array.getElem?_eq_none q] at hv; cases hv
      have h2 : a.tmps[dj]? = some (.bool b) := by
        rw [Array.getD_eq_getD_getElem?, Array.getElem?_eq_getElem hlt] at hv
        rw [Array.getElem?_eq_getElem hlt]; congr 1
      simp only [yielded, List.getElem?_toArray, hj, Option.bind_some, hdj, h2]
    rw [hw]
    simp only [Region.wanted, hg, hy]
    cases b <;> cases want <;> rfl
  · have hv := st.ent dj; rw [hget] at hv
    rw [hw]
    simp only [Region.wanted, hg, yielded_undef hj hdj hv]
    rfl
theorem any_pref {Q : Exit → Act → World → Prop} {k : Env → Option α} {y : α} {env1 : Env} (hT : TOK P T) (hK : KOK P K) (hwal : ∀ b, W b → A b) (hd : ∀ (i : Nat) (o : Oper), L[i]? = some o → ∀ d, o.dst = some d → n.has d) (dr : Dr T K L m get0 D es rds)
    (hk : ∀ env' a' w' g', k env' = some y → St n w0 W g' env'.get a' w' → g'.al = A → Q .normal a' w') (he1 : env1.get = mixR get0 D es (fun x => decide (x < m))) (hs : seqK T K L (List.range' m (L.length - m)) env1 k = some y) :
    ∀ (fuel : Nat) {R : List Nat} {listed : Array Bool} {a : Act} {w : World} {g : Gh}, R.length ≤ fuel → R.Nodup → LRel L.length listed R → (∀ x ∈ R, x < L.length) → (∀ (i : Nat) (o : Oper), L[i]? = some o → i ∉ R → ∀ j ∈ aftB o, j ∉ R) →
    (∀ i, m ≤ i → i < L.length → i ∈ R) → St n w0 W g (mixR get0 D es (fun x => decide (x ∉ R))) a w → g.al = A → wpAny P .any L.toArray Q fuel listed a w := by
  intro fuel
  induction fuel with
  | zero =>
    intro R listed a w g hf hn x hlt hdc htl st hA
    have hR : R = [] := List.eq_nil_of_length_eq_zero (by omega)
    subst hR
    have hmN : m = L.length := by
      rcases Nat.lt_or_ge m L.length with q | q
      · have := htl m (Nat.le_refl _) q; cases this
      · have := dr.mN; omega
    refine any_tail hT hK hwal hd dr hk 0 m (R := []) (by omega) (Nat.le_refl _) dr.mN hn x (fun z => by simp; omega) hs (st.get_eq ?_) hA
    rw [he1]; funext s; unfold mixR
    refine mixG_congr fun z hz => ?_
    have := getL_lt hz
    rw [dr.lenD] at this
    simp [this]
  | succ fuel ih =>
    intro R listed a w g hf hn x hlt hdc htl st hA
    by_cases hall : ∀ z, z < m → z ∉ R
    · have hR : ∀ z, z ∈ R ↔ m ≤ z ∧ z < L.length := fun z => ⟨fun h => ⟨by
        rcases Nat.lt_or_ge z m with q | q
        · exact absurd h (hall z q)
        · exact q, hlt z h⟩, fun h => htl z h.1 h.2⟩
      have hlen : L.length - m ≤ fuel + 1 := by
        have hsub : (List.range' m (L.length - m)).length ≤ R.length := by
          have hp : ∀ z ∈ List.range' m (L.length - m), z ∈ R := fun z hz => by
            have := List.mem_range'_1.1 hz
            exact (hR z).2 ⟨by omega, by omega⟩
          exact len_sub List.nodup_range' hp
        simp at hsub; omega
      refine any_tail hT hK hwal hd dr hk (fuel + 1) m (R := R) hlen (Nat.le_refl _) dr.mN hn x hR hs (st.get_eq ?_) hA
      rw [he1]; funext s; unfold mixR
      refine mixG_congr fun z hz => ?_
      have := getL_lt hz
      rw [dr.lenD] at this
      simp [this, hall z this]
    · have hex : ∃ z, z < m ∧ z ∈ R := Classical.byContradiction fun h => hall fun z hz hR => h ⟨z, hz, hR⟩
      obtain ⟨z, hz, hzR⟩ := hex
      refine ⟨fun hnil => ?_, fun i hi => ?_⟩
      · exfalso
        obtain ⟨i, h1, h2⟩ := min_of z hzR
        have hil := hlt i h1
        have : i ∈ Region.ready .any L.toArray listed := (ready_iff x).2 ⟨L[i], List.getElem?_eq_getElem hil, h1, fun j hj => by
          have e := dr.edges i _ (List.getElem?_eq_getElem hil) j hj
          exact ⟨by omega, fun h => by have := h2 j h; omega⟩⟩
        rw [hnil] at this; cases this
      · obtain ⟨o, h1, h2, h3⟩ := (ready_iff x).1 hi
        have hpre : ∀ z, ((presL L []).getD i 0).testBit z = true → z ∉ R := pre_sub (L := L) (S := fun z => z ∉ R) hdc i o h1 (fun j hj => (h3 j hj).2)
        have him : i < m := by
          rcases Nat.lt_or_ge i m with q | q
          · exact q
          · exfalso
            exact hpre z (by rw [dr.tail i q (get_lt h1), Nat.testBit_two_pow_sub_one]; simp; omega) hzR
        obtain ⟨d, e, rd, wanted, f1, f2, f3, f4, f5, f6, f7, f8, f9⟩ := (dr.facts i o him h1).ex
        -- the slots that are read stand as in the text's order
        have same : ∀ s ∈ rd, mixR get0 D es (fun x => decide (x ∉ R)) s = mixR get0 D es (fun x => decide (x < i)) s := by
          intro s hs'
          unfold mixR
          refine mixG_congr fun z hz => ?_
          rw [Nat.zero_add]
          rcases dr.reads i rd f5 s hs' z hz with r1 | ⟨r1, r2⟩ | ⟨r1, r2⟩
          · subst r1; rw [decide_eq_false (fun q => q h2), decide_eq_false (Nat.lt_irrefl _)]
          · rw [decide_eq_true r1, decide_eq_true (hpre z r2)]
          · have hzm : z < m := by rw [← dr.lenD]; exact getL_lt hz
            have hzL : z < L.length := by have := dr.mN; omega
            have hzR : z ∈ R := Classical.byContradiction fun hzR =>
              pre_sub (L := L) (S := fun z => z ∉ R) hdc z L[z] (List.getElem?_eq_getElem hzL) (hdc z L[z] (List.getElem?_eq_getElem hzL) hzR) i r2 h2
            rw [decide_eq_false (fun q => q hzR), decide_eq_false (by omega)]
        have hw : WantedIn L (mixR get0 D es (fun x => decide (x ∉ R))) o wanted := by
          rcases f7 with q | ⟨j, want, oj, dj, b, q1, q2, q3, q4, q5⟩ | ⟨j, want, oj, dj, q1, q2, q3, q4, q5⟩
          · exact .inl q
          rotate_left
          · refine .inr (.inr ⟨j, want, oj, dj, q1, q2, q3, ?_, q5⟩)
            rw [same dj (by rw [f6]; apply List.mem_append_left; simp [gslot, q1, q2, q3])]; exact q4
          · refine .inr (.inl ⟨j, want, oj, dj, b, q1, q2, q3, ?_, q5⟩)
            rw [same dj (by rw [f6]; apply List.mem_append_left; simp [gslot, q1, q2, q3])]; exact q4
        have next : ∀ {a' : Act} {w' : World} {g' : Gh}, St n w0 W g' (upd (mixR get0 D es (fun x => decide (x ∉ R))) d e) a' w' → g'.al = A → wpAny P .any L.toArray Q fuel (listed.setIfInBounds i true) a' w' := by
          intro a' w' g' st' hA'
          refine ih (R := R.erase i) (by rw [List.length_erase_of_mem h2]; omega) (hn.erase i) (x.set hn i) (fun z hz => hlt z (hn.mem_erase_iff.1 hz).2) (fun i0 o0 h0 hs0 j hj hj' => ?_) (fun z h1' h2' => hn.mem_erase_iff.2 ⟨by omega, htl z h1' h2'⟩) (st'.get_eq ?_) hA'
          · have hj'' := (hn.mem_erase_iff.1 hj').2
            by_cases hi0 : i0 = i
            · subst hi0
              rw [h1] at h0; injection h0 with h0; subst h0
              exact (h3 j hj).2 hj''
            · exact hdc i0 o0 h0 (fun q => hs0 (hn.mem_erase_iff.2 ⟨hi0, q⟩)) j hj hj''
          · funext s
            unfold mixR upd
            by_cases hsd : s = d
            · subst hsd
              rw [if_pos rfl]
              refine mixG_last (x := i) f2 f4 ?_ fun z hz hDz => ?_
              · rw [Nat.zero_add]; exact decide_eq_true fun h => (hn.mem_erase_iff.1 h).1 rfl
              · rw [Nat.zero_add]
                refine decide_eq_false fun q => ?_
                have hzR : z ∉ R := fun h => q (hn.mem_erase_iff.2 ⟨by omega, h⟩)
                have hzm : z < m := by rw [← dr.lenD]; exact getL_lt hDz
                have hzL : z < L.length := by have := dr.mN; omega
                obtain ⟨d2, e2, rd2, w2, g1, g2, g3, _, g5, _⟩ := (dr.facts z _ hzm (List.getElem?_eq_getElem hzL)).ex
                rw [hDz] at g2; injection g2 with g2; subst g2
                rcases dr.reads z rd2 g5 s (g3 i hz f2) i f2 with r1 | ⟨_, r2⟩ | ⟨r1, _⟩
                rotate_right
                · omega
                · omega
                · exact pre_sub (L := L) (S := fun z => z ∉ R) hdc z L[z] (List.getElem?_eq_getElem hzL) (hdc z L[z] (List.getElem?_eq_getElem hzL) hzR) i r2 h2
            · rw [if_neg hsd]
              refine mixG_congr fun z hz => ?_
              rw [Nat.zero_add]
              have hzi : z ≠ i := by
                intro q; subst q
                rw [f2] at hz; injection hz with hz; exact hsd hz.symm
              apply Bool.eq_iff_iff.2
              simp only [decide_eq_true_eq, hn.mem_erase_iff]
              constructor
              · intro q1 q2; exact q1 ⟨hzi, q2⟩
              · intro q1 q2; exact q1 q2.2
        simp only [wpOp, List.getElem?_toArray, h1]
        rw [wanted_of st hw]
        cases wanted with
        | true =>
          simp only [if_true]
          left
          obtain ⟨r, g1, g2⟩ := f8 rfl
          have hev : evOp T K (mixR get0 D es (fun x => decide (x ∉ R))) o = some r := by
            rw [← g1]
            exact evOp_congr fun s hs' => same s (by rw [f6]; exact List.mem_append_right _ hs')
          refine Oper.wp_mono (fun a' w' hh => ?_) (evOp_sound (Q := Q) hT hK st hev g2 (hd i o h1) fun hc d' hd' s => ?_)
          · obtain ⟨g', z1, z2⟩ := hh
            exact next z2 (z1.trans hA)
          · have hdd : d = d' := by
              unfold tgt at f1; rw [hd'] at f1; injection f1 with f1; exact f1.symm
            subst hdd
            unfold mixR
            rcases mixG_cases (D := D) (es := es) (i := 0) (f := fun x => decide (x ∉ R)) (s := s) (c := get0 s) with q | ⟨z, e2, q1, q2, q3, q4⟩
            · rw [q]; exact dr.clean i o d him h1 hd' hc s
            · rw [q4]
              rw [Nat.zero_add] at q3
              have hzR' : z ∉ R := of_decide_eq_true q3
              have hzi : z ≠ i := fun q => by subst q; exact hzR' h2
              refine dr.at_ i o d him h1 hd' hc z _ q2 hzi ?_
              cases hb : ((presL L []).getD z 0).testBit i with
              | false => rfl
              | true =>
                exfalso
                have hzm : z < m := by rw [← dr.lenD]; exact getL_lt q1
                have hzL : z < L.length := by have := dr.mN; omega
                have := pre_sub (L := L) (S := fun z => z ∉ R) hdc z L[z] (List.getElem?_eq_getElem hzL) (hdc z L[z] (List.getElem?_eq_getElem hzL) hzR') i hb
                exact this h2
        | false =>
          simp only [Bool.false_eq_true, if_false]
          have := st.undef (hd i o h1)
          have hdst : o.dst = some d := by
            unfold tgt at f1
            split at f1
            · rename_i d' hd'; rw [hd', f1]
            · split at f1
              · cases hq : o.guard.isNone with
                | false => rw [hq] at f1; cases f1
                | true =>
                  rcases hw with q | ⟨j, want, oj, dj, b, q1, _⟩ | ⟨j, want, oj, dj, q1, _⟩
                  · cases q.2
                  · rw [q1] at hq; cases hq
                  · rw [q1] at hq; cases hq
              · cases f1
          rw [hdst] at this ⊢
          have he := f9 rfl
          subst he
          exact next this hA
end
end
section
variable {α : Type} {P : Program} {T : TTab} {K : CTab} {n : NS} {w0 : World} {W : Nat → Prop} {L : List Oper} {A : Nat → Prop}
theorem edgesOk_spec : ∀ {L : List Oper} {i : Nat}, edgesOk L i = true → ∀ (x : Nat) (o : Oper), L[x]? = some o → ∀ j ∈ aftB o, j < i + x
  | [], _, _, x, o, h => by cases h
  | p :: r, i, hh, x, o, h => by
    simp only [edgesOk, Bool.and_eq_true, List.all_eq_true] at hh
    cases x with
    | zero =>
      simp only [List.getElem?_cons_zero, Option.some.injEq] at h; subst h
      intro j hj; have := hh.1 j hj; simp at this; omega
    | succ x =>
      intro j hj
      have := edgesOk_spec hh.2 x o (by simpa using h) j hj
      omega
theorem tailOk_spec : ∀ {pres : List Nat} {m i : Nat}, tailOk pres m i = true → ∀ x, x < pres.length → m ≤ i + x → pres.getD x 0 = 2 ^ (i + x) - 1
  | [], _, _, _, x, h, _ => by simp at h
  | p :: r, m, i, hh, x, h, hm => by
    simp only [tailOk, Bool.and_eq_true, Bool.or_eq_true] at hh
    cases x with
    | zero =>
      rcases hh.1 with q | q
      · have : i < m := by simpa using q
        omega
      · have := Nat.eq_of_beq_eq_true q; simpa using this
    | succ x =>
      have := tailOk_spec hh.2 x (by simpa using h) (by omega)
      rw [show i + (x + 1) = i + 1 + x by omega]
      simpa using this
theorem slotOk_spec {pres : List Nat} {s j : Nat} : ∀ {D : List Nat} {i : Nat}, slotOk pres s j D i = true → ∀ x, D[x]? = some s → i + x = j ∨ (i + x < j ∧ (pres.getD j 0).testBit (i + x) = true) ∨ (j < i + x ∧ (pres.getD (i + x) 0).testBit j = true)
  | [], _, _, x, h => by cases h
  | d :: r, i, hh, x, h => by
    simp only [slotOk, Bool.and_eq_true, Bool.or_eq_true] at hh
    cases x with
    | zero =>
      simp only [List.getElem?_cons_zero, Option.some.injEq] at h; subst h
      rcases hh.1 with ((q | q) | q) | q
      · simp [Nat.beq_refl] at q
      · exact .inl (Nat.eq_of_beq_eq_true q)
      · exact .inr (.inl (by simpa using q))
      · exact .inr (.inr (by simpa using q))
    | succ x =>
      have := slotOk_spec hh.2 x (by simpa using h)
      rw [show i + (x + 1) = i + 1 + x by omega]; exact this
theorem readsOk_spec {D pres : List Nat} : ∀ {rds : List (List Nat)} {i : Nat}, readsOk D pres rds i = true → ∀ (j : Nat) (rd : List Nat), rds[j]? = some rd → ∀ s ∈ rd, ∀ x, D[x]? = some s → x = i + j ∨ (x < i + j ∧ (pres.getD (i + j) 0).testBit x = true) ∨ (i + j < x ∧ (pres.getD x 0).testBit (i + j) = true)
  | [], _, _, j, rd, h => by cases h
  | p :: r, i, hh, j, rd, h => by
    simp only [readsOk, Bool.and_eq_true, List.all_eq_true] at hh
    cases j with
    | zero =>
      simp only [List.getElem?_cons_zero, Option.some.injEq] at h; subst h
      intro s hs x hx
      have := slotOk_spec (hh.1 s hs) x hx
      simpa using this
    | succ j =>
      intro s hs x hx
      have := readsOk_spec hh.2 j rd (by simpa using h) s hs x hx
      rw [show i + (j + 1) = i + 1 + j by omega]; exact this
theorem notAt_spec {pres : List Nat} {d j : Nat} : ∀ {es : List Ent} {i : Nat}, notAt pres d j es i = true → ∀ (x : Nat) (e : Ent), es[x]? = some e → i + x ≠ j → (pres.getD (i + x) 0).testBit j = false → e.at d = false
  | [], _, _, x, e, h, _, _ => by cases h
  | p :: r, i, hh, x, e, h, h1, h2 => by
    simp only [notAt, Bool.and_eq_true, Bool.or_eq_true] at hh
    cases x with
    | zero =>
      simp only [List.getElem?_cons_zero, Option.some.injEq] at h; subst h
      rcases hh.1 with (q | q) | q
      · exact absurd (Nat.eq_of_beq_eq_true q) h1
      · rw [show i + 0 = i from rfl] at h2; rw [h2] at q; cases q
      · simpa using q
    | succ x =>
      refine notAt_spec hh.2 x e (by simpa using h) (by omega) ?_
      rw [show i + 1 + x = i + (x + 1) by omega]; exact h2
theorem atOk_spec {pres : List Nat} {es : List Ent} : ∀ {L : List Oper} {i : Nat}, atOk pres es L i = true → ∀ (j : Nat) (o : Oper) (d : Nat), L[j]? = some o → o.dst = some d → creates o = true → notAt pres d (i + j) es 0 = true
  | [], _, _, j, o, d, h, _, _ => by cases h
  | p :: r, i, hh, j, o, d, h, h1, h2 => by
    simp only [atOk, Bool.and_eq_true] at hh
    cases j with
    | zero =>
      simp only [List.getElem?_cons_zero, Option.some.injEq] at h; subst h
      have := hh.1
      rw [h1] at this
      simp only [h2, Bool.not_true, Bool.false_or] at this
      exact this
    | succ j =>
      have := atOk_spec hh.2 j o d (by simpa using h) h1 h2
      rw [show i + (j + 1) = i + 1 + j by omega]; exact this
theorem at_kill {e : Ent} {d d' : Nat} (h : e.at d = false) : (killAt d' e).at d = false := by
  unfold killAt
  cases e.at d' with
  | true => rfl
  | false => exact h
theorem killC_keep {d : Nat} : ∀ {L : List Oper} {env : Env}, (∀ s, (env.get s).at d = false) → ∀ s, ((killC L env).get s).at d = false
  | [], env, h, s => h s
  | o :: r, env, h, s => by
    simp only [killC]
    cases o.dst with
    | none => exact killC_keep h s
    | some d' =>
      simp only
      cases creates o with
      | false => exact killC_keep h s
      | true => exact killC_keep (fun s => by rw [Env.get_map _ rfl]; exact at_kill (h s)) s
theorem killC_clean : ∀ {L : List Oper} {env : Env} (j : Nat) (o : Oper) (d : Nat), L[j]? = some o → o.dst = some d → creates o = true → ∀ s, ((killC L env).get s).at d = false
  | [], env, j, o, d, h, _, _ => by cases h
  | p :: r, env, j, o, d, h, h1, h2 => by
    intro s
    cases j with
    | zero =>
      simp only [List.getElem?_cons_zero, Option.some.injEq] at h; subst h
      simp only [killC, h1, h2, cond_true]
      exact killC_keep (fun s => by rw [Env.get_map _ rfl]; exact killAt_clean d _) s
    | succ j =>
      simp only [killC]
      cases p.dst with
      | none => exact killC_clean j o d (by simpa using h) h1 h2 s
      | some d' =>
        simp only
        cases creates p with
        | false => exact killC_clean j o d (by simpa using h) h1 h2 s
        | true => exact killC_clean j o d (by simpa using h) h1 h2 s
theorem killC_St : ∀ {L : List Oper} {env : Env} {a : Act} {w : World} {g : Gh}, St n w0 W g env.get a w → St n w0 W g (killC L env).get a w
  | [], env, a, w, g, st => st
  | o :: r, env, a, w, g, st => by
    simp only [killC]
    cases o.dst with
    | none => exact killC_St st
    | some d =>
      simp only
      cases creates o with
      | false => exact killC_St st
      | true =>
        refine killC_St (st.kill fun s => ?_)
        rw [Env.get_map _ rfl]
        unfold killAt
        cases (env.get s).at d with
        | true => exact .inr rfl
        | false => exact .inl rfl
theorem drawAt_sound {Q : Exit → Act → World → Prop} {id m : Nat} {env : Env} {k : Env → Option α} {y : α} {a : Act} {w : World} {g : Gh} (hm : P.follows .mixedOrders = true) (hT : TOK P T) (hK : KOK P K) (hwal : ∀ b, W b → A b)
    (hd : ∀ (i : Nat) (o : Oper), L[i]? = some o → ∀ d, o.dst = some d → n.has d) (hmN : m ≤ L.length) (h : drawAt T K L (presL L []) m env k = some y) (st : St n w0 W g env.get a w) (hA : g.al = A)
    (hk : ∀ env' a' w' g', k env' = some y → St n w0 W g' env'.get a' w' → g'.al = A → Q .normal a' w') : (Code.region id L.toArray true).wp P Q a w := by
  unfold drawAt at h
  cases h1 : (edgesOk L 0 && tailOk (presL L []) m 0) with
  | false => rw [h1] at h; cases h
  | true =>
    rw [h1] at h; simp only [cond_true] at h
    simp only [Bool.and_eq_true] at h1
    obtain ⟨t, e1, e2⟩ := presL_len L []
    have hpl : (presL L []).length = L.length := by rw [e1]; simpa using e2
    obtain ⟨env1, D, es, rds, z1, _, _, _, z5, z6, z7, z8, z9⟩ := prefK_inv (get0 := (killC (L.take m) env).get) h (rfl) rfl rfl
    cases h2 : (readsOk D (presL L []) rds 0 && atOk (presL L []) es (L.take m) 0) with
    | false => rw [h2] at z1; cases z1
    | true =>
      rw [h2] at z1; simp only [cond_true] at z1
      simp only [Bool.and_eq_true] at h2
      simp only [List.length_nil, Nat.zero_add, List.length_take] at z5
      have hD : D.length = m := by omega
      have tk : ∀ {j : Nat} {o : Oper}, j < m → L[j]? = some o → (L.take m)[j]? = some o := fun hj ho => by rw [List.getElem?_take_of_lt hj]; exact ho
      have dr : Dr T K L m (killC (L.take m) env).get D es rds :=
        { edges := fun i o ho j hj => by have := edgesOk_spec h1.1 i o ho j hj; omega
          tail := fun i hi hl => by have := tailOk_spec h1.2 i (by rw [hpl]; exact hl) (by omega); simpa using this
          mN := hmN
          facts := fun i o hi ho => by have := z9 i o (tk hi ho); simpa using this
          lenD := hD
          lenE := by rw [z6, hD]
          reads := fun j rd hj s hs x hx => by have := readsOk_spec h2.1 j rd hj s hs x hx; simpa using this
          at_ := fun j o d hj ho hod hc i e he hne hb => by
            have := atOk_spec h2.2 j o d (tk hj ho) hod hc
            simp only [Nat.zero_add] at this
            exact notAt_spec this i e he (by omega) (by simpa using hb)
          clean := fun j o d hj ho hod hc => killC_clean j o d (tk hj ho) hod hc }
      refine wp_region_any hm ?_
      have st' : St n w0 W g (killC (L.take m) env).get a { w with drawn := w.drawn + 1 } := by
        have q := killC_St (L := L.take m) st
        exact ⟨q.inv, q.ent, q.sz, q.df, q.os, ⟨q.tape.tape, Nat.le_trans q.tape.dr (Nat.le_succ _)⟩, q.output⟩
      refine any_pref hT hK hwal hd dr hk (by rw [z8, hD]) z1 L.toArray.size (R := List.range L.length) (by simp) List.nodup_range ⟨by simp, fun i hi => ?_⟩ (fun x hx => List.mem_range.1 hx) (fun i o ho hn => absurd (List.mem_range.2 (get_lt ho)) hn)
        (fun i _ hi => List.mem_range.2 hi) (st'.get_eq ?_) hA
      · simp [hi]
      · funext s
        unfold mixR
        refine (mixG_congr (f' := fun _ => false) fun z hz => ?_).trans (mixG_none fun _ _ => rfl)
        have := getL_lt hz
        have hz : z ∈ List.range L.length := List.mem_range.2 (by omega)
        simpa using hz
theorem splitM_le : ∀ (l : List Nat) (n : Nat), splitM l n ≤ n
  | [], n => Nat.le_refl _
  | p :: r, n => by
    simp only [splitM]
    cases Nat.beq p (2 ^ (n - 1) - 1) with
    | true => have := splitM_le r (n - 1); simp only [cond_true]; omega
    | false => exact Nat.le_refl _
theorem drawK_sound {Q : Exit → Act → World → Prop} {id : Nat} {env : Env} {k : Env → Option α} {y : α} {a : Act} {w : World} {g : Gh} (hm : P.follows .mixedOrders = true) (hT : TOK P T) (hK : KOK P K) (hwal : ∀ b, W b → A b)
    (hd : ∀ (i : Nat) (o : Oper), L[i]? = some o → ∀ d, o.dst = some d → n.has d) (h : drawK T K L env k = some y) (st : St n w0 W g env.get a w) (hA : g.al = A)
    (hk : ∀ env' a' w' g', k env' = some y → St n w0 W g' env'.get a' w' → g'.al = A → Q .normal a' w') : (Code.region id L.toArray true).wp P Q a w :=
  drawAt_sound hm hT hK hwal hd (splitM_le _ _) h st hA hk
end
inductive LSh where
  | fz (t : Ty) (reg : Nat) (lin : Bool)
  | rt (e : TypeId) (t : Ty) (tag : Nat) (sub lin st : Bool)
inductive Sh where
  | val (agg : Bool) (ls : List LSh)
  | box (ro : Bool) (ls : List LSh)
  | fn (f : Nat) (caps : List Nat)
  | mp (d : Nat) (kt vt : Ty)
abbrev Shape := List (Nat × Sh)
def impB (a b : Bool) : Bool := !a || b
def bEq (a b : Bool) : Bool := (a && b) || (!a && !b)
theorem bEq_eq {a b : Bool} (h : bEq a b = true) : a = b := by cases a <;> cases b <;> simp [bEq] at h <;> rfl
def castLeaf (s : LSh) (l : Leaf) : Option Leaf :=
  match s, l with
  | .fz t reg lin, .fz t' reg' lin' v => bif impB lin (lin' && bEq (Nat.beq reg 0) (Nat.beq reg' 0)) then (match Ty.cast t v with | some v' => some (.fz t (bif Nat.beq reg 0 then 0 else reg') lin v') | none => none) else none
  | .rt e t _ sub lin st, .rt e' t' tag' sub' lin' st' v => bif impB sub' sub && impB lin lin' && impB st st' && Nat.beq e e' then (match Ty.cast (.slice e t) (Leaf.rt e' t' tag' sub' lin' st' v).val with | some v' => some (.rt e t tag' sub lin st v') | none => none) else none
  | _, _ => none
def castLs : List LSh → List Leaf → Option (List Leaf)
  | [], [] => some []
  | s :: r, l :: ls => (match castLeaf s l, castLs r ls with | some x, some y => some (x :: y) | _, _ => none)
  | _, _ => none
def allFz : List Leaf → Bool
  | [] => true
  | .fz _ _ _ _ :: r => allFz r
  | _ => false
def castM (ss : List LSh) (ls : List Leaf) : Option (List Leaf) :=
  match castLs ss ls with
  | some r => some r
  | none => (match ss with
    | [.fz t reg lin] => bif allFz ls && Nat.beq reg 0 && !lin then (match valAs t ls with | some v => some [.fz t 0 false v] | none => none) else none
    | _ => none)
def castEnt (s : Sh) (e : Ent) : Option Ent :=
  match s, e with
  | .val agg ss, .val agg' ls => bif (agg && agg') || (!agg && !agg') then (match castM ss ls with | some r => some (.val agg r) | none => none) else none
  | .box ro ss, .box ro' ls => bif (ro && ro') || (!ro && !ro') then (match castM ss ls with | some r => some (.box ro r) | none => none) else none
  | .fn f caps, .fn f' caps' => bif Nat.beq f f' && caps.length == caps'.length && (caps.zip caps').all (fun p => Nat.beq p.1 p.2) then some (.fn f' caps') else none
  | .mp d kt vt, .mp d' kt' vt' m => bif Nat.beq d d' && kt'.eqb kt && vt'.eqb vt then some (.mp d' kt' vt' m) else none
  | _, _ => none
def castAll : Shape → Env → Option Env
  | [], _ => some []
  | (s, sh) :: r, env => (match castEnt sh (env.get s), castAll r env with | some e, some env' => some ((s, e) :: env') | _, _ => none)
def frzLs : List LSh → List Leaf → List Nat
  | .fz _ _ _ :: ss, .rt _ _ tag _ _ _ _ :: ls => tag :: frzLs ss ls
  | _ :: ss, _ :: ls => frzLs ss ls
  | _, _ => []
def frzM (ss : List LSh) (ls : List Leaf) : List Nat :=
  bif ss.length == ls.length then frzLs ss ls else rtTags ls
def frzEnt (s : Sh) (e : Ent) : List Nat :=
  match s, e with
  | .val _ ss, .val _ ls => frzM ss ls
  | .box _ ss, .box _ ls => frzM ss ls
  | _, _ => []
def frzAll (sh : Shape) (env : Env) : List Nat := sh.flatMap fun p => frzEnt p.2 (env.get p.1)
def namLs : List LSh → List Leaf → List (Nat × Nat)
  | .fz _ reg _ :: ss, .fz _ reg' _ _ :: ls => bif Nat.beq reg 0 || Nat.beq reg' 0 then namLs ss ls else (reg', reg) :: namLs ss ls
  | .rt _ _ tag _ _ _ :: ss, .rt _ _ tag' _ _ _ _ :: ls => (tag', tag) :: namLs ss ls
  | _ :: ss, _ :: ls => namLs ss ls
  | _, _ => []
def namEnt (s : Sh) (e : Ent) : List (Nat × Nat) :=
  match s, e with
  | .val _ ss, .val _ ls => namLs ss ls
  | .box _ ss, .box _ ls => namLs ss ls
  | _, _ => []
def namAll (sh : Shape) (env : Env) : List (Nat × Nat) := sh.flatMap fun p => namEnt p.2 (env.get p.1)
def uniq : List (Nat × Nat) → List (Nat × Nat) → List (Nat × Nat)
  | [], acc => acc.reverse
  | (m, k) :: r, acc => bif Nat.beq m k || acc.any (fun p => Nat.beq p.1 m) then uniq r acc else uniq r ((m, k) :: acc)
def envAny (p : Leaf → Bool) : Env → Bool
  | [] => false
  | (_, e) :: r => e.any p || envAny p r
def nameR (m k : Nat) (env : Env) : Option Env :=
  bif Nat.beq m 0 || Nat.beq k 0 || Nat.beq m k || envAny (Leaf.inReg k) env then none else some (env.map (nameE m k))
def names1 : List (Nat × Nat) → Nat → Env → Option Env
  | [], _, env => some env
  | (m, _) :: r, i, env => (match nameR m i env with | some e => names1 r (i + 1) e | none => none)
def names2 : List (Nat × Nat) → Nat → Env → Option Env
  | [], _, env => some env
  | (_, k) :: r, i, env => (match nameR i k env with | some e => names2 r (i + 1) e | none => none)
def bigReg : Nat := 1000000
def names (l : List (Nat × Nat)) (env : Env) : Option Env :=
  match names1 l bigReg env with
  | some e => names2 l bigReg e
  | none => none
def restr : Shape → Env → Env
  | [], _ => []
  | (s, _) :: r, env => (s, env.get s) :: restr r env
def fitE (sh : Shape) (env : Env) : Option Env :=
  match freezes (frzAll sh env) (restr sh env) with
  | some e => (match castAll sh e with
    | some e' => names (uniq (namAll sh e') []) e'
    | none => none)
  | none => none
abbrev LSh.den : LSh → Type
  | .fz t _ _ => t.den
  | .rt _ t _ _ _ _ => List t.den
def LSh.leaf : (s : LSh) → s.den → Leaf
  | .fz t reg lin, v => .fz t reg lin v
  | .rt e t tag sub lin st, v => .rt e t tag sub lin st v
abbrev LsVal : List LSh → Type
  | [] => Unit
  | s :: r => s.den × LsVal r
def lsOf : (ss : List LSh) → LsVal ss → List Leaf
  | [], _ => []
  | s :: r, v => s.leaf v.1 :: lsOf r v.2
abbrev Sh.den : Sh → Type
  | .val _ ss => LsVal ss
  | .box _ ss => LsVal ss
  | .fn _ _ => Unit
  | .mp _ kt vt => List (kt.den × vt.den)
def Sh.ent : (s : Sh) → s.den → Ent
  | .val agg ss, v => .val agg (lsOf ss v)
  | .box ro ss, v => .box ro (lsOf ss v)
  | .fn f caps, _ => .fn f caps
  | .mp d kt vt, m => .mp d kt vt m
abbrev ShVal : Shape → Type
  | [] => Unit
  | p :: r => p.2.den × ShVal r
def envOf : (sh : Shape) → ShVal sh → Env
  | [], _ => []
  | p :: r, v => (p.1, p.2.ent v.1) :: envOf r v.2
def parseLeaf : (s : LSh) → Leaf → Option s.den
  | .fz t reg lin, .fz t' reg' lin' v => bif Nat.beq reg reg' && bEq lin lin' then Ty.cast t v else none
  | .rt e t tag sub lin st, .rt e' t' tag' sub' lin' st' v => bif Nat.beq e e' && Nat.beq tag tag' && bEq sub sub' && bEq lin lin' && bEq st st' then (Ty.cast (.slice e t) (Leaf.rt e' t' tag' sub' lin' st' v).val : Option (List t.den)) else none
  | _, _ => none
def parseLs : (ss : List LSh) → List Leaf → Option (LsVal ss)
  | [], [] => some ()
  | s :: r, l :: ls => (match parseLeaf s l, parseLs r ls with | some x, some y => some (x, y) | _, _ => none)
  | _, _ => none
def parseEnt : (s : Sh) → Ent → Option s.den
  | .val agg ss, .val agg' ls => bif bEq agg agg' then parseLs ss ls else none
  | .box ro ss, .box ro' ls => bif bEq ro ro' then parseLs ss ls else none
  | .fn f caps, .fn f' caps' => bif Nat.beq f f' && eqL caps caps' then some () else none
  | .mp d kt vt, .mp d' kt' vt' m => bif Nat.beq d d' then castMap kt vt m else none
  | _, _ => none
where
  eqL : List Nat → List Nat → Bool
    | [], [] => true
    | a :: r, b :: r' => Nat.beq a b && eqL r r'
    | _, _ => false
def parse : (sh : Shape) → Env → Option (ShVal sh)
  | [], [] => some ()
  | p :: r, (s, e) :: env => bif Nat.beq p.1 s then (match parseEnt p.2 e, parse r env with | some x, some y => some (x, y) | _, _ => none) else none
  | _, _ => none
theorem parseLeaf_eq {s : LSh} {l : Leaf} {v : s.den} (h : parseLeaf s l = some v) : s.leaf v = l := by
  unfold parseLeaf at h
  split at h
  · rename_i t reg lin t' reg' lin' x
    cases hq : (Nat.beq reg reg' && bEq lin lin') with
    | false => rw [hq] at h; cases h
    | true =>
      rw [hq] at h; simp only [cond_true] at h
      simp only [Bool.and_eq_true] at hq
      obtain ⟨e, h⟩ := Ty.cast_eq h
      subst e
      have h : x = v := h
      subst h
      rw [Nat.eq_of_beq_eq_true hq.1, bEq_eq hq.2]; rfl
  · rename_i e t tg sub lin st e' t' tag' sub' lin' st' x
    cases hq : (Nat.beq e e' && Nat.beq tg tag' && bEq sub sub' && bEq lin lin' && bEq st st') with
    | false => rw [hq] at h; cases h
    | true =>
      rw [hq] at h; simp only [cond_true] at h
      simp only [Bool.and_eq_true] at hq
      obtain ⟨ee, h⟩ := Ty.cast_eq h
      injection ee with e1 e2
      subst e1; subst e2
      have h : x = v := h
      subst h
      obtain ⟨⟨⟨⟨q1, q2⟩, q3⟩, q4⟩, q5⟩ := hq
      rw [Nat.eq_of_beq_eq_true q2, bEq_eq q3, bEq_eq q4, bEq_eq q5]; rfl
  · cases h
theorem parseLs_eq : ∀ {ss : List LSh} {ls : List Leaf} {v : LsVal ss}, parseLs ss ls = some v → lsOf ss v = ls
  | [], [], _, _ => rfl
  | s :: r, l :: ls, v, h => by
    simp only [parseLs] at h
    split at h
    · rename_i x y h1 h2
      injection h with h; subst h
      simp only [lsOf, parseLeaf_eq h1, parseLs_eq h2]
    · cases h
  | [], _ :: _, _, h => by cases h
  | _ :: _, [], _, h => by cases h
theorem eqL_eq : ∀ {a b : List Nat}, parseEnt.eqL a b = true → a = b
  | [], [], _ => rfl
  | a :: r, b :: r', h => by
    simp only [parseEnt.eqL, Bool.and_eq_true] at h
    rw [Nat.eq_of_beq_eq_true h.1, eqL_eq h.2]
  | [], _ :: _, h => by cases h
  | _ :: _, [], h => by cases h
theorem parseEnt_eq {s : Sh} {e : Ent} {v : s.den} (h : parseEnt s e = some v) : s.ent v = e := by
  unfold parseEnt at h
  split at h
  · rename_i agg ss agg' ls
    cases hq : bEq agg agg' with
    | false => rw [hq] at h; cases h
    | true => rw [hq] at h; simp only [cond_true] at h; simp only [Sh.ent, parseLs_eq h, bEq_eq hq]
  · rename_i ro ss ro' ls
    cases hq : bEq ro ro' with
    | false => rw [hq] at h; cases h
    | true => rw [hq] at h; simp only [cond_true] at h; simp only [Sh.ent, parseLs_eq h, bEq_eq hq]
  · rename_i f caps f' caps'
    cases hq : (Nat.beq f f' && parseEnt.eqL caps caps') with
    | false => rw [hq] at h; cases h
    | true =>
      simp only [Bool.and_eq_true] at hq
      simp only [Sh.ent, Nat.eq_of_beq_eq_true hq.1, eqL_eq hq.2]
  · rename_i d kt vt d' kt' vt' m
    cases hq : Nat.beq d d' with
    | false => rw [hq] at h; cases h
    | true =>
      rw [hq] at h; simp only [cond_true] at h
      obtain ⟨e1, e2, h⟩ := castMap_eq h
      subst e1; subst e2
      have h : m = v := h
      subst h
      simp only [Sh.ent, Nat.eq_of_beq_eq_true hq]
  · cases h
theorem parse_eq : ∀ {sh : Shape} {env : Env} {v : ShVal sh}, parse sh env = some v → envOf sh v = env
  | [], [], _, _ => rfl
  | p :: r, (s, e) :: env, v, h => by
    simp only [parse] at h
    cases hq : Nat.beq p.1 s with
    | false => rw [hq] at h; cases h
    | true =>
      rw [hq] at h; simp only [cond_true] at h
      split at h
      · rename_i x y h1 h2
        injection h with h; subst h
        simp only [envOf, parseEnt_eq h1, parse_eq h2, Nat.eq_of_beq_eq_true hq]
      · cases h
  | [], _ :: _, _, h => by cases h
  | _ :: _, [], _, h => by cases h
section
variable {P : Program} {T : TTab} {n : NS} {w0 w : World} {W : Nat → Prop} {g : Gh} {a : Act}
theorem restr_get : ∀ (sh : Shape) (env : Env) (s : Nat), (restr sh env).get s = env.get s ∨ (restr sh env).get s = .dead
  | [], env, s => .inr rfl
  | (j, _) :: r, env, s => by
    simp only [restr, Env.get]
    cases hq : Nat.beq j s with
    | true => rw [Nat.eq_of_beq_eq_true hq]; exact .inl rfl
    | false => exact restr_get r env s
theorem castLeaf_B {h : Mem} {s : LSh} {l l' : Leaf} {cs : List Value} {bs : List Nat} (hl : LeafB g h l cs bs) (hc : castLeaf s l = some l') : l'.ty = l.ty ∧ LeafB g h l' cs bs := by
  unfold castLeaf at hc
  split at hc
  · rename_i t reg lin t' reg' lin' v
    cases hi : impB lin (lin' && bEq (Nat.beq reg 0) (Nat.beq reg' 0)) with
    | false => rw [hi] at hc; cases hc
    | true =>
      rw [hi] at hc; simp only [cond_true] at hc
      split at hc
      · rename_i v' hv
        injection hc with hc; subst hc
        obtain ⟨e, hv⟩ := Ty.cast_eq hv
        subst e
        have hv : v = v' := hv
        subst hv
        obtain ⟨h1, h2, h3, h4⟩ := hl
        refine ⟨rfl, h1, h2, fun hr => ?_, fun hlin => ?_⟩
        · cases hq : Nat.beq reg 0 with
          | true => rw [hq] at hr; exact absurd rfl hr
          | false => rw [hq] at hr; exact h3 hr
        · subst hlin
          simp only [impB, Bool.not_true, Bool.false_or, Bool.and_eq_true] at hi
          have q := bEq_eq hi.2
          have h5 := h4 hi.1
          cases hq : Nat.beq reg 0 with
          | true =>
            rw [hq] at q
            have z := Nat.eq_of_beq_eq_true q.symm
            subst z; exact h5
          | false => exact h5
      · cases hc
  · rename_i e t tg sub lin st e' t' tag' sub' lin' st' v
    cases hi : (impB sub' sub && impB lin lin' && impB st st' && Nat.beq e e') with
    | false => rw [hi] at hc; cases hc
    | true =>
      rw [hi] at hc; simp only [cond_true] at hc
      simp only [Bool.and_eq_true] at hi
      obtain ⟨⟨⟨i1, i2⟩, i3⟩, i4⟩ := hi
      split at hc
      · rename_i v' hv
        injection hc with hc; subst hc
        obtain ⟨ee, hv⟩ := Ty.cast_eq hv
        injection ee with e1 e2
        subst e1; subst e2
        have hv : v = v' := hv
        subst hv
        obtain ⟨hd, blk, bs', k1, k2, k3, k4, k5, k6, k7, k8⟩ := hl
        refine ⟨rfl, hd, blk, bs', k1, k2, fun hs => k3 ?_, fun hs => k4 ?_, k5, k6, k7, fun hs => k8 ?_⟩
        · subst hs; cases sub' with
          | false => rfl
          | true => simp [impB] at i1
        · subst hs; simpa [impB] using i3
        · subst hs; simpa [impB] using i2
      · cases hc
  · cases hc
theorem castLs_B {h : Mem} : ∀ {ss : List LSh} {ls ls' : List Leaf} {cs : List Value} {bs : List Nat}, LeavesB g h ls cs bs → castLs ss ls = some ls' → LeavesB g h ls' cs bs
  | [], [], ls', cs, bs, hl, hc => by injection hc with hc; subst hc; exact hl
  | s :: r, l :: ls, ls', cs, bs, ⟨b1, b2, h1, h2, h3⟩, hc => by
    simp only [castLs] at hc
    split at hc
    · rename_i x y hx hy
      injection hc with hc; subst hc
      obtain ⟨e, q⟩ := castLeaf_B h1 hx
      exact ⟨b1, b2, by rw [e]; exact q, by rw [e]; exact castLs_B h2 hy, h3⟩
    · cases hc
  | [], _ :: _, _, _, _, _, hc => by cases hc
  | _ :: _, [], _, _, _, _, hc => by cases hc
theorem allFz_kd {h : Mem} : ∀ {ls : List Leaf} {cs : List Value} {bs : List Nat}, LeavesB g h ls cs bs → allFz ls = true → ∀ b ∈ bs, g.kd b = .fz
  | [], cs, bs, ⟨_, h2⟩, _ => by subst h2; intro b hb; cases hb
  | .fz t reg lin v :: r, cs, bs, ⟨b1, b2, h1, h2, h3⟩, ha => by
    subst h3
    intro b hb
    rcases List.mem_append.1 hb with hb | hb
    · exact h1.2.1 b hb
    · exact allFz_kd h2 ha b hb
  | .rt _ _ _ _ _ _ _ :: r, cs, bs, _, ha => by cases ha
theorem castM_B {h : Mem} {ss : List LSh} {ls ls' : List Leaf} {cs : List Value} {bs : List Nat} (hl : LeavesB g h ls cs bs) (hc : castM ss ls = some ls') : LeavesB g h ls' cs bs := by
  unfold castM at hc
  split at hc
  · rename_i r hr; injection hc with hc; subst hc; exact castLs_B hl hr
  · split at hc
    · rename_i t reg lin _
      cases hi : (allFz ls && Nat.beq reg 0 && !lin) with
      | false => rw [hi] at hc; cases hc
      | true =>
        rw [hi] at hc; simp only [cond_true] at hc
        simp only [Bool.and_eq_true] at hi
        split at hc
        · rename_i v hv
          injection hc with hc; subst hc
          have hr := valAs_rd hv hl
          have hk := allFz_kd hl hi.1.1
          exact LeafB.many (l := .fz t 0 false v) ⟨hr, hk, fun h => absurd rfl h, fun h => by cases h⟩
        · cases hc
    · cases hc
theorem castEnt_R {h : Mem} {sh : Sh} {s : Nat} {e e' : Ent} {v : Value} (he : EntR g h s e v) (hc : castEnt sh e = some e') : EntR g h s e' v := by
  unfold castEnt at hc
  split at hc
  · rename_i agg ss agg' ls
    cases hi : ((agg && agg') || (!agg && !agg')) with
    | false => rw [hi] at hc; cases hc
    | true =>
      rw [hi] at hc; simp only [cond_true] at hc
      split at hc
      · rename_i r hr
        injection hc with hc; subst hc
        have : agg = agg' := by cases agg <;> cases agg' <;> simp at hi <;> rfl
        subst this
        obtain ⟨cs, bs, h1, h2, h3⟩ := he
        exact ⟨cs, bs, h1, h2, castM_B h3 hr⟩
      · cases hc
  · rename_i ro ss ro' ls
    cases hi : ((ro && ro') || (!ro && !ro')) with
    | false => rw [hi] at hc; cases hc
    | true =>
      rw [hi] at hc; simp only [cond_true] at hc
      split at hc
      · rename_i r hr
        injection hc with hc; subst hc
        have : ro = ro' := by cases ro <;> cases ro' <;> simp at hi <;> rfl
        subst this
        obtain ⟨b, c, e, fr, bs, h1, h2, h3, h4⟩ := he
        exact ⟨b, c, e, fr, bs, h1, h2, castM_B h3 hr, h4⟩
      · cases hc
  · rename_i f caps f' caps'
    cases hi : (Nat.beq f f' && caps.length == caps'.length && (caps.zip caps').all (fun p => Nat.beq p.1 p.2)) with
    | false => rw [hi] at hc; cases hc
    | true => rw [hi] at hc; injection hc with hc; subst hc; exact he
  · rename_i d kt vt d' kt' vt' m
    cases hi : (Nat.beq d d' && kt'.eqb kt && vt'.eqb vt) with
    | false => rw [hi] at hc; cases hc
    | true => rw [hi] at hc; injection hc with hc; subst hc; exact he
  · cases hc
theorem castAll_R {h : Mem} {tm : Nat → Value} : ∀ {sh : Shape} {env env' : Env}, (∀ s, EntR g h s (env.get s) (tm s)) → castAll sh env = some env' → ∀ s, EntR g h s (env'.get s) (tm s)
  | [], env, env', he, hc, s => by injection hc with hc; subst hc; trivial
  | (j, sh) :: r, env, env', he, hc, s => by
    simp only [castAll] at hc
    split at hc
    · rename_i e env2 h1 h2
      injection hc with hc; subst hc
      simp only [Env.get]
      cases hq : Nat.beq j s with
      | true => have := Nat.eq_of_beq_eq_true hq; subst this; exact castEnt_R (he j) h1
      | false => exact castAll_R he h2 s
    · cases hc
theorem envAny_get {p : Leaf → Bool} : ∀ {env : Env}, envAny p env = false → ∀ s, (env.get s).any p = false
  | [], _, s => rfl
  | (j, e) :: r, h, s => by
    simp only [envAny, Bool.or_eq_false_iff] at h
    simp only [Env.get]
    cases Nat.beq j s with
    | true => exact h.1
    | false => exact envAny_get h.2 s
theorem nameR_sound {m k : Nat} {env env' : Env} (st : St n w0 W g env.get a w) (h : nameR m k env = some env') : ∃ g', g'.al = g.al ∧ St n w0 W g' env'.get a w := by
  unfold nameR at h
  cases hq : (Nat.beq m 0 || Nat.beq k 0 || Nat.beq m k || envAny (Leaf.inReg k) env) with
  | true => rw [hq] at h; cases h
  | false =>
    rw [hq] at h; simp only [cond_false, Option.some.injEq] at h; subst h
    simp only [Bool.or_eq_false_iff] at hq
    obtain ⟨⟨⟨q1, q2⟩, q3⟩, q4⟩ := hq
    refine ⟨g.name m k, rfl, ?_⟩
    have := st.name (nbeq_ne q1) (nbeq_ne q2) (nbeq_ne q3) (envAny_get q4)
    refine this.get_eq ?_
    funext s
    rw [Env.get_map _ rfl]
theorem names1_sound : ∀ {l : List (Nat × Nat)} {i : Nat} {env env' : Env} {g : Gh}, St n w0 W g env.get a w → names1 l i env = some env' → ∃ g', g'.al = g.al ∧ St n w0 W g' env'.get a w
  | [], i, env, env', g, st, h => by injection h with h; subst h; exact ⟨g, rfl, st⟩
  | (m, k) :: r, i, env, env', g, st, h => by
    simp only [names1] at h
    split at h
    · rename_i e he
      obtain ⟨g1, q1, q2⟩ := nameR_sound st he
      obtain ⟨g2, q3, q4⟩ := names1_sound q2 h
      exact ⟨g2, q3.trans q1, q4⟩
    · cases h
theorem names2_sound : ∀ {l : List (Nat × Nat)} {i : Nat} {env env' : Env} {g : Gh}, St n w0 W g env.get a w → names2 l i env = some env' → ∃ g', g'.al = g.al ∧ St n w0 W g' env'.get a w
  | [], i, env, env', g, st, h => by injection h with h; subst h; exact ⟨g, rfl, st⟩
  | (m, k) :: r, i, env, env', g, st, h => by
    simp only [names2] at h
    split at h
    · rename_i e he
      obtain ⟨g1, q1, q2⟩ := nameR_sound st he
      obtain ⟨g2, q3, q4⟩ := names2_sound q2 h
      exact ⟨g2, q3.trans q1, q4⟩
    · cases h
theorem fitE_sound {sh : Shape} {env env' : Env} (hwal : ∀ b, W b → g.al b) (st : St n w0 W g env.get a w) (h : fitE sh env = some env') : ∃ g', g'.al = g.al ∧ St n w0 W g' env'.get a w := by
  unfold fitE at h
  split at h
  · rename_i e1 h1
    split at h
    · rename_i e2 h2
      have st0 : St n w0 W g (restr sh env).get a w := st.kill (restr_get sh env)
      obtain ⟨g1, q1, q2⟩ := freezes_sound hwal st0 h1
      have st2 : St n w0 W g1 e2.get a w := ⟨q2.inv, castAll_R q2.ent h2, q2.sz, q2.df, q2.os, q2.tape, q2.output⟩
      unfold names at h
      split at h
      · rename_i e3 h3
        obtain ⟨g2, q3, q4⟩ := names1_sound st2 h3
        obtain ⟨g3, q5, q6⟩ := names2_sound q4 h
        exact ⟨g3, q5.trans (q3.trans q1), q6⟩
      · cases h
    · cases h
  · cases h
end
def findN {α : Type} : List (Nat × α) → Nat → Option α
  | [], _ => none
  | (j, x) :: r, i => bif Nat.beq j i then some x else findN r i
def keepK : List Nat → Env → Env
  | [], _ => []
  | s :: r, env => (match env.get s with | .dead => keepK r env | e => (s, e) :: keepK r env)
def keepH (H : List (Nat × List Nat)) (id : Nat) (env : Env) : Env :=
  match findN H id with
  | some ks => keepK ks env
  | none => env
def headId : Code → Nat
  | .region id _ _ => id
  | .seq a _ => headId a
  | .block _ b => headId b
  | .loop b => headId b
  | _ => 0
def fitK {α : Type} (sh : Shape) (k : ShVal sh → Option α) (env : Env) : Option α :=
  match fitE sh env with
  | some e => (match parse sh e with
    | some s => k s
    | none => none)
  | none => none
structure LS (α : Type) where
  sh : Shape
  out : Nat
  run : ShVal sh → (ShVal sh → Option α) → Option α
abbrev LTab (α : Type) := List (Nat × LS α)
def iter {S α : Type} (step : S → (S → Option α) → Option α) : Nat → S → Option α
  | 0, _ => none
  | f + 1, s => step s (iter step f)
def evL {α : Type} (T : TTab) (K : CTab) (H : List (Nat × List Nat)) (LT : LTab α) : Code → Env → (Env → Option α) → (Nat → Env → Option α) → (Env → Option α) → Option α
  | .skip, env, kn, kx, kr => kn env
  | .region id ops draw, env, kn, kx, kr =>
    bif draw then drawK T K ops.toList env (fun e => kn (keepH H id e)) else seqK T K ops.toList (List.range' 0 ops.toList.length) env (fun e => kn (keepH H id e))
  | .seq a b, env, kn, kx, kr => evL T K H LT a env (fun e => evL T K H LT b e kn kx kr) kx kr
  | .cond c a b, env, kn, kx, kr => (match opE env.get c with
    | some e => (match asB e with
      | some v => bif v then evL T K H LT a env kn kx kr else evL T K H LT b env kn kx kr
      | none => none)
    | none => none)
  | .block id b, env, kn, kx, kr => evL T K H LT b env kn (fun j e => bif Nat.beq j id then kn e else kx j e) kr
  | .loop b, env, kn, kx, kr => (match findN LT (headId b) with
    | some ls => fitK ls.sh (fun s => ls.run s (fun s' => kx ls.out (envOf ls.sh s'))) env
    | none => none)
  | .exit id, env, kn, kx, kr => kx id env
  | .label _, env, kn, kx, kr => kn env
  | .ret, env, kn, kx, kr => kr env
  | _, _, _, _, _ => none
def okCode (n : NS) : Code → Bool
  | .region _ ops _ => ops.toList.all fun o => match o.dst with | some d => Nat.blt d n.n && !(n.k && Nat.beq d 0) | none => true
  | .seq a b => okCode n a && okCode n b
  | .cond _ a b => okCode n a && okCode n b
  | .block _ b => okCode n b
  | .loop b => okCode n b
  | _ => true
noncomputable def least (p : Nat → Prop) : Nat := by
  classical
  exact if h : ∃ n, p n ∧ ∀ m, m < n → ¬ p m then Classical.choose h else 0
theorem least_min {p : Nat → Prop} : ∀ n, p n → ∃ k, p k ∧ ∀ m, m < k → ¬ p m := by
  intro n
  induction n using Nat.strongRecOn with
  | _ n ih =>
    intro hn
    by_cases h : ∃ m, m < n ∧ p m
    · obtain ⟨m, h1, h2⟩ := h; exact ih m h1 h2
    · exact ⟨n, hn, fun m hm hp => h ⟨m, hm, hp⟩⟩
theorem least_spec {p : Nat → Prop} (h : ∃ n, p n) : p (least p) ∧ ∀ m, p m → least p ≤ m := by
  have h' : ∃ n, p n ∧ ∀ m, m < n → ¬ p m := by obtain ⟨n, hn⟩ := h; exact least_min n hn
  have e : least p = Classical.choose h' := by unfold least; exact dif_pos h'
  rw [e]
  obtain ⟨h1, h2⟩ := Classical.choose_spec h'
  exact ⟨h1, fun m hm => by
    rcases Nat.lt_or_ge m (Classical.choose h') with q | q
    · exact absurd hm (h2 m q)
    · exact q⟩
section
variable {α : Type} {P : Program} {T : TTab} {K : CTab} {H : List (Nat × List Nat)} {n : NS} {w0 : World} {W : Nat → Prop} {A : Nat → Prop}
theorem keepK_get : ∀ (ks : List Nat) (env : Env) (s : Nat), (keepK ks env).get s = env.get s ∨ (keepK ks env).get s = .dead
  | [], env, s => .inr rfl
  | j :: r, env, s => by
    simp only [keepK]
    split
    · exact keepK_get r env s
    · rename_i e he
      simp only [Env.get]
      cases hq : Nat.beq j s with
      | true => rw [Nat.eq_of_beq_eq_true hq]; exact .inl rfl
      | false => exact keepK_get r env s
theorem keepH_St {id : Nat} {env : Env} {a : Act} {w : World} {g : Gh} (st : St n w0 W g env.get a w) : St n w0 W g (keepH H id env).get a w := by
  unfold keepH
  split
  · exact st.kill (keepK_get _ env)
  · exact st
def LSOK (P : Program) (n : NS) (ls : LS α) (b : Code) (kr : Env → Option α) : Prop :=
  ∀ (w0 : World) (W : Nat → Prop) (A : Nat → Prop), (∀ b, W b → A b) → ∀ (s : ShVal ls.sh) (kx : ShVal ls.sh → Option α) (y : α) (a : Act) (w : World) (g : Gh) (Q : Exit → Act → World → Prop), ls.run s kx = some y → St n w0 W g (envOf ls.sh s).get a w → g.al = A →
    (∀ s' a' w' g', kx s' = some y → St n w0 W g' (envOf ls.sh s').get a' w' → g'.al = A → Q (.exit ls.out) a' w') →
    (∀ env' a' w' g', kr env' = some y → St n w0 W g' env'.get a' w' → g'.al = A → Q .ret a' w') → (Code.loop b).wp P Q a w
def LTOK (P : Program) (n : NS) (LT : LTab α) (kr : Env → Option α) : Code → Prop
  | .seq a b => LTOK P n LT kr a ∧ LTOK P n LT kr b
  | .cond _ a b => LTOK P n LT kr a ∧ LTOK P n LT kr b
  | .block _ b => LTOK P n LT kr b
  | .loop b => ∀ ls, findN LT (headId b) = some ls → LSOK P n ls b kr
  | _ => True
theorem fitK_inv {sh : Shape} {k : ShVal sh → Option α} {env : Env} {y : α} {a : Act} {w : World} {g : Gh} (hwal : ∀ b, W b → g.al b) (st : St n w0 W g env.get a w) (h : fitK sh k env = some y) : ∃ s g', k s = some y ∧ g'.al = g.al ∧ St n w0 W g' (envOf sh s).get a w := by
  unfold fitK at h
  split at h
  · rename_i e he
    split at h
    · rename_i s hs
      obtain ⟨g', q1, q2⟩ := fitE_sound hwal st he
      exact ⟨s, g', h, q1, by rw [parse_eq hs]; exact q2⟩
    · cases h
  · cases h
theorem evL_sound {LT : LTab α} {kr : Env → Option α} (hm : P.follows .mixedOrders = true) (hT : TOK P T) (hK : KOK P K) (hwal : ∀ b, W b → A b) : ∀ {c : Code}, okCode n c = true → LTOK P n LT kr c → ∀ {env : Env} {kn : Env → Option α} {kx : Nat → Env → Option α} {y : α} {a : Act} {w : World} {g : Gh} {Q : Exit → Act → World → Prop},
    evL T K H LT c env kn kx kr = some y → St n w0 W g env.get a w → g.al = A →
    (∀ env' a' w' g', kn env' = some y → St n w0 W g' env'.get a' w' → g'.al = A → Q .normal a' w') →
    (∀ id env' a' w' g', kx id env' = some y → St n w0 W g' env'.get a' w' → g'.al = A → Q (.exit id) a' w') →
    (∀ env' a' w' g', kr env' = some y → St n w0 W g' env'.get a' w' → g'.al = A → Q .ret a' w') → c.wp P Q a w := by
  intro c
  induction c with
  | skip => intro _ _ env kn kx y a w g Q h st hA hn hx hr; exact wp_skip (hn _ _ _ _ h st hA)
  | region id ops draw =>
    intro hc _ env kn kx y a w g Q h st hA hn hx hr
    have hd : ∀ (i : Nat) (o : Oper), ops.toList[i]? = some o → ∀ d, o.dst = some d → n.has d := by
      intro i o ho d hd
      simp only [okCode, List.all_eq_true] at hc
      have := hc o (List.mem_of_getElem? ho)
      rw [hd] at this
      simp only [Bool.and_eq_true, Bool.not_eq_true', Bool.and_eq_false_iff] at this
      refine ⟨by simpa using this.1, fun hk => ?_⟩
      rcases this.2 with q | q
      · rw [hk] at q; cases q
      · exact nbeq_ne q
    have hk : ∀ env' a' w' g', kn (keepH H id env') = some y → St n w0 W g' env'.get a' w' → g'.al = A → Q .normal a' w' := fun env' a' w' g' q1 q2 q3 => hn _ _ _ _ q1 (keepH_St q2) q3
    simp only [evL] at h
    cases draw with
    | true =>
      simp only [cond_true] at h
      have := drawK_sound (Q := Q) (id := id) (L := ops.toList) hm hT hK hwal hd h st hA hk
      simpa using this
    | false =>
      simp only [cond_false] at h
      refine wp_region ?_
      have := seqK_sound (Q := Q) (L := ops.toList) hT hK hwal hd h st hA hk
      rw [List.range_eq_range']
      simpa using this
  | seq x z ihx ihz =>
    intro hc hl env kn kx y a w g Q h st hA hn hx hr
    simp only [okCode, Bool.and_eq_true] at hc
    simp only [evL] at h
    refine wp_seq ?_
    exact ihx hc.1 hl.1 (Q := Exit.then (z.wp P Q) Q) h st hA (fun env' a' w' g' q1 q2 q3 => ihz hc.2 hl.2 q1 q2 q3 hn hx hr) hx hr
  | cond c x z ihx ihz =>
    intro hc hl env kn kx y a w g Q h st hA hn hx hr
    simp only [okCode, Bool.and_eq_true] at hc
    simp only [evL] at h
    split at h
    · rename_i e he
      split at h
      · rename_i v hv
        obtain ⟨s, hs, _⟩ := opE_sound st.ent he
        have hb : a.eval c = .bool v := by
          unfold asB at hv
          split at hv
          · rename_i reg lin b
            injection hv with hv; subst hv
            obtain ⟨bs, hl, _⟩ := val1 hs
            obtain ⟨⟨h1, _⟩, _⟩ := hl
            injection h1
          · cases hv
        refine wp_cond (t := v) hb ?_
        cases v with
        | true => exact ihx hc.1 hl.1 h st hA hn hx hr
        | false => exact ihz hc.2 hl.2 h st hA hn hx hr
      · cases h
    · cases h
  | block id b ih =>
    intro hc hl env kn kx y a w g Q h st hA hn hx hr
    simp only [okCode] at hc
    simp only [evL] at h
    refine wp_block ?_
    refine ih hc hl (Q := Exit.inBlock id Q) h st hA hn (fun j env' a' w' g' q1 q2 q3 => ?_) hr
    simp only [Exit.inBlock]
    cases hq : Nat.beq j id with
    | true =>
      rw [hq] at q1
      rw [if_pos (Nat.eq_of_beq_eq_true hq)]
      exact hn _ _ _ _ q1 q2 q3
    | false =>
      rw [hq] at q1
      rw [if_neg (nbeq_ne hq)]
      exact hx _ _ _ _ _ q1 q2 q3
  | loop b ih =>
    intro hc hl env kn kx y a w g Q h st hA hn hx hr
    simp only [evL] at h
    split at h
    · rename_i ls hls
      obtain ⟨s, g', q1, q2, q3⟩ := fitK_inv (fun b hb => by rw [hA]; exact hwal b hb) st h
      exact hl ls hls w0 W A hwal s _ y a w g' Q q1 q3 (q2.trans hA) (fun s' a' w' g' z1 z2 z3 => hx _ _ _ _ _ z1 z2 z3) hr
    · cases h
  | exit id => intro _ _ env kn kx y a w g Q h st hA hn hx hr; exact wp_exit (hx _ _ _ _ _ h st hA)
  | label l => intro _ _ env kn kx y a w g Q h st hA hn hx hr; exact wp_label (hn _ _ _ _ h st hA)
  | ret => intro _ _ env kn kx y a w g Q h st hA hn hx hr; exact wp_ret (hr _ _ _ _ h st hA)
  | _ => intro _ _ env kn kx y a w g Q h; simp [evL] at h
structure RoundAt (n : NS) (w0 : World) (W : Nat → Prop) (A : Nat → Prop) (sh : Shape) (step : ShVal sh → (ShVal sh → Option α) → Option α) (y : α) (f : Nat) (a : Act) (w : World) : Prop where
  ex : ∃ s g, iter step f s = some y ∧ St n w0 W g (envOf sh s).get a w ∧ g.al = A
theorem loop_ok {LT : LTab α} {kr : Env → Option α} {sh : Shape} {out : Nat} {b : Code} {F : Nat} (step : ShVal sh → (ShVal sh → Option α) → (ShVal sh → Option α) → Option α) (hm : P.follows .mixedOrders = true) (hT : TOK P T) (hK : KOK P K) (hc : okCode n b = true) (hl : LTOK P n LT kr b)
    (h : ∀ (s : ShVal sh) (k kx : ShVal sh → Option α), evL T K H LT b (envOf sh s) (fitK sh k) (fun j e => bif Nat.beq j out then fitK sh kx e else none) kr = step s k kx) :
    LSOK P n ⟨sh, out, fun s kx => iter (fun s k => step s k kx) F s⟩ b kr := by
  intro w0 W A hwal s kx y a w g Q hr st hA hx hret
  refine wp_loop (fun a w => ∃ f, RoundAt n w0 W A sh (fun s k => step s k kx) y f a w) (fun a w => least fun f => RoundAt n w0 W A sh (fun s k => step s k kx) y f a w) ⟨F, s, g, hr, st, hA⟩ ?_
  intro a1 w1 hI
  obtain ⟨hmin, _⟩ := least_spec hI
  generalize hf : least (fun f => RoundAt n w0 W A sh (fun s k => step s k kx) y f a1 w1) = f at hmin
  obtain ⟨s2, g2, z1, z2, z3⟩ := hmin.ex
  cases f with
  | zero => cases z1
  | succ f =>
    simp only [iter] at z1
    rw [← h] at z1
    refine evL_sound (Q := Exit.then (fun a' w' => (∃ f, RoundAt n w0 W A sh (fun s k => step s k kx) y f a' w') ∧ (least fun f => RoundAt n w0 W A sh (fun s k => step s k kx) y f a' w') < f + 1) Q) hm hT hK hwal hc hl z1 z2 z3 (fun env' a' w' g' y1 y2 y3 => ?_) (fun id env' a' w' g' y1 y2 y3 => ?_) hret
    · obtain ⟨s3, g3, r1, r2, r3⟩ := fitK_inv (fun b hb => by rw [y3]; exact hwal b hb) y2 y1
      have hJ : RoundAt n w0 W A sh (fun s k => step s k kx) y f a' w' := ⟨s3, g3, r1, r3, r2.trans y3⟩
      exact ⟨⟨f, hJ⟩, Nat.lt_succ_of_le ((least_spec (p := fun f => RoundAt n w0 W A sh (fun s k => step s k kx) y f a' w') ⟨f, hJ⟩).2 f hJ)⟩
    · cases hq : Nat.beq id out with
      | false => rw [hq] at y1; cases y1
      | true =>
        rw [hq] at y1; simp only [cond_true] at y1
        have := Nat.eq_of_beq_eq_true hq; subst this
        obtain ⟨s3, g3, r1, r2, r3⟩ := fitK_inv (fun b hb => by rw [y3]; exact hwal b hb) y2 y1
        exact hx _ _ _ _ r1 r3 (r2.trans y3)
end
end Go.Proofs.YtmdpmnjnpnjppaaEv
