/- Literals of structs and arrays. -/
import Derived.Test.YtkoifikjfnbcpaaEvSndH
set_option linter.unusedVariables false
set_option linter.unusedSimpArgs false
namespace Go.Proofs.YtkoifikjfnbcpaaEv
open Go Go.RowKit

def splice (cs : List Value) (o : Nat) (vs : List Value) : List Value := cs.take o ++ vs ++ cs.drop (o + vs.length)

theorem splice_get (cs : List Value) (o : Nat) (vs : List Value) (h : o + vs.length ≤ cs.length) (j : Nat) : (splice cs o vs)[j]? = if o ≤ j ∧ j < o + vs.length then vs[j - o]? else cs[j]? := by
  unfold splice
  have hl : (cs.take o).length = o := by simp; omega
  by_cases h1 : j < o
  · rw [if_neg (by omega), List.append_assoc, List.getElem?_append_left (by omega), List.getElem?_take_of_lt h1]
  · by_cases h2 : j < o + vs.length
    · rw [if_pos (by omega), List.append_assoc, List.getElem?_append_right (by omega), hl, List.getElem?_append_left (by omega)]
    · rw [if_neg (by omega), List.getElem?_append_right (by simp; omega)]
      simp only [List.length_append, hl, List.getElem?_drop]
      congr 1; omega

theorem fill_step (cs : Array Value) (o : Nat) (vs : Array Value) (h : o + vs.size ≤ cs.size) :
    (vs.zipIdx.foldl (fun cs (c, j) => cs.setIfInBounds (o + j) c) cs) = (splice cs.toList o vs.toList).toArray := by
  have key := Great.foldl_set o vs.toList 0 cs
  have e : (vs.zipIdx.foldl (fun cs (c, j) => cs.setIfInBounds (o + j) c) cs) = ((vs.toList.zipIdx 0).foldl (fun cs (x : Value × Nat) => cs.setIfInBounds (o + x.2) x.1) cs) := by
    rw [← Array.foldl_toList]; simp
  rw [e]
  apply Array.ext'
  apply List.ext_getElem?
  intro j
  rw [Array.getElem?_toList, key.2 j, List.toList_toArray, splice_get _ _ _ (by simpa using h)]
  simp only [Nat.add_zero]
  by_cases hj : o ≤ j ∧ j < o + vs.toList.length
  · rw [if_pos hj, if_pos ⟨hj.1, hj.2, by simp at hj; omega⟩]
  · rw [if_neg hj, if_neg (by omega)]; simp

section
variable {P : Program} {T : TTab} {n : NS} {w0 w : World} {W : Nat → Prop} {g : Gh} {get : Nat → Ent} {a : Act} {d : Nat}

theorem sizes_leafAt : ∀ {ls : List Leaf} {i o : Nat} {l : Leaf}, leafAt ls i = some (o, l) → o + l.ty.size ≤ sizes ls
  | [], _, _, _, h => by cases h
  | x :: r, 0, o, l, h => by simp only [leafAt, Option.some.injEq, Prod.mk.injEq] at h; obtain ⟨rfl, rfl⟩ := h; simp [sizes]
  | x :: r, i + 1, o, l, h => by
    simp only [leafAt] at h
    split at h
    · rename_i o' x' hl
      injection h with h; injection h with h1 h2; subst h1; subst h2
      have := sizes_leafAt hl; simp [sizes]; omega
    · cases h

/-- A part put in another's place. -/
theorem LeavesB.set {h : Mem} : ∀ {ls : List Leaf} {cs : List Value} {bs : List Nat} {i o : Nat} {l x : Leaf} {vs : List Value} {b : List Nat}, LeavesB g h ls cs bs → leafAt ls i = some (o, l) → x.ty = l.ty → LeafB g h x vs b →
    ∃ bs', LeavesB g h (ls.set i x) (splice cs o vs) bs'
  | [], _, _, _, _, _, _, _, _, _, h, _, _ => by cases h
  | y :: r, cs, bs, 0, o, l, x, vs, b, ⟨b1, b2, h1, h2, h3⟩, hl, hx, hb => by
    simp only [leafAt, Option.some.injEq, Prod.mk.injEq] at hl
    obtain ⟨rfl, rfl⟩ := hl
    have hv := hb.rd.length
    rw [hx] at hv
    refine ⟨b ++ b2, b, b2, ?_, ?_, rfl⟩
    · rw [hx]; unfold splice; simp only [List.take_zero, List.nil_append]
      rw [List.take_append_of_le_length (by omega), List.take_of_length_le (by omega)]; exact hb
    · rw [hx]; unfold splice; simp only [List.take_zero, List.nil_append, Nat.zero_add]
      rw [List.drop_append_of_le_length (by omega), List.drop_of_length_le (by omega), List.nil_append, hv]; exact h2
  | y :: r, cs, bs, i + 1, o, l, x, vs, b, ⟨b1, b2, h1, h2, h3⟩, hl, hx, hb => by
    simp only [leafAt] at hl
    split at hl
    · rename_i o' x' hl'
      injection hl with hl; injection hl with e1 e2; subst e1; subst e2
      obtain ⟨bs', q⟩ := LeavesB.set h2 hl' hx hb
      have len1 := h1.rd.length
      have len2 := LeavesB.length h2
      have hs := sizes_leafAt hl'
      have hv := hb.rd.length; rw [hx] at hv
      simp at len1 len2
      have gt := splice_get cs (y.ty.size + o') vs (by omega)
      refine ⟨b1 ++ bs', b1, bs', ?_, ?_, rfl⟩
      · have : (splice cs (y.ty.size + o') vs).take y.ty.size = cs.take y.ty.size := by
          apply List.ext_getElem?; intro j
          by_cases hj : j < y.ty.size
          · rw [List.getElem?_take_of_lt hj, List.getElem?_take_of_lt hj, gt, if_neg (by omega)]
          · rw [List.getElem?_eq_none (by simp; omega), List.getElem?_eq_none (by simp; omega)]
        rw [this]; exact h1
      · have : (splice cs (y.ty.size + o') vs).drop y.ty.size = splice (cs.drop y.ty.size) o' vs := by
          apply List.ext_getElem?; intro j
          rw [List.getElem?_drop, gt, splice_get _ _ _ (by simp; omega), List.getElem?_drop]
          by_cases hj : o' ≤ j ∧ j < o' + vs.length
          · rw [if_pos (by omega), if_pos hj]; congr 1; omega
          · rw [if_neg (by omega), if_neg hj]
        rw [this]; exact q
    · cases hl

theorem splice_length (cs : List Value) (o : Nat) (vs : List Value) (h : o + vs.length ≤ cs.length) : (splice cs o vs).length = cs.length := by
  unfold splice; simp; omega

theorem ext_entR {g' : Gh} {h h' : Mem} {e : Ent} {v : Value} {s : Nat} (x : Ext d g h g' h') (he : EntR g h s e v) (hd : e.at d = false) (hm : ∃ agg ls, e = .val agg ls) : EntR g' h' s e v := by
  obtain ⟨agg, ls, rfl⟩ := hm
  exact ValR.ext x he hd

/-- The places of a struct's fields. -/
def placesOf (fs : List Field) (sz : TypeId → Nat) : List (Nat × Nat) := fs.map fun f => (f.offset, sz f.type)

theorem fillS_ok {h : Mem} {place : Nat → Option (Nat × Nat)} : ∀ {vs : List (Nat × Value)} {es : List (Nat × Ent)} {ls ls' : List Leaf} {cs : Array Value} {bs : List Nat}, PR g h d vs es → fillS ls es = some ls' →
    (∀ i o l, leafAt ls i = some (o, l) → place i = some (o, l.ty.size)) → LeavesB g h ls cs.toList bs →
    ∃ cs' bs', Instr.fill place cs vs = some cs' ∧ LeavesB g h ls' cs'.toList bs'
  | [], [], ls, ls', cs, bs, _, hf, _, hl => by simp only [fillS, Option.some.injEq] at hf; subst hf; exact ⟨cs, bs, rfl, hl⟩
  | (i, v) :: r, (i', e) :: r', ls, ls', cs, bs, ⟨hii, ⟨s, he⟩, _, hp⟩, hf, hpl, hl => by
    subst hii
    simp only [fillS] at hf
    split at hf
    · rename_i agg xs
      split at hf
      · rename_i o l hla
        obtain ⟨b1, hb⟩ := ValR.cells he
        -- the new part
        have step : ∀ x : Leaf, x.ty = l.ty → (∃ b, LeafB g h x v.cells.toList b) → fillS (ls.set i x) r' = some ls' → ∃ cs' bs', Instr.fill place cs ((i, v) :: r) = some cs' ∧ LeavesB g h ls' cs'.toList bs' := by
          rintro x hx ⟨b, hxb⟩ hf
          obtain ⟨bs2, q⟩ := hl.set hla hx hxb
          have hv : v.cells.size = l.ty.size := by rw [← hx]; simpa using hxb.rd.length
          have hcs := hl.length
          have hle := sizes_leafAt hla
          simp at hcs
          have hfit : o + v.cells.size ≤ cs.size := by omega
          have hfill : Instr.fill place cs ((i, v) :: r) = Instr.fill place (splice cs.toList o v.cells.toList).toArray r := by
            simp only [Instr.fill, hpl i o l hla]
            rw [if_neg (by simp [hv]; omega), fill_step cs o v.cells hfit]
          rw [hfill]
          refine fillS_ok (bs := bs2) hp hf (fun j o' l' hj => ?_) (by simpa using q)
          -- the places stay
          have : ∀ {ls : List Leaf} {i : Nat} {x l : Leaf} {o : Nat}, leafAt ls i = some (o, l) → x.ty = l.ty → ∀ {j o' : Nat} {l' : Leaf}, leafAt (ls.set i x) j = some (o', l') → ∃ l2, leafAt ls j = some (o', l2) ∧ l2.ty = l'.ty := by
            intro ls
            induction ls with
            | nil => intro i x l o h; cases h
            | cons y ys ih =>
              intro i x l o h hx j o' l' hj
              cases i with
              | zero =>
                simp only [leafAt, Option.some.injEq, Prod.mk.injEq] at h; obtain ⟨rfl, rfl⟩ := h
                cases j with
                | zero => simp only [List.set_cons_zero, leafAt, Option.some.injEq, Prod.mk.injEq] at hj; obtain ⟨rfl, rfl⟩ := hj; exact ⟨y, rfl, hx.symm⟩
                | succ j =>
                  simp only [List.set_cons_zero, leafAt] at hj ⊢
                  split at hj
                  · rename_i o2 x2 h2; injection hj with hj; injection hj with e1 e2; subst e1; subst e2; exact ⟨x2, by rw [hx], rfl⟩
                  · cases hj
              | succ i =>
                simp only [leafAt] at h
                split at h
                · rename_i o1 x1 h1
                  injection h with h; injection h with e1 e2; subst e1; subst e2
                  cases j with
                  | zero => simp only [List.set_cons_succ, leafAt, Option.some.injEq, Prod.mk.injEq] at hj; obtain ⟨rfl, rfl⟩ := hj; exact ⟨y, rfl, rfl⟩
                  | succ j =>
                    simp only [List.set_cons_succ, leafAt] at hj ⊢
                    split at hj
                    · rename_i o2 x2 h2; injection hj with hj; injection hj with e1 e2; subst e1; subst e2
                      obtain ⟨l2, r1, r2⟩ := ih h1 hx h2
                      exact ⟨l2, by rw [r1], r2⟩
                    · cases hj
                · cases h
          obtain ⟨l2, r1, r2⟩ := this hla hx hj
          rw [← r2]; exact hpl _ _ _ r1
        split at hf
        · rename_i x
          cases hq : x.ty.eqb l.ty with
          | false => rw [hq] at hf; cases hf
          | true => rw [hq] at hf; exact step x (eqb_eq hq) ⟨_, hb.one⟩ hf
        · cases hq : l.ty.flat with
          | false => rw [hq] at hf; cases hf
          | true =>
            rw [hq] at hf; simp only [cond_true] at hf
            split at hf
            · rename_i y hy; exact step (.fz l.ty 0 false y) rfl ⟨_, flat_B hq (valAs_rd hy hb)⟩ hf
            · cases hf
      · cases hf
    · cases hf
  | [], _ :: _, _, _, _, _, h, _, _, _ => h.elim
  | (_, _) :: _, [], _, _, _, _, h, _, _, _ => h.elim

theorem fillA_ok {h : Mem} {m : Nat} {t : Ty} (hf : t.flat = true) : ∀ {vs : List (Nat × Value)} {es : List (Nat × Ent)} {x x' : Tup t.den m} {cs : Array Value}, PR g h d vs es → fillA m t x es = some x' →
    Rd h (.arr m t) x cs.toList [] → ∃ cs', Instr.fill (fun i => some (i * t.size, t.size)) cs vs = some cs' ∧ Rd h (.arr m t) x' cs'.toList []
  | [], [], x, x', cs, _, hl, hr => by simp only [fillA, Option.some.injEq] at hl; subst hl; exact ⟨cs, rfl, hr⟩
  | (i, v) :: r, (i', e) :: r', x, x', cs, ⟨hii, ⟨s, he⟩, _, hp⟩, hl, hr => by
    subst hii
    simp only [fillA] at hl
    split at hl
    · rename_i agg xs
      cases hi : Nat.blt i m with
      | false => rw [hi] at hl; cases hl
      | true =>
        rw [hi] at hl; simp only [cond_true] at hl
        have hi' : i < m := by simpa using hi
        split at hl
        · rename_i y hy
          obtain ⟨b1, hb⟩ := ValR.cells he
          have hry := valAs_rd hy hb
          have := hry.flat hf; subst this
          have hv : v.cells.size = t.size := by simpa using hry.length
          obtain ⟨hcl, hrl⟩ := hr
          have hfit : i * t.size + v.cells.size ≤ cs.size := by
            have : (i + 1) * t.size ≤ m * t.size := Nat.mul_le_mul_right _ hi'
            rw [Nat.succ_mul] at this; simp at hcl; omega
          obtain ⟨bs', q1, q2, _⟩ := RdL.set (x := y) (new := v.cells.toList) (by simpa using hv) (cs' := splice cs.toList (i * t.size) v.cells.toList) hrl (by rw [tlist_length]; exact hi') hry (fun j => by
            rw [splice_get _ _ _ (by simpa using hfit)]; simp [hv])
          have : bs' = [] := by rcases bs' with _ | ⟨b, bs'⟩; rfl; have := q2 b (by simp); simp at this
          subst this
          have hfill : Instr.fill (fun i => some (i * t.size, t.size)) cs ((i, v) :: r) = Instr.fill (fun i => some (i * t.size, t.size)) (splice cs.toList (i * t.size) v.cells.toList).toArray r := by
            simp only [Instr.fill]
            rw [if_neg (by simp [hv]; omega), fill_step cs _ v.cells hfit]
          rw [hfill]
          refine fillA_ok hf hp hl ⟨?_, ?_⟩
          · simp only [List.toList_toArray]; rw [splice_length _ _ _ (by simpa using hfit)]; exact hcl
          · rw [tlist_set]; simpa using q1
        · cases hl
    · cases hl
  | [], _ :: _, _, _, _, h, _, _ => h.elim
  | (_, _) :: _, [], _, _, _, h, _, _ => h.elim

theorem places_of {fs : List Field} : ∀ {ty : Ty} {off : Nat}, TOK P T → FsOK P T fs ty off → fs.mapM (fun f => (P.info? f.type).map fun i => (f.offset, i.size)) = some (placesOf fs P.cellsOf) ∧
    ∀ j u, tyP ty [.fld j] = some u → (placesOf fs P.cellsOf)[j]? = some (off + poff ty [.fld j], u.size) := by
  induction fs with
  | nil =>
    intro ty off _ hf
    refine ⟨rfl, fun j u hu => ?_⟩
    cases ty <;> first | exact hf.elim | (cases j <;> simp [tyP] at hu)
  | cons f fs ih =>
    intro ty off hT hf
    cases ty with
    | pair a b =>
      obtain ⟨h1, h2, h3, h4, h5⟩ := hf
      obtain ⟨i, i1, i2, _⟩ := (hT _ _ h2).info
      obtain ⟨q1, q2⟩ := ih hT h5
      have hc : P.cellsOf f.type = a.size := by simp [Program.cellsOf, i1, i2]
      refine ⟨?_, fun j u hu => ?_⟩
      · simp only [List.mapM_cons, i1, Option.map_some, q1]; simp [placesOf, hc, i2]
      · cases j with
        | zero =>
          have e1 : tyP a [] = some a := by cases a <;> rfl
          have e0 : poff a [] = 0 := by cases a <;> rfl
          simp only [tyP, e1, Option.some.injEq] at hu; subst hu
          simp only [placesOf, List.map_cons, List.getElem?_cons_zero, poff, e0, hc, h1]; rfl
        | succ j =>
          have := q2 j u hu
          simp only [placesOf, List.map_cons, List.getElem?_cons_succ, poff] at this ⊢
          rw [this]; congr 2; omega
    | _ => exact hf.elim

theorem explodeNew_many : ∀ {t : Ty} {tag : Nat} {st : Bool} {v : t.den} {ls : List Leaf}, explodeNew tag st t v = some ls → (valMany t ls).isSome = true := by
  intro t
  induction t with
  | unit => intro tag st v ls h; simp only [explodeNew, Option.some.injEq] at h; subst h; rfl
  | pair a b _ ihb =>
    intro tag st v ls h
    have self : ∀ (a : Ty) (x : a.den), Ty.cast a x = some x := by
      intro a x
      have e : a.eqb a = true := by
        clear x; induction a with
        | int k => exact kEq_self k
        | pair _ _ h1 h2 => simp [Ty.eqb, h1, h2]
        | arr _ _ h => simp [Ty.eqb, h]
        | slice _ _ h => simp [Ty.eqb, h]
        | _ => rfl
      unfold Ty.cast; rw [dif_pos e]
    have fc : ∀ (a' : Ty) (x : a'.den), a' = a → (bif a'.flat then (match explodeNew (tag + 1) st b v.2 with | some r => some (Leaf.fz a' 0 false x :: r) | none => none) else none) = some ls → (valMany (.pair a b) ls).isSome = true := by
      intro a' x ea h
      subst ea
      cases hf : a'.flat with
      | false => rw [hf] at h; cases h
      | true =>
        rw [hf] at h; simp only [cond_true] at h
        split at h
        · rename_i r hr; injection h with h; subst h
          have := ihb hr
          obtain ⟨y, hy⟩ := Option.isSome_iff_exists.1 this
          simp only [valMany, self, hy]; rfl
        · cases h
    cases a with
    | slice e u =>
      simp only [explodeNew] at h
      split at h
      · rename_i r hr; injection h with h; subst h
        obtain ⟨y, hy⟩ := Option.isSome_iff_exists.1 (ihb hr)
        simp only [valMany, hy]
        have : (Ty.cast (.slice e u) (Leaf.rt e u tag false true st v.1).val) = some v.1 := self (.slice e u) v.1
        rw [this]; rfl
      · cases h
    | int k => exact fc _ _ rfl h
    | bool => exact fc _ _ rfl h
    | unit => exact fc _ _ rfl h
    | pair _ _ => exact fc _ _ rfl h
    | arr _ _ => exact fc _ _ rfl h
  | _ => intro tag st v ls h; cases h

theorem ok_build {t : TypeId} {ty : Ty} {ps : Array (Nat × Operand)} {es : List (Nat × Ent)} {e : Ent} (st : St n w0 W g get a w) (hd : n.has d) (clean : ∀ s, (get s).at d = false) (hT : TOK P T)
    (k : TyOK P T t ty) (hroom : tagRoom [ty] = true) (hp : partEs get ps.toList = some es) (hr : buildE d ty es = some e) :
    ∃ g' v w', (Instr.build t (ps.map fun (i, x) => (i, a.eval x))).run P w = .ok v w' ∧ St n w0 W g' (upd get d e) (a.put (some d) v) w' ∧ g'.al = g.al := by
  have pr := partEs_PR (d := d) st.ent clean hp
  generalize hvs : (ps.toList.map fun p => (p.1, a.eval p.2)) = vs at pr
  have hmap : (ps.map fun (i, x) => (i, a.eval x)).toList = vs := by rw [← hvs]; simp
  obtain ⟨it, t1, t2, t3, t4⟩ := k.info
  cases ty with
  | arr m u =>
    obtain ⟨el, hu, hte, hz, _⟩ := k.und
    obtain ⟨i, i1, i2, i3, i4⟩ := (hT _ _ hte).info
    simp only [buildE] at hr
    cases hf : u.flat with
    | false => rw [hf] at hr; cases hr
    | true =>
      rw [hf] at hr; simp only [cond_true] at hr
      split at hr
      · rename_i x hx
        injection hr with hr; subst hr
        obtain ⟨cs', q1, q2⟩ := fillA_ok (cs := (zv (.arr m u)).cells) hf pr hx (by rw [zv_cells]; exact zero_rd w.heap (.arr m u))
        refine ⟨g, .agg cs', w, run_build w t _ cs' ?_, st.putA hd ?_, rfl⟩
        · unfold Program.built; rw [t1, hu]; simp only [t3, i1, i2, hmap]; exact q1
        · have hl : LeafB g w.heap (.fz (.arr m u) 0 false x) cs'.toList [] := ⟨q2, by simp, by simp, by simp⟩
          have := hl.valR
          simp only [Leaf.ty, Ty.agg, cond_true, Array.toArray_toList] at this
          exact this
      · cases hr
  | pair b c =>
    obtain ⟨fs, hu, _, hfs⟩ := k.und
    simp only [buildE] at hr
    split at hr
    · rename_i ls hls
      split at hr
      · rename_i ls' hls'
        injection hr with hr; subst hr
        have hw : tagRoom.width (.pair b c) ≤ 14 := by simpa [tagRoom] using hroom
        -- the regions of the zero value's slices
        have ext := head_ext g w.heap d (fun _ => nilv)
        have hz : LeavesB (g.head d (fun _ => nilv)) w.heap ls (zv (.pair b c)).cells.toList [] := by
          rw [zv_cells]; exact explodeNew_zero hls fun i hi => by simp [Gh.head, tagAt_self (show i < 15 by omega)]
        have pr' : PR (g.head d (fun _ => nilv)) w.heap d vs es := by
          have : ∀ {vs : List (Nat × Value)} {es : List (Nat × Ent)}, PR g w.heap d vs es → (∀ q ∈ es, ∀ agg ls, q.2 = .val agg ls ∨ True) → PR (g.head d (fun _ => nilv)) w.heap d vs es := by
            intro vs
            induction vs with
            | nil => intro es h _; cases es with | nil => trivial | cons _ _ => exact h.elim
            | cons v vs ih =>
              intro es h hh
              obtain ⟨i, v⟩ := v
              cases es with
              | nil => exact h.elim
              | cons e es =>
                obtain ⟨i', e⟩ := e
                obtain ⟨h1, ⟨s, h2⟩, h3, h4⟩ := h
                refine ⟨h1, ?_, h3, ih h4 (fun _ _ _ _ => .inr trivial)⟩
                -- an entry of another slot
                by_cases hs : s = d
                · cases e with
                  | dead => exact ⟨s, trivial⟩
                  | val agg ls => exact ⟨s, ValR.ext ext h2 h3⟩
                  | lit e t pp =>
                    obtain ⟨b, c, bs, r1, r2, r3, r4, r5, r6, r7⟩ := h2
                    exact ⟨s, b, c, bs, r1, r2, r3, r4, r5, r6.ext ext h3, r7⟩
                  | box ro ls =>
                    obtain ⟨b, c, e, fr, bs, r1, r2, r3, r4, r5, r6⟩ := h2
                    exact ⟨s, b, c, e, fr, bs, r1, r2, r3.ext ext h3, r4, r5, r6⟩
                  | ref s' base t p => exact ⟨s, h2⟩
                  | eref l i p =>
                    obtain ⟨bs, b, o, m, cap, r1, r2⟩ := h2
                    exact ⟨s, bs, b, o, m, cap, r1.ext ext h3, r2⟩
                  | fn f caps => exact ⟨s, h2⟩
                  | tup ls => obtain ⟨vs, r1, r2⟩ := h2; exact ⟨s, vs, r1, r2.ext ext h3⟩
                · exact ⟨s, h2.ext ext hs h3⟩
          exact this pr (fun _ _ _ _ => .inr trivial)
        obtain ⟨hplaces, hpl⟩ := places_of hT hfs
        obtain ⟨y, hy⟩ := Option.isSome_iff_exists.1 (explodeNew_many hls)
        obtain ⟨cs', bs', q1, q2⟩ := fillS_ok (place := ((placesOf fs.toList P.cellsOf).toArray[·]?)) pr' hls' (fun i o l hl => by
          obtain ⟨r1, r2⟩ := leafAt_of hy hl
          have := hpl i l.ty r1
          rw [r2, Nat.zero_add] at this
          simpa using this) hz
        refine ⟨g.head d (fun _ => nilv), .agg cs', w, run_build w t _ cs' ?_, st.head hd (fun s _ => clean s) _ ?_, rfl⟩
        · unfold Program.built; rw [t1, hu]; simp only [t3, hplaces, hmap]; exact q1
        · exact ⟨cs'.toList, bs', by simp, fun h => (by cases h), q2⟩
      · cases hr
    · cases hr
  | _ => simp [buildE] at hr

end
end Go.Proofs.YtkoifikjfnbcpaaEv
