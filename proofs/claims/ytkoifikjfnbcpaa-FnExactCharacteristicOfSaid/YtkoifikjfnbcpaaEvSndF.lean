/- Operations that make memory. -/
import Derived.Test.YtkoifikjfnbcpaaEvSndE
import Derived.Great.FillDense
import Derived.Great.BuildSlice
import Derived.Laws.AppendOwn
import Derived.Laws.CopyRow
set_option linter.unusedVariables false
set_option linter.unusedSimpArgs false
namespace Go.Proofs.YtkoifikjfnbcpaaEv
open Go Go.RowKit

/-- A block more, of a kind of its own; what the regions of slot d lie at. -/
def Gh.new (g : Gh) (d B : Nat) (k : BK) (tag : Nat) (hd : Nat → Value) : Gh where
  kd b := if b = B then k else g.kd b
  own b := if b = B then tag else g.own b
  H t := if tagAt d t then hd t else g.H t
  bx s := if s = d then B else g.bx s
  al := g.al

theorem new_ext (g : Gh) (h : Mem) (d : Nat) (k : BK) (tag : Nat) (hd : Nat → Value) (o : Obj) : Ext d g h (g.new d h.size k tag hd) (h.push o) where
  size := by simp
  blk b hb := by rw [Array.getElem?_push, if_neg (by omega)]
  kd b hb := if_neg (by omega)
  own b hb := if_neg (by omega)
  H t ht := by simp [Gh.new, ht]
  bx s hs := if_neg hs

theorem new_inv {g : Gh} {h0 h : Mem} {W : Nat → Prop} (i : Inv g h0 h W) (d : Nat) (k : BK) (hk : k ≠ .no) (tag : Nat) (hd : Nat → Value) (oc : Array Value) (oe : TypeId) : Inv (g.new d h.size k tag hd) h0 (h.push (.cells oc oe (0, 0))) W where
  size := by have := i.size; simp; omega
  old b hb hw := by rw [Array.getElem?_push, if_neg (by have := i.size; omega)]; exact i.old b hb hw
  kd b := by
    simp only [Gh.new]
    by_cases e : b = h.size
    · subst e; exact .inr (.inr ⟨by simp, .inl i.size⟩)
    · rw [if_neg e]; rcases i.kd b with q | q | q
      · exact .inl q
      · exact .inr (.inl q)
      · exact .inr (.inr ⟨by simp; omega, q.2⟩)
  no b hb := by
    simp only [Gh.new] at hb
    by_cases e : b = h.size
    · subst e; rw [if_pos rfl] at hb; exact absurd hb hk
    · rw [if_neg e] at hb; exact i.no b hb
  al b hb := by
    simp only [Gh.new] at hb
    by_cases e : b = h.size
    · subst e; exact .inl i.size
    · rw [if_neg e] at hb; exact i.al b hb
  own b hb := by
    simp only [Gh.new] at hb
    by_cases e : b = h.size
    · subst e; exact ⟨by simp, .inl i.size⟩
    · rw [if_neg e] at hb; have := i.own b hb; exact ⟨by simp; omega, this.2⟩
  wr b hb := by
    simp only [Gh.new] at hb
    by_cases e : b = h.size
    · subst e; exact ⟨oc, oe, by simp⟩
    · rw [if_neg e] at hb
      have hlt := (i.own b hb).1
      obtain ⟨c, e', q⟩ := i.wr b hb
      exact ⟨c, e', by rw [Array.getElem?_push, if_neg (by omega)]; exact q⟩

theorem St.alloc {n : NS} {w0 w : World} {W : Nat → Prop} {g : Gh} {env : Nat → Ent} {a : Act} {d : Nat} {e : Ent} {v : Value} (st : St n w0 W g env a w) (hd : n.has d)
    (clean : ∀ s, s ≠ d → (env s).at d = false) (k : BK) (hk : k ≠ .no) (tag : Nat) (hdr : Nat → Value) (oc : Array Value) (oe : TypeId)
    (he : EntR (g.new d w.heap.size k tag hdr) (w.alloc (.cells oc oe)).heap d e v) : St n w0 W (g.new d w.heap.size k tag hdr) (upd env d e) (a.put (some d) v) (w.alloc (.cells oc oe)) :=
  st.put hd (new_ext _ _ _ _ _ _ _) (new_inv st.inv _ _ hk _ _ _ _) rfl rfl rfl clean he

/-- Only the place of the regions of slot d is told anew. -/
def Gh.head (g : Gh) (d : Nat) (hd : Nat → Value) : Gh := { g with H := fun t => if tagAt d t then hd t else g.H t }
theorem head_ext (g : Gh) (h : Mem) (d : Nat) (hd : Nat → Value) : Ext d g h (g.head d hd) h :=
  ⟨Nat.le_refl _, fun _ _ => rfl, fun _ _ => rfl, fun _ _ => rfl, fun t ht => by simp [Gh.head, ht], fun _ _ => rfl⟩
theorem St.head {n : NS} {w0 w : World} {W : Nat → Prop} {g : Gh} {env : Nat → Ent} {a : Act} {d : Nat} {e : Ent} {v : Value} (st : St n w0 W g env a w) (hd : n.has d)
    (clean : ∀ s, s ≠ d → (env s).at d = false) (hdr : Nat → Value) (he : EntR (g.head d hdr) w.heap d e v) : St n w0 W (g.head d hdr) (upd env d e) (a.put (some d) v) w :=
  st.put hd (head_ext _ _ _ _) ⟨st.inv.size, st.inv.old, st.inv.kd, st.inv.no, st.inv.al, st.inv.own, st.inv.wr⟩ rfl rfl rfl clean he

theorem tagAt_self {d j : Nat} (hj : j < 15) : tagAt d (d * 16 + 1 + j) = true := by
  have h1 : (d * 16 + 1 + j) / 16 = d := by omega
  unfold tagAt; rw [h1, nbeq_f (by omega)]; simp

def nilv : Value := .slice none 0 0

/-- Zero values. -/
theorem zc_length : ∀ t : Ty, (zc t).length = t.size := by
  intro t
  induction t with
  | pair a b iha ihb => simp [zc, Ty.size, iha, ihb]
  | arr n t ih =>
    simp only [zc, Ty.size]
    induction n with
    | zero => simp
    | succ n ihn => simp [List.replicate_succ, ih, ihn, Nat.succ_mul]; omega
  | _ => rfl

theorem RdL.replicate {α : Type} {R : α → List Value → List Nat → Prop} {x : α} {cs : List Value} {m : Nat} (hm : cs.length = m) (hx : R x cs []) : ∀ (n : Nat) (rest : List Value),
    RdL R m (List.replicate n x) ((List.replicate n cs).flatten ++ rest) []
  | 0, rest => rfl
  | n + 1, rest => by
    refine ⟨[], [], ?_, ?_, rfl⟩
    · simp only [List.replicate_succ, List.flatten_cons, List.append_assoc]
      rw [List.take_append_of_le_length (by omega), List.take_of_length_le (by omega)]; exact hx
    · simp only [List.replicate_succ, List.flatten_cons, List.append_assoc]
      rw [List.drop_append_of_le_length (by omega), List.drop_of_length_le (by omega)]
      exact RdL.replicate hm hx n rest

theorem zero_rd (h : Mem) : ∀ t : Ty, Rd h t t.dflt (zc t) [] := by
  intro t
  induction t with
  | int k => exact ⟨rfl, by cases k <;> rfl, rfl⟩
  | bool => exact ⟨rfl, rfl⟩
  | unit => exact ⟨rfl, rfl⟩
  | pair a b iha ihb =>
    refine ⟨[], [], ?_, ?_, rfl⟩
    · simp only [zc]; rw [List.take_append_of_le_length (by rw [zc_length]; exact Nat.le_refl _), List.take_of_length_le (by rw [zc_length]; exact Nat.le_refl _)]; exact iha
    · simp only [zc]; rw [List.drop_append_of_le_length (by rw [zc_length]; exact Nat.le_refl _), List.drop_of_length_le (by rw [zc_length]; exact Nat.le_refl _), List.nil_append]; exact ihb
  | arr n t ih =>
    refine ⟨zc_length (.arr n t), ?_⟩
    simp only [Ty.dflt, tlist_tup, zc]
    have := RdL.replicate (zc_length t) ih n []
    simpa using this
  | slice e t ih => exact ⟨.slice none 0 0, none, [], rfl, .inl ⟨rfl, rfl, rfl, rfl⟩, rfl⟩

section
variable {g : Gh}

theorem nil_B {h : Mem} {e : TypeId} {t : Ty} {tag : Nat} (hH : g.H tag = nilv) : LeafB g h (.rt e t tag false true true []) [nilv] [] :=
  ⟨nilv, none, [], rfl, rfl, fun _ => hH.symm, fun _ => ⟨fun _ => rfl, fun _ => rfl⟩, .inl ⟨rfl, rfl, rfl, rfl⟩, by simp, by simp, fun _ => ⟨by simp, by simp⟩⟩

theorem flat_B {h : Mem} {t : Ty} {v : t.den} {cs : List Value} {bs : List Nat} (hf : t.flat = true) (hr : Rd h t v cs bs) : LeafB g h (.fz t 0 false v) cs [] := by
  have := hr.flat hf; subst this
  exact ⟨hr, by simp, by simp, by simp⟩

/-- A new struct's fields read as its zero value. -/
theorem explodeNew_zero {h : Mem} : ∀ {t : Ty} {tag : Nat} {ls : List Leaf}, explodeNew tag true t t.dflt = some ls → (∀ i, i < tagRoom.width t → g.H (tag + i) = nilv) → LeavesB g h ls (zc t) [] := by
  intro t
  induction t with
  | unit => intro tag ls hl _; simp only [explodeNew, Option.some.injEq] at hl; subst hl; exact ⟨rfl, rfl⟩
  | pair a b _ ihb =>
    intro tag ls hl hH
    have hw : tagRoom.width (.pair a b) = 1 + tagRoom.width b := rfl
    have hb : ∀ i, i < tagRoom.width b → g.H (tag + 1 + i) = nilv := fun i hi => by have := hH (i + 1) (by omega); rwa [show tag + 1 + i = tag + (i + 1) by omega]
    have main : ∀ (l : Leaf) (r : List Leaf), l.ty = a → LeafB g h l (zc a) [] → LeavesB g h r (zc b) [] → LeavesB g h (l :: r) (zc (.pair a b)) [] := by
      intro l r e1 e2 e3
      refine ⟨[], [], ?_, ?_, rfl⟩
      · rw [e1]; simp only [zc]; rw [List.take_append_of_le_length (by rw [zc_length]; exact Nat.le_refl _), List.take_of_length_le (by rw [zc_length]; exact Nat.le_refl _)]; exact e2
      · rw [e1]; simp only [zc]; rw [List.drop_append_of_le_length (by rw [zc_length]; exact Nat.le_refl _), List.drop_of_length_le (by rw [zc_length]; exact Nat.le_refl _)]; simpa using e3
    have flatcase : ∀ (a' : Ty), a' = a → (bif a'.flat then (match explodeNew (tag + 1) true b b.dflt with | some r => some (Leaf.fz a' 0 false a'.dflt :: r) | none => none) else none) = some ls → LeavesB g h ls (zc (.pair a b)) [] := by
      intro a' ea hl
      cases hf : a'.flat with
      | false => rw [hf] at hl; cases hl
      | true =>
        rw [hf] at hl; simp only [cond_true] at hl
        split at hl
        · rename_i r hr; injection hl with hl; subst hl; exact main _ r ea (by rw [← ea]; exact flat_B hf (zero_rd h a')) (ihb hr hb)
        · cases hl
    cases a with
    | slice e u =>
      simp only [explodeNew, Ty.dflt] at hl
      split at hl
      · rename_i r hr; injection hl with hl; subst hl
        exact main _ r rfl (nil_B (by simpa using hH 0 (by omega))) (ihb hr hb)
      · cases hl
    | int k => exact flatcase _ rfl hl
    | bool => exact flatcase _ rfl hl
    | unit => exact flatcase _ rfl hl
    | pair _ _ => exact flatcase _ rfl hl
    | arr _ _ => exact flatcase _ rfl hl
  | int k => intro tag ls hl; cases hl
  | bool => intro tag ls hl; cases hl
  | arr n t _ => intro tag ls hl; cases hl
  | slice e t _ => intro tag ls hl; cases hl

theorem newLeaves_zero {h : Mem} {t : Ty} {tag : Nat} {ls : List Leaf} (hl : newLeaves tag true t t.dflt = some ls) (hH : ∀ i, i < tagRoom.width t → g.H (tag + i) = nilv) : LeavesB g h ls (zc t) [] := by
  have one : ∀ l : Leaf, l.ty = t → LeafB g h l (zc t) [] → LeavesB g h [l] (zc t) [] := fun l e hl =>
    ⟨[], [], by rw [e, List.take_of_length_le (by rw [zc_length]; exact Nat.le_refl _)]; exact hl, ⟨by rw [e, List.drop_eq_nil_iff, zc_length]; exact Nat.le_refl _, rfl⟩, rfl⟩
  have flatcase : (bif t.flat then some [Leaf.fz t 0 false t.dflt] else none) = some ls → LeavesB g h ls (zc t) [] := by
    intro hl
    cases hf : t.flat with
    | false => rw [hf] at hl; cases hl
    | true => rw [hf] at hl; injection hl with hl; subst hl; exact one _ rfl (flat_B hf (zero_rd h t))
  cases t with
  | slice e u => simp only [newLeaves, Option.some.injEq] at hl; subst hl; exact one _ rfl (nil_B (by simpa using hH 0 (by simp [tagRoom.width])))
  | pair a b => exact explodeNew_zero hl hH
  | unit => exact explodeNew_zero hl hH
  | int k => exact flatcase hl
  | bool => exact flatcase hl
  | arr _ _ => exact flatcase hl

/-- A variable's parts, out of a value's. -/
theorem explode_B {h : Mem} {reg : Nat} {lin : Bool} : ∀ {t : Ty} {v : t.den} {cs : List Value} {bs : List Nat}, t.isStruct = true → Rd h t v cs bs → (∀ b ∈ bs, g.kd b = .fz) → (reg ≠ 0 → ∀ b ∈ bs, g.own b = reg) → (lin = true → bs.Nodup) →
    (valMany t (explode reg lin t v)).isSome = true → LeavesB g h (explode reg lin t v) cs bs := by
  intro t
  induction t with
  | unit => intro v cs bs _ hr _ _ _ _; exact hr
  | pair a b _ ihb =>
    intro v cs bs _ hr h1 h2 h3 hm
    obtain ⟨b1, b2, r1, r2, rfl⟩ := hr
    simp only [explode, valMany] at hm ⊢
    refine ⟨b1, b2, ⟨r1, fun y hy => h1 y (List.mem_append_left _ hy), fun q y hy => h2 q y (List.mem_append_left _ hy), fun q => (List.nodup_append.1 (h3 q)).1⟩, ?_, rfl⟩
    have hm' : (valMany b (explode reg lin b v.2)).isSome = true := by
      split at hm
      · rename_i x y e1 e2; rw [e2]; rfl
      · cases hm
    have hs : b.isStruct = true := by
      cases b with
      | unit => rfl
      | pair _ _ => rfl
      | _ => simp [explode, valMany] at hm'
    exact ihb hs r2 (fun y hy => h1 y (List.mem_append_right _ hy)) (fun q y hy => h2 q y (List.mem_append_right _ hy)) (fun q => (List.nodup_append.1 (h3 q)).2.1) hm'
  | int k => intro v cs bs hs; cases hs
  | bool => intro v cs bs hs; cases hs
  | arr n t _ => intro v cs bs hs; cases hs
  | slice e t _ => intro v cs bs hs; cases hs

theorem LeavesB.one {h : Mem} {l : Leaf} {cs : List Value} {bs : List Nat} (hl : LeavesB g h [l] cs bs) : LeafB g h l cs bs := by
  obtain ⟨b1, b2, h1, ⟨h2, rfl⟩, h3⟩ := hl
  rw [List.append_nil] at h3; subst h3
  rwa [List.take_of_length_le (List.drop_eq_nil_iff.1 h2)] at h1
theorem LeafB.many {h : Mem} {l : Leaf} {cs : List Value} {bs : List Nat} (hl : LeafB g h l cs bs) : LeavesB g h [l] cs bs :=
  ⟨bs, [], by rw [List.take_of_length_le (by rw [hl.rd.length]; exact Nat.le_refl _)]; exact hl, ⟨by rw [List.drop_eq_nil_iff, hl.rd.length]; exact Nat.le_refl _, rfl⟩, by simp⟩

theorem boxLeaves_B {h : Mem} {t : Ty} {ls ls' : List Leaf} {cs : List Value} {bs : List Nat} (hb : boxLeaves t ls = some ls') (hl : LeavesB g h ls cs bs) : LeavesB g h ls' cs bs ∧ cs.length = t.size := by
  have many : ∀ {a b : Ty} {ls ls' : List Leaf}, (bif (valMany (.pair a b) ls).isSome then some ls else none) = some ls' → LeavesB g h ls cs bs → LeavesB g h ls' cs bs ∧ cs.length = (Ty.pair a b).size := by
    intro a b ls ls' hb hl
    cases hv : (valMany (.pair a b) ls).isSome with
    | false => rw [hv] at hb; cases hb
    | true =>
      rw [hv] at hb; injection hb with hb; subst hb
      obtain ⟨y, hy⟩ := Option.isSome_iff_exists.1 hv
      exact ⟨hl, by rw [hl.length, valMany_size hy]⟩
  have single : ∀ {t : Ty} {l : Leaf} {ls' : List Leaf}, (bif l.ty.eqb t then some [l] else none) = some ls' → LeavesB g h [l] cs bs → LeavesB g h ls' cs bs ∧ cs.length = t.size := by
    intro t l ls' hb hl
    cases hv : l.ty.eqb t with
    | false => rw [hv] at hb; cases hb
    | true => rw [hv] at hb; injection hb with hb; subst hb; exact ⟨hl, by rw [hl.length, ← eqb_eq hv]; simp [sizes]⟩
  cases t with
  | pair a b =>
    match ls, hb, hl with
    | [.fz t' reg lin v], hb, hl =>
      simp only [boxLeaves] at hb
      split at hb
      · rename_i y hy
        cases hv : (valMany (.pair a b) (explode reg lin (.pair a b) y)).isSome with
        | false => rw [hv] at hb; cases hb
        | true =>
          rw [hv] at hb; injection hb with hb; subst hb
          obtain ⟨h1, h2, h3, h4⟩ := hl.one
          have hr := cast_rd hy h1
          exact ⟨explode_B rfl hr h2 h3 h4 hv, hr.length⟩
      · exact many hb hl
    | [], hb, hl => simp only [boxLeaves] at hb; exact many hb hl
    | [.rt _ _ _ _ _ _ _], hb, hl => exact many hb hl
    | _ :: _ :: _, hb, hl => simp only [boxLeaves] at hb; exact many hb hl
  | unit =>
    match ls, hb, hl with
    | [], hb, hl => simp only [boxLeaves, Option.some.injEq] at hb; subst hb; exact ⟨hl, by rw [hl.1]; rfl⟩
    | _ :: _, hb, _ => simp [boxLeaves] at hb
  | int k =>
    match ls, hb, hl with
    | [l], hb, hl => exact single hb hl
    | [], hb, _ => cases hb
    | _ :: _ :: _, hb, _ => cases hb
  | bool =>
    match ls, hb, hl with
    | [l], hb, hl => exact single hb hl
    | [], hb, _ => cases hb
    | _ :: _ :: _, hb, _ => cases hb
  | arr n u =>
    match ls, hb, hl with
    | [l], hb, hl => exact single hb hl
    | [], hb, _ => cases hb
    | _ :: _ :: _, hb, _ => cases hb
  | slice e u =>
    match ls, hb, hl with
    | [l], hb, hl => exact single hb hl
    | [], hb, _ => cases hb
    | _ :: _ :: _, hb, _ => cases hb

end
end Go.Proofs.YtkoifikjfnbcpaaEv
