/- Operations that make memory: at the state. -/
import Derived.Test.YtkoifikjfnbcpaaEvSndF
import Derived.Laws.MakeOwn
set_option linter.unusedVariables false
set_option linter.unusedSimpArgs false
namespace Go.Proofs.YtkoifikjfnbcpaaEv
open Go Go.RowKit

theorem St.putA {n : NS} {w0 w : World} {W : Nat → Prop} {g : Gh} {env : Nat → Ent} {a : Act} {d : Nat} {e : Ent} {v : Value} (st : St n w0 W g env a w) (hd : n.has d)
    (he : EntR g w.heap d e v) : St n w0 W g (upd env d e) (a.put (some d) v) w where
  inv := st.inv
  ent s := by
    rw [put_getD (by rw [st.sz.1]; exact hd.1)]
    unfold upd
    split
    · rename_i h; rw [h]; exact he
    · exact st.ent s
  sz := st.szPut hd
  df := by simp [Act.put, st.df]
  os := st.os
  tape := st.tape
  output := st.output

theorem ValR.cells {g : Gh} {h : Mem} {agg : Bool} {ls : List Leaf} {v : Value} (hv : ValR g h agg ls v) : ∃ bs, LeavesB g h ls v.cells.toList bs := by
  obtain ⟨cs, bs, h1, h2, h3⟩ := hv
  refine ⟨bs, ?_⟩
  cases agg with
  | true => simp only [cond_true] at h1; subst h1; exact h3
  | false =>
    obtain ⟨hl, hc⟩ := h2 rfl
    match cs, hl with
    | [c], _ => simp at h1; subst h1; rw [hc]; exact h3

theorem zv_cells (t : Ty) : (zv t).cells = (zc t).toArray := by
  unfold zv; cases t <;> rfl

theorem run_newRow {P : Program} (w : World) (e : TypeId) (cells : Array Value) : (newRow e cells).run P w = .ok ⟨w.heap.size, 0, none⟩ (w.alloc (.cells cells e)) := rfl
theorem alloc_at (w : World) (o : Obj) : (w.alloc o).heap[w.heap.size]? = some o := by
  show (w.heap.push o)[w.heap.size]? = some o
  simp
theorem run_zeroValue {P : Program} {T : TTab} {t : TypeId} {ty : Ty} (k : TyOK P T t ty) (w : World) : (zeroValue t).run P w = .ok (zv ty) w := by
  obtain ⟨i, h1, h2, h3, h4⟩ := k.info
  unfold zeroValue
  simp only [Sem.run_bind, run_typeInfo w h1, Result.andThen_ok, h3, Sem.run_pure]

section
variable {P : Program} {T : TTab} {n : NS} {w0 w : World} {W : Nat → Prop} {g : Gh} {get : Nat → Ent} {a : Act} {d : Nat}

theorem ok_alloc {t : TypeId} {ty : Ty} {ls : List Leaf} (st : St n w0 W g get a w) (hd : n.has d) (clean : ∀ s, (get s).at d = false) (k : TyOK P T t ty) (hr : tagRoom [ty] = true)
    (hl : newLeaves (d * 16 + 1) true ty ty.dflt = some ls) :
    ∃ g' v w', (Instr.alloc t true (.tuple #[])).run P w = .ok v w' ∧ St n w0 W g' (upd get d (.box false ls)) (a.put (some d) v) w' ∧ g'.al = g.al := by
  have hw : tagRoom.width ty ≤ 14 := by simpa [tagRoom] using hr
  refine ⟨g.new d w.heap.size (.bx d) 0 (fun _ => nilv), .pointer (some ⟨w.heap.size, 0, none⟩), w.alloc (.cells (zc ty).toArray t), ?_, st.alloc hd (fun s _ => clean s) _ (fun q => by cases q) _ _ _ _ ?_, rfl⟩
  · simp only [Instr.alloc, Sem.run_bind, run_zeroValue k, Result.andThen_ok, newVar, zv_cells, run_newRow, Sem.run_pure]
  · refine ⟨w.heap.size, (zc ty).toArray, t, (0, 0), [], rfl, alloc_at _ _, ?_, by simp [Gh.new], fun _ => ⟨by simp [Gh.new], rfl⟩, fun h => by cases h⟩
    simp only [List.toList_toArray]
    exact newLeaves_zero hl fun i hi => by simp [Gh.new, tagAt_self (show i < 15 by omega)]

theorem box_at {t : Ty} {ls ls' : List Leaf} (hb : boxLeaves t ls = some ls') (hc : ls.any (Leaf.at d) = false) : ls'.any (Leaf.at d) = false := by
  have ex : ∀ (reg : Nat) (lin : Bool) (t : Ty) (v : t.den), tagAt d reg = false → (explode reg lin t v).any (Leaf.at d) = false := by
    intro reg lin t
    induction t with
    | pair a b _ ih => intro v h; simp only [explode, List.any_cons, Leaf.at, h, ih v.2 h]; rfl
    | _ => intro v h; rfl
  unfold boxLeaves at hb
  split at hb
  · split at hb
    · rename_i y hy
      cases hv : (valMany _ (explode _ _ _ y)).isSome with
      | false => rw [hv] at hb; cases hb
      | true =>
        rw [hv] at hb; injection hb with hb; subst hb
        exact ex _ _ _ _ (by simpa [Leaf.at] using hc)
    · cases hv : (valMany (Ty.pair _ _) [Leaf.fz _ _ _ _]).isSome with
      | false => rw [hv] at hb; cases hb
      | true => rw [hv] at hb; injection hb with hb; subst hb; exact hc
  · cases hv : (valMany (Ty.pair _ _) ls).isSome with
    | false => rw [hv] at hb; cases hb
    | true => rw [hv] at hb; injection hb with hb; subst hb; exact hc
  · injection hb with hb; subst hb; rfl
  · cases hb
  · rename_i l _ _ _
    cases hv : l.ty.eqb t with
    | false => rw [hv] at hb; cases hb
    | true => rw [hv] at hb; injection hb with hb; subst hb; exact hc
  · cases hb

theorem ok_box {t : TypeId} {ty : Ty} {x : Operand} {agg : Bool} {ls ls' : List Leaf} (st : St n w0 W g get a w) (hd : n.has d) (clean : ∀ s, (get s).at d = false) (hx : opE get x = some (.val agg ls))
    (hl : boxLeaves ty ls = some ls') :
    ∃ g' v w', (Instr.box t (a.eval x)).run P w = .ok v w' ∧ St n w0 W g' (upd get d (.box false ls')) (a.put (some d) v) w' ∧ g'.al = g.al := by
  obtain ⟨s0, he, hs0⟩ := opE_sound st.ent hx
  have hc : (Ent.val agg ls).at d = false := by
    unfold opE at hx
    split at hx
    · injection hx with hx; rw [← hx]; exact clean _
    · rename_i k m; cases hk : kwf k m with
      | false => rw [hk] at hx; cases hx
      | true => rw [hk] at hx; injection hx with hx; rw [← hx]; simp [intE, Ent.at, Leaf.at, tagAt]
    · injection hx with hx; rw [← hx]; simp [boolE, Ent.at, Leaf.at, tagAt]
    · cases hx
    · cases hx
  obtain ⟨bs, hb⟩ := ValR.cells he
  obtain ⟨q1, q2⟩ := boxLeaves_B hl hb
  refine ⟨g.new d w.heap.size (.bx d) 0 (fun _ => nilv), .pointer (some ⟨w.heap.size, 0, none⟩), w.alloc (.cells (a.eval x).cells t), ?_, st.alloc hd (fun s _ => clean s) _ (fun q => by cases q) _ _ _ _ ?_, rfl⟩
  · simp only [Instr.box, Sem.run_bind, newVar, run_newRow, Result.andThen_ok, Sem.run_pure]
  · exact ⟨w.heap.size, (a.eval x).cells, t, (0, 0), bs, rfl, alloc_at _ _, q1.ext (new_ext _ _ _ _ _ _ _) (box_at hl hc), by simp [Gh.new], fun _ => ⟨by simp [Gh.new], rfl⟩, fun h => by cases h⟩

theorem ok_nil {t : TypeId} {e : TypeId} {u : Ty} (st : St n w0 W g get a w) (hd : n.has d) (clean : ∀ s, (get s).at d = false) :
    St n w0 W (g.head d (fun _ => nilv)) (upd get d (.val false [.rt e u (d * 16 + 1) false true true []])) (a.put (some d) (.slice none 0 0)) w := by
  refine st.head hd (fun s _ => clean s) _ ?_
  have : (g.head d (fun _ => nilv)).H (d * 16 + 1) = nilv := by simp [Gh.head, tagAt_self (d := d) (j := 0) (by omega)]
  exact (nil_B this).val1 rfl d

theorem range_mod {α : Type} [Inhabited α] (z : Array α) (m : Nat) (hz : z.size ≠ 0) : ((Array.range (m * z.size)).map (z[· % z.size]!)).toList = (List.replicate m z.toList).flatten := by
  induction m with
  | zero => simp
  | succ m ih =>
    have e1 : (List.replicate (m + 1) z.toList).flatten = (List.replicate m z.toList).flatten ++ z.toList := by
      rw [show m + 1 = m + 1 from rfl, List.replicate_succ']; simp
    rw [e1, ← ih]
    apply List.ext_getElem?
    intro j
    simp only [Array.toList_map, Array.toList_range, List.getElem?_map]
    have hl : (List.map (fun x => z[x % z.size]!) (List.range (m * z.size))).length = m * z.size := by simp
    by_cases hj : j < m * z.size
    · rw [List.getElem?_append_left (by rw [hl]; exact hj), List.getElem?_map, List.getElem?_range hj, List.getElem?_range (by rw [Nat.succ_mul]; omega)]
    · rw [List.getElem?_append_right (by rw [hl]; omega), hl]
      by_cases hj2 : j < (m + 1) * z.size
      · rw [List.getElem?_range hj2]
        rw [Nat.succ_mul] at hj2
        have : j % z.size = j - m * z.size := by
          have hlt : j - m * z.size < z.size := by omega
          have e : j = (j - m * z.size) + m * z.size := by omega
          calc j % z.size = ((j - m * z.size) + m * z.size) % z.size := by rw [← e]
            _ = j - m * z.size := by rw [Nat.add_mul_mod_self_right, Nat.mod_eq_of_lt hlt]
        rw [Option.map_some, this]
        rw [getElem!_pos z (j - m * z.size) (by omega)]
        simp
      · rw [List.getElem?_eq_none (by simp; omega)]
        rw [Nat.succ_mul] at hj2
        simp; omega

theorem ok_makeSlice {t e : TypeId} {u : Ty} {m : Int} {kl kc : IntKind} (st : St n w0 W g get a w) (hd : n.has d) (clean : ∀ s, (get s).at d = false) (hT : TOK P T) (k : TyOK P T t (.slice e u))
    (h0 : 0 ≤ m) (h1 : m ≤ 1099511627776) :
    ∃ g' v w', (Instr.makeSlice t (.int kl m) (.int kc m)).run P w = .ok v w' ∧ St n w0 W g' (upd get d (.val false [.rt e u (d * 16 + 1) false true false (List.replicate m.toNat u.dflt)])) (a.put (some d) v) w' ∧ g'.al = g.al := by
  obtain ⟨hu, hte, hz⟩ := k.und
  obtain ⟨i, i1, i2, i3, i4⟩ := (hT _ _ hte).info
  have hb : (i.bytes : Int) * m ≤ 281474976710656 := by
    have : (i.bytes : Int) * m ≤ 64 * 1099511627776 := Int.mul_le_mul (by omega) h1 h0 (by omega)
    omega
  have hcells : madeCells (zv u).cells (m.toNat * i.size) = (List.replicate m.toNat (zc u)).flatten.toArray := by
    apply Array.ext'
    have hs : (zv u).cells.size = i.size := by rw [zv_cells]; simp [zc_length, i2]
    have := range_mod (zv u).cells m.toNat (by rw [hs, i2]; exact hz)
    rw [hs] at this
    unfold madeCells; rw [hs, this, zv_cells]
  refine ⟨g.new d w.heap.size (.mu (d * 16 + 1)) (d * 16 + 1) (fun _ => .slice (some ⟨w.heap.size, 0, none⟩) m.toNat m.toNat), .slice (some ⟨w.heap.size, 0, none⟩) m.toNat m.toNat,
    w.alloc (.cells (List.replicate m.toNat (zc u)).flatten.toArray e), ?_, st.alloc hd (fun s _ => clean s) _ (fun q => by cases q) _ _ _ _ ?_, rfl⟩
  · rw [run_make w t e i (zv u) hu i1 i3 kl kc m m h0 (Int.le_refl _) hb (by omega), hcells]
  · have hl : LeafB (g.new d w.heap.size (.mu (d * 16 + 1)) (d * 16 + 1) (fun _ => .slice (some ⟨w.heap.size, 0, none⟩) m.toNat m.toNat))
        (w.alloc (.cells (List.replicate m.toNat (zc u)).flatten.toArray e)).heap (.rt e u (d * 16 + 1) false true false (List.replicate m.toNat u.dflt)) [.slice (some ⟨w.heap.size, 0, none⟩) m.toNat m.toNat] [w.heap.size] := by
      refine ⟨_, some w.heap.size, [], rfl, rfl, fun _ => by simp [Gh.new, tagAt_self (d := d) (j := 0) (by omega)], fun hh => (by cases hh), .inr ⟨w.heap.size, 0, m.toNat, _, (0, 0), by simp, rfl, by simp, alloc_at _ _, ?_, ?_⟩,
        by simp, fun b hb => ?_, fun _ => ⟨by simp, by simp⟩⟩
      · have : (List.replicate m.toNat (zc u)).flatten.length = m.toNat * u.size := zc_length (.arr m.toNat u)
        simp [this]
      · have := RdL.replicate (R := Rd (w.alloc (.cells (List.replicate m.toNat (zc u)).flatten.toArray e)).heap u) (zc_length u) (zero_rd _ u) m.toNat []
        simpa using this
      · cases hb; exact ⟨by simp [Gh.new], by simp [Gh.new], _, alloc_at _ _⟩
    exact hl.val1 rfl d

end
end Go.Proofs.YtkoifikjfnbcpaaEv
