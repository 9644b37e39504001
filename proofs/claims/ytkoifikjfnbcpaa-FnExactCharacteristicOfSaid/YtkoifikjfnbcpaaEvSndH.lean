/- Literals of slices and structs. -/
import Derived.Test.YtkoifikjfnbcpaaEvSndG
set_option linter.unusedVariables false
set_option linter.unusedSimpArgs false
namespace Go.Proofs.YtkoifikjfnbcpaaEv
open Go Go.RowKit

section
variable {P : Program} {T : TTab} {n : NS} {w0 w : World} {W : Nat → Prop} {g : Gh} {get : Nat → Ent} {a : Act} {d : Nat}

theorem opE_at {x : Operand} {e : Ent} (clean : ∀ s, (get s).at d = false) (hx : opE get x = some e) : e.at d = false := by
  unfold opE at hx
  split at hx
  · injection hx with hx; rw [← hx]; exact clean _
  · rename_i k m; cases hk : kwf k m with
    | false => rw [hk] at hx; cases hx
    | true => rw [hk] at hx; injection hx with hx; rw [← hx]; simp [intE, Ent.at, Leaf.at, tagAt]
  · injection hx with hx; rw [← hx]; simp [boolE, Ent.at, Leaf.at, tagAt]
  · injection hx with hx; rw [← hx]; rfl
  · cases hx

/-- Parts and their values. -/
def PR (g : Gh) (h : Mem) (d : Nat) : List (Nat × Value) → List (Nat × Ent) → Prop
  | [], [] => True
  | (i, v) :: r, (j, e) :: r' => i = j ∧ (∃ s, EntR g h s e v) ∧ e.at d = false ∧ PR g h d r r'
  | _, _ => False

theorem partEs_PR {ps : List (Nat × Operand)} : ∀ {es : List (Nat × Ent)}, (∀ s, EntR g w.heap s (get s) (a.tmps.getD s undef)) → (∀ s, (get s).at d = false) → partEs get ps = some es →
    PR g w.heap d (ps.map fun p => (p.1, a.eval p.2)) es := by
  induction ps with
  | nil => intro es _ _ h; simp only [partEs, Option.some.injEq] at h; subst h; trivial
  | cons p ps ih =>
    intro es hg clean h
    obtain ⟨i, x⟩ := p
    simp only [partEs] at h
    split at h
    · rename_i e l he hl
      injection h with h; subst h
      obtain ⟨s, h1, _⟩ := opE_sound hg he
      exact ⟨rfl, ⟨s, h1⟩, opE_at clean he, ih hg clean hl⟩
    · cases h

theorem PR.length {h : Mem} : ∀ {vs : List (Nat × Value)} {es : List (Nat × Ent)}, PR g h d vs es → vs.length = es.length
  | [], [], _ => rfl
  | (i, v) :: r, (j, e) :: r', ⟨_, _, _, h⟩ => by simp [PR.length h]
  | [], _ :: _, h => h.elim
  | (_, _) :: _, [], h => h.elim

theorem listOf_idx {h : Mem} {t : Ty} : ∀ {vs : List (Nat × Value)} {es : List (Nat × Ent)} {j : Nat} {l : List t.den}, PR g h d vs es → listOf t j es = some l →
    vs = ((vs.map (·.2)).zipIdx j).map (fun x => (x.2, x.1)) ∧ l.length = vs.length ∧ ∃ bs, RdL (Rd h t) t.size l (vs.flatMap fun v => v.2.cells.toList) bs ∧ (∀ v ∈ vs, v.2.cells.size = t.size)
  | [], [], j, l, _, hl => by simp only [listOf, Option.some.injEq] at hl; subst hl; exact ⟨rfl, rfl, [], rfl, by simp⟩
  | (i, v) :: r, (i', e) :: r', j, l, ⟨hii, ⟨s, he⟩, _, hp⟩, hl => by
    subst hii
    simp only [listOf] at hl
    split at hl
    · rename_i agg xs
      cases hj : Nat.beq i j with
      | false => rw [hj] at hl; cases hl
      | true =>
        rw [hj] at hl; simp only [cond_true] at hl
        have := Nat.eq_of_beq_eq_true hj; subst this
        split at hl
        · rename_i y l' hy hl'
          injection hl with hl; subst hl
          obtain ⟨q1, q2, bs, q3, q4⟩ := listOf_idx hp hl'
          obtain ⟨b1, hb⟩ := ValR.cells he
          have hr := valAs_rd hy hb
          have hlen := hr.length
          refine ⟨by simp only [List.map_cons, List.zipIdx_cons]; rw [← q1], by simp [q2], b1 ++ bs, ⟨b1, bs, ?_, ?_, rfl⟩, ?_⟩
          · simp only [List.flatMap_cons]; rw [List.take_append_of_le_length (by rw [hlen]; exact Nat.le_refl _), List.take_of_length_le (by rw [hlen]; exact Nat.le_refl _)]; exact hr
          · simp only [List.flatMap_cons]; rw [List.drop_append_of_le_length (by rw [hlen]; exact Nat.le_refl _), List.drop_of_length_le (by rw [hlen]; exact Nat.le_refl _), List.nil_append]; exact q3
          · intro u hu; rcases List.mem_cons.1 hu with rfl | hu
            · simpa using hlen
            · exact q4 u hu
        · cases hl
    · cases hl
  | [], _ :: _, _, _, h, _ => h.elim
  | (_, _) :: _, [], _, _, h, _ => h.elim

theorem partsOf_B {h : Mem} {t : Ty} : ∀ {vs : List (Nat × Value)} {es : List (Nat × Ent)} {j : Nat} {pp : List (List Leaf)} {l : List t.den}, PR g h d vs es → listOf t j es = some l → partsOf j es = some pp →
    (∃ bs, PartsB g h t.size pp (vs.flatMap fun v => v.2.cells.toList) bs) ∧ (pp.any fun ls => ls.any (Leaf.at d)) = false ∧ pp.length = vs.length
  | [], [], j, pp, l, _, _, hl => by simp only [partsOf, Option.some.injEq] at hl; subst hl; exact ⟨⟨[], rfl, rfl⟩, rfl, rfl⟩
  | (i, v) :: r, (i', e) :: r', j, pp, l, ⟨hii, ⟨s, he⟩, hd, hp⟩, hl, hq => by
    subst hii
    simp only [partsOf] at hq
    split at hq
    · rename_i agg xs
      simp only [listOf] at hl
      cases hj : Nat.beq i j with
      | false => rw [hj] at hl; cases hl
      | true =>
        rw [hj] at hl hq; simp only [cond_true] at hl hq
        split at hl
        · rename_i y l' hy hl'
          split at hq
          · rename_i pp' hq'
            injection hq with hq; subst hq
            obtain ⟨⟨b2, q1⟩, q2, q3⟩ := partsOf_B hp hl' hq'
            obtain ⟨b1, hb⟩ := ValR.cells he
            have hlen := (valAs_rd hy hb).length
            refine ⟨⟨b1 ++ b2, b1, b2, ?_, ?_, rfl⟩, ?_, by simp [q3]⟩
            · simp only [List.flatMap_cons]; rw [List.take_append_of_le_length (by rw [hlen]; exact Nat.le_refl _), List.take_of_length_le (by rw [hlen]; exact Nat.le_refl _)]; exact hb
            · simp only [List.flatMap_cons]; rw [List.drop_append_of_le_length (by rw [hlen]; exact Nat.le_refl _), List.drop_of_length_le (by rw [hlen]; exact Nat.le_refl _), List.nil_append]; exact q1
            · simp only [List.any_cons, q2, Bool.or_false]; exact hd
          · cases hq
        · cases hl
    · cases hq
  | [], _ :: _, _, _, _, h, _, _ => h.elim
  | (_, _) :: _, [], _, _, _, h, _, _ => h.elim

theorem ok_buildSlice {t : TypeId} {ty : Ty} {len : Nat} {ps : Array (Nat × Operand)} {es : List (Nat × Ent)} {e : Ent} (st : St n w0 W g get a w) (hd : n.has d) (clean : ∀ s, (get s).at d = false) (hT : TOK P T)
    (k : TyOK P T t ty) (hp : partEs get ps.toList = some es) (hr : buildSliceE d ty len es = some e) :
    ∃ g' v w', (Instr.buildSlice t len (ps.map fun (i, x) => (i, a.eval x))).run P w = .ok v w' ∧ St n w0 W g' (upd get d e) (a.put (some d) v) w' ∧ g'.al = g.al := by
  cases ty with
  | slice el u =>
    obtain ⟨hu, hte, hz⟩ := k.und
    obtain ⟨i, i1, i2, i3, i4⟩ := (hT _ _ hte).info
    have pr := partEs_PR (d := d) st.ent clean hp
    simp only [buildSliceE] at hr
    cases hc : (Nat.beq len es.length && Nat.blt (len * u.size) 16777216) with
    | false => rw [hc] at hr; cases hr
    | true =>
      rw [hc] at hr; simp only [cond_true] at hr
      simp only [Bool.and_eq_true] at hc
      have hlen := Nat.eq_of_beq_eq_true hc.1
      have hsm : len * u.size < 16777216 := by simpa using hc.2
      split at hr
      · rename_i l hl
        generalize hvs : (ps.toList.map fun p => (p.1, a.eval p.2)) = vs at pr
        obtain ⟨q1, q2, bs, q3, q4⟩ := listOf_idx pr hl
        have hvl : vs.length = len := by rw [pr.length, hlen]
        have hmap : (ps.map fun (i, x) => (i, a.eval x)).toList = vs := by rw [← hvs]; simp
        -- the code
        have code : (Instr.buildSlice t len (ps.map fun (i, x) => (i, a.eval x))).run P w = .ok (.slice (some ⟨w.heap.size, 0, none⟩) len len) (w.alloc (.cells (vs.flatMap fun v => v.2.cells.toList).toArray el)) := by
          by_cases h0 : len = 0
          · have : vs = [] := List.eq_nil_of_length_eq_zero (by omega)
            subst h0; subst this
            obtain rfl : ps = #[] := by
              have : ps.toList = [] := by simpa using hvs
              exact Array.ext' this
            simp [Instr.buildSlice, run_underlying hu, run_sizeOf w i1, hmap, Instr.fill, newRow, Result.andThen, Array.range_zero']
          · have hz' : (zv u).cells.size = i.size := by rw [zv_cells]; simp [zc_length, i2]
            refine run_buildSlice w t el len _ _ i (zv u) hu i1 i3 (by rw [i2]; omega) (by rw [i2]; exact fun h => by rcases Nat.mul_eq_zero.1 h with h | h <;> omega) ?_
            rw [hmap, q1]
            have := Great.fill_whole (s := i.size) (by rw [i2]; omega) (vs.map (·.2)) ((Array.range (len * i.size)).map ((zv u).cells[· % (zv u).cells.size]!)) (by intro v hv; obtain ⟨p, hp1, rfl⟩ := List.mem_map.1 hv; rw [i2]; exact q4 p hp1) (by simp [hvl])
            rw [this]; congr 2; rw [← q1]; rw [List.flatMap_map]
        have hsz : (vs.flatMap fun v => v.2.cells.toList).length = len * u.size := by
          have : ∀ vs : List (Nat × Value), (∀ v ∈ vs, v.2.cells.size = u.size) → (vs.flatMap fun v => v.2.cells.toList).length = vs.length * u.size := by
            intro vs
            induction vs with
            | nil => intro _; simp
            | cons v vs ih => intro h; simp only [List.flatMap_cons, List.length_append, List.length_cons]; rw [ih (fun x hx => h x (by simp [hx]))]; have := h v (by simp); simp [this, Nat.succ_mul]; omega
          rw [this vs q4, hvl]
        refine ⟨g.new d w.heap.size (.mu (d * 16 + 1)) (d * 16 + 1) (fun _ => .slice (some ⟨w.heap.size, 0, none⟩) len len), .slice (some ⟨w.heap.size, 0, none⟩) len len, _, code, st.alloc hd (fun s _ => clean s) _ (fun q => by cases q) _ _ _ _ ?_, rfl⟩
        have ext := new_ext g w.heap d (.mu (d * 16 + 1)) (d * 16 + 1) (fun _ => .slice (some ⟨w.heap.size, 0, none⟩) len len) (.cells (vs.flatMap fun v => v.2.cells.toList).toArray el)
        cases hf : (u.flat || Nat.beq len 0) with
        | true =>
          rw [hf] at hr; injection hr with hr; subst hr
          have hbs : bs = [] := by
            rcases Bool.or_eq_true_iff.1 hf with h | h
            · exact q3.flat fun x cs b hx => hx.flat h
            · have : l = [] := List.eq_nil_of_length_eq_zero (by rw [q2, hvl]; exact Nat.eq_of_beq_eq_true h)
              rw [this] at q3; exact q3
          subst hbs
          have hl : LeafB (g.new d w.heap.size (.mu (d * 16 + 1)) (d * 16 + 1) (fun _ => .slice (some ⟨w.heap.size, 0, none⟩) len len))
              (w.alloc (.cells (vs.flatMap fun v => v.2.cells.toList).toArray el)).heap (.rt el u (d * 16 + 1) false true (Nat.blt 0 len) l) [.slice (some ⟨w.heap.size, 0, none⟩) len len] [w.heap.size] := by
            refine ⟨_, some w.heap.size, [], rfl, rfl, fun _ => by simp [Gh.new, tagAt_self (d := d) (j := 0) (by omega)], fun hh => ⟨fun h => (by cases h), fun h => ?_⟩, .inr ⟨w.heap.size, 0, len, _, (0, 0), by rw [q2, hvl], rfl, by rw [q2, hvl]; exact Nat.le_refl _, alloc_at _ _, ?_, ?_⟩,
              by simp, fun b hb => ?_, fun _ => ⟨by simp, by simp⟩⟩
            · rw [h] at q2; simp at q2; simp at hh; omega
            · simp [hsz]
            · simp only [List.drop_zero, List.toList_toArray]
              exact q3.mono fun x cs b hm hx => hx.frame fun y hy => by cases hm y hy
            · cases hb; exact ⟨by simp [Gh.new], by simp [Gh.new], _, alloc_at _ _⟩
          exact hl.val1 rfl d
        | false =>
          rw [hf] at hr; simp only [cond_false] at hr
          split at hr
          · rename_i pp hpp
            injection hr with hr; subst hr
            obtain ⟨⟨b2, r1⟩, r2, r3⟩ := partsOf_B pr hl hpp
            simp only [Bool.or_eq_false_iff] at hf
            have hpos : 0 < len := by have := nbeq_ne hf.2; omega
            refine ⟨w.heap.size, (vs.flatMap fun v => v.2.cells.toList).toArray, b2, by rw [r3, hvl], alloc_at _ _, by simp [hsz, r3, hvl], by simp [Gh.new], by simp [Gh.new], ?_, by omega⟩
            exact r1.ext ext r2
          · cases hr
      · cases hr
  | _ => simp [buildSliceE] at hr

end
end Go.Proofs.YtkoifikjfnbcpaaEv
