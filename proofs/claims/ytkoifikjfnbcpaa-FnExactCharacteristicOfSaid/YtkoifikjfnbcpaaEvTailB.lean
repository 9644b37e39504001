/- Appending: the code. -/
import Derived.Test.YtkoifikjfnbcpaaEvTailA
import Derived.Laws.Append
set_option linter.unusedVariables false
set_option linter.unusedSimpArgs false
namespace Go.Proofs.YtkoifikjfnbcpaaEv
open Go Go.RowKit

section
variable {P : Program} {T : TTab} {w : World} {g : Gh}

/-- The cells of a slice. -/
theorem first_of {h : Mem} {e : TypeId} {u : Ty} {l : List u.den} {hd : Value} {blk : Option Nat} {bs : List Nat} (hs : SlR h e u.size (Rd h u) l hd blk bs) :
    ∃ news : List Value, (∀ w : World, w.heap = h → (Builtin.lenOf hd).run P w = .ok l.length w ∧ (Builtin.firstCells u.size l.length hd).run P w = .ok news.toArray w) ∧ news.length = l.length * u.size ∧ RdL (Rd h u) u.size l news bs := by
  rcases hs with ⟨rfl, rfl, rfl, rfl⟩ | ⟨b, o, cap, c, fr, rfl, e2, e3, e4, e5, e6⟩
  · exact ⟨[], fun w _ => ⟨rfl, rfl⟩, by simp, rfl⟩
  · have hb : o + l.length * u.size ≤ c.size := by
      have : l.length * u.size ≤ cap * u.size := Nat.mul_le_mul_right _ e3
      omega
    have hlen : ((c.toList.drop o).take (l.length * u.size)).length = l.length * u.size := by simp; omega
    refine ⟨(c.toList.drop o).take (l.length * u.size), fun w hw => ⟨rfl, ?_⟩, hlen, e6.take fun j hj => by rw [List.getElem?_take_of_lt hj]⟩
    subst hw
    have hc : ∀ j v, ((c.toList.drop o).take (l.length * u.size))[j]? = some v → w.cell? ((⟨b, o, none⟩ : Addr).add j) = some v := by
      intro j v hj
      have hlt : j < l.length * u.size := by
        rcases Nat.lt_or_ge j (l.length * u.size) with h | h
        · exact h
        · rw [List.getElem?_eq_none (by omega)] at hj; cases hj
      rw [List.getElem?_take_of_lt hlt, List.getElem?_drop] at hj
      rw [addr_add, cell_of e4]; simpa using hj
    have := run_loadCells_list (P := P) w ⟨b, o, none⟩ _ hc
    rw [hlen] at this
    simp only [Builtin.firstCells]
    exact this

theorem app_pre {t ty el : TypeId} {u : Ty} (k : TyOK P T t (.slice el u)) (hT : TOK P T) : ∃ i, P.underlying t = some (.slice el) ∧ P.info? el = some i ∧ i.size = u.size ∧ i.zero = some (zv u) ∧ i.bytes ≤ 64 ∧ u.size ≠ 0 := by
  obtain ⟨hu, hte, hz⟩ := k.und
  obtain ⟨i, i1, i2, i3, i4⟩ := (hT _ _ hte).info
  exact ⟨i, hu, i1, i2, i3, i4, hz⟩

theorem run_append_fit {t ty el : TypeId} {u : Ty} (k : TyOK P T t (.slice el u)) (hT : TOK P T) {n m cap : Nat} {x : Value} {news : List Value} (hx : (Builtin.lenOf x).run P w = .ok m w)
    (hf : (Builtin.firstCells u.size m x).run P w = .ok news.toArray w) (hfit : n + m ≤ cap) {base : Option Addr} {w' : World}
    (hst : (match base with | some a => storeCells (a.add (n * u.size)) news | none => pure () : Sem Unit).run P w = .ok () w') :
    (Builtin.append_ #[t, t] ty #[.slice base n cap, x]).run P w = .ok (.slice base (n + m) cap) w' := by
  obtain ⟨i, hu, i1, i2, i3, i4, hz⟩ := app_pre (ty := ty) k hT
  unfold Builtin.append_
  simp only [List.getElem?_toArray, List.getElem?_cons_zero, List.getElem?_cons_succ, Sem.run_bind, run_underlying hu, Result.andThen_ok, run_sizeOf w i1, Sem.run_pure, hx]
  have hc : P.cellsOf el = u.size := by simp [Program.cellsOf, i1, i2]
  simp only [Bool.false_eq_true, if_false, hx, Result.andThen_ok, Sem.run_bind, hfit, if_true, hc, Bool.not_false, hf]
  cases base with
  | none => simp only [Sem.run_pure] at hst ⊢; injection hst with _ hst; subst hst; simp only [hf, Result.andThen_ok]
  | some a => simp only at hst ⊢; simp only [Sem.run_bind, hf, Result.andThen_ok, List.toList_toArray, hst, Sem.run_pure]

theorem run_append_grow {t ty el : TypeId} {u : Ty} (k : TyOK P T t (.slice el u)) (hT : TOK P T) {n m cap : Nat} {x : Value} {news old : List Value} (hx : (Builtin.lenOf x).run P w = .ok m w)
    (hf : ∀ w' : World, w'.heap = w.heap → (Builtin.firstCells u.size m x).run P w' = .ok news.toArray w') (hgr : ¬ n + m ≤ cap) {base : Option Addr} (ho : ∀ w' : World, w'.heap = w.heap → (Builtin.firstCells u.size n (.slice base n cap)).run P w' = .ok old.toArray w')
    (hb : n + m ≤ 1099511627776) :
    ∃ cap' rest w', (Builtin.append_ #[t, t] ty #[.slice base n cap, x]).run P w = .ok (.slice (some ⟨w.heap.size, 0, none⟩) (n + m) cap') w' ∧ w'.heap = w.heap.push (.cells (old ++ news ++ rest).toArray el) ∧
      w'.os = w.os ∧ w'.tape = w.tape ∧ w'.output = w.output ∧ n + m ≤ cap' ∧ rest.length = (cap' - (n + m)) * u.size := by
  obtain ⟨i, hu, i1, i2, i3, i4, hz⟩ := app_pre (ty := ty) k hT
  have hc : P.cellsOf el = u.size := by simp [Program.cellsOf, i1, i2]
  have hbytes : (n + m) * i.bytes ≤ 140737488355328 := by
    have : (n + m) * i.bytes ≤ 1099511627776 * 64 := Nat.mul_le_mul hb i4
    omega
  have hgs := growslice_fits (need := n + m) (old := cap) (bytes := i.bytes) (by omega) hbytes
  let w1 : World := w.drew
  let cap' := (Question.appendCap (n + m) cap el).cut (w.tape w.drawn (.appendCap (n + m) cap el))
  have hcap : n + m ≤ cap' := by show n + m ≤ (n + m) + _; omega
  refine ⟨cap', (Builtin.zeroCells (zv u).cells (cap' - (n + m))).toList, w1.alloc (.cells (old ++ news ++ (Builtin.zeroCells (zv u).cells (cap' - (n + m))).toList).toArray el), ?_, rfl, rfl, rfl, rfl, hcap, ?_⟩
  · unfold Builtin.append_
    simp only [List.getElem?_toArray, List.getElem?_cons_zero, List.getElem?_cons_succ, Sem.run_bind, run_underlying hu, Result.andThen_ok, run_sizeOf w i1, Sem.run_pure, hx]
    simp only [Bool.false_eq_true, if_false, hx, Result.andThen_ok, Sem.run_bind, hgr, hc]
    have h63 : ¬ (((n + m : Nat) : Int) > IntKind.i64.max ∧ (False ∨ i.bytes = 0)) := by
      intro q
      have : IntKind.i64.max = 9223372036854775807 := by decide
      rw [this] at q; omega
    have h48 : ¬ (Builtin.nextslicecap (n + m) cap * i.bytes > 2 ^ 48) := by omega
    simp only [run_typeInfo w i1, Result.andThen_ok]
    rw [if_neg (by simpa using h63)]
    simp only [Sem.run_pure, Result.andThen_ok, Sem.run_bind, run_typeInfo w i1]
    rw [if_neg h48]
    simp only [Sem.run_pure, Result.andThen_ok, Sem.run_bind, run_typeInfo w i1]
    have hch : (choose (.appendCap (n + m) cap el)).run P w = .ok cap' w1 := by simp only [choose, Sem.run, Question.forced]; rfl
    have hask : ∀ w' : World, (askRoom (cap' * i.bytes)).run P w' = .ok () w' := by intro w'; unfold askRoom; split <;> rfl
    have hzv : (zeroValue el).run P w1 = .ok (zv u) w1 := by simp only [zeroValue, Sem.run_bind, run_typeInfo w1 i1, Result.andThen_ok, i3, Sem.run_pure]
    simp only [hch, Result.andThen_ok, Sem.run_bind, run_typeInfo w1 i1, hask, ho w1 rfl, Bool.not_false, if_true, hf w1 rfl, hzv, run_newRow, Sem.run_pure]
    have e : old.toArray ++ news.toArray ++ Builtin.zeroCells (zv u).cells (cap' - (n + m)) = (old ++ news ++ (Builtin.zeroCells (zv u).cells (cap' - (n + m))).toList).toArray := by simp
    rw [e]; rfl
  · simp [Builtin.zeroCells, zv_cells, zc_length]

theorem zeroCells_list {u : Ty} (hz : u.size ≠ 0) (m : Nat) : (Builtin.zeroCells (zv u).cells m).toList = (List.replicate m (zc u)).flatten := by
  have h : (zv u).cells.size ≠ 0 := by rw [zv_cells]; simp [zc_length, hz]
  have := range_mod (zv u).cells m h
  rw [show (zv u).cells.toList = zc u by rw [zv_cells]] at this
  exact this

theorem wrap_small {n : Int} (h0 : 0 ≤ n) (h : n ≤ 1099511627776) : IntKind.i64.wrap n = n := by
  have e : n % (2 ^ 64 : Int) = n := Int.emod_eq_of_lt h0 (by omega)
  simp only [IntKind.wrap, IntKind.bits, e]
  rw [if_neg]
  simp [IntKind.signed]; omega

/-- What an append of made elements adds. -/
theorem run_made {el : TypeId} {u : Ty} {i : TypeInfo} (i1 : P.info? el = some i) (i3 : i.zero = some (zv u)) (hz : u.size ≠ 0) (m : Nat) (w : World) :
    (if m * u.size = 0 then (pure #[] : Sem (Array Value)) else do pure (Builtin.zeroCells (← zeroValue el).cells m)).run P w = .ok ((List.replicate m (zc u)).flatten).toArray w := by
  have e : Builtin.zeroCells (zv u).cells m = ((List.replicate m (zc u)).flatten).toArray := by
    apply Array.ext'; rw [zeroCells_list hz]
  by_cases hm : m * u.size = 0
  · rw [if_pos hm]
    have : m = 0 := by
      rcases Nat.mul_eq_zero.1 hm with q | q
      · exact q
      · exact absurd q hz
    subst this; rfl
  · rw [if_neg hm]
    simp only [Sem.run_bind, zeroValue, run_typeInfo w i1, Result.andThen_ok, i3, Sem.run_pure, e]

theorem run_appendM_fit {t ty el ti : TypeId} {u : Ty} {kk : IntKind} (k : TyOK P T t (.slice el u)) (hti : P.underlying ti = some (.int kk)) (hT : TOK P T) {n m cap : Nat} (hm : m ≤ 1099511627776) (hfit : n + m ≤ cap) {base : Option Addr} {w' : World}
    (hst : (match base with | some a => storeCells (a.add (n * u.size)) (List.replicate m (zc u)).flatten | none => pure () : Sem Unit).run P w = .ok () w') {ik : IntKind} {l : Int} (hl : l = (m : Int)) :
    (Builtin.append_ #[t, ti] ty #[.slice base n cap, .int ik l]).run P w = .ok (.slice base (n + m) cap) w' := by
  obtain ⟨i, hu, i1, i2, i3, i4, hz⟩ := app_pre (ty := ty) k hT
  have h0 : 0 ≤ l := by omega
  have hw : IntKind.i64.wrap l = l := wrap_small h0 (by omega)
  have hai : (asInt (.int ik l)).run P w = .ok l w := rfl
  have hbytes : ¬ (l * (i.bytes : Int) > 2 ^ 48) := by
    have : m * i.bytes ≤ 1099511627776 * 64 := Nat.mul_le_mul hm i4
    rw [hl, ← Int.natCast_mul]; omega
  have hneg : ¬ (l < 0) := by omega
  have hmade := run_made i1 i3 hz m
  have hto : l.toNat = m := by omega
  unfold Builtin.append_
  simp only [List.getElem?_toArray, List.getElem?_cons_zero, List.getElem?_cons_succ, Sem.run_bind, run_underlying hu, run_underlying hti, Result.andThen_ok, run_sizeOf w i1, Sem.run_pure, hai]
  simp only [hw, if_true, Sem.run_bind, Sem.run_pure, Result.andThen_ok, run_typeInfo w i1, hai]
  have hc : P.cellsOf el = u.size := by simp [Program.cellsOf, i1, i2]
  rw [if_neg hneg]
  simp only [Sem.run_bind, run_typeInfo w i1, Result.andThen_ok]
  rw [if_neg hbytes]
  simp only [Sem.run_bind, Sem.run_pure, Result.andThen_ok, hto, hfit, if_true, hc, Bool.not_true, Bool.false_eq_true, if_false]
  have hm2 := hmade w

  cases base with
  | none => simp only [Sem.run_pure] at hst; injection hst with _ hst; subst hst; simp only [hm2, Result.andThen_ok, Sem.run_pure]
  | some a => simp only [hm2, Result.andThen_ok, List.toList_toArray, Sem.run_bind, hst, Sem.run_pure]

theorem run_appendM_grow {t ty el ti : TypeId} {u : Ty} {kk : IntKind} (k : TyOK P T t (.slice el u)) (hti : P.underlying ti = some (.int kk)) (hT : TOK P T) {n m cap : Nat} {old : List Value} (hm : m ≤ 1099511627776) (hgr : ¬ n + m ≤ cap) {base : Option Addr}
    (ho : ∀ w' : World, w'.heap = w.heap → (Builtin.firstCells u.size n (.slice base n cap)).run P w' = .ok old.toArray w') (hb : n + m ≤ 1099511627776) {ik : IntKind} {l : Int} (hl : l = (m : Int)) :
    ∃ cap' rest w', (Builtin.append_ #[t, ti] ty #[.slice base n cap, .int ik l]).run P w = .ok (.slice (some ⟨w.heap.size, 0, none⟩) (n + m) cap') w' ∧ w'.heap = w.heap.push (.cells (old ++ (List.replicate m (zc u)).flatten ++ rest).toArray el) ∧
      w'.os = w.os ∧ w'.tape = w.tape ∧ w'.output = w.output ∧ n + m ≤ cap' ∧ rest.length = (cap' - (n + m)) * u.size := by
  obtain ⟨i, hu, i1, i2, i3, i4, hz⟩ := app_pre (ty := ty) k hT
  have h0 : 0 ≤ l := by omega
  have hw : IntKind.i64.wrap l = l := wrap_small h0 (by omega)
  have hai : (asInt (.int ik l)).run P w = .ok l w := rfl
  have hbytes : ¬ (l * (i.bytes : Int) > 2 ^ 48) := by
    have : m * i.bytes ≤ 1099511627776 * 64 := Nat.mul_le_mul hm i4
    rw [hl, ← Int.natCast_mul]; omega
  have hneg : ¬ (l < 0) := by omega
  have hmade := run_made i1 i3 hz m
  have hto : l.toNat = m := by omega
  have hc : P.cellsOf el = u.size := by simp [Program.cellsOf, i1, i2]
  have hbytes2 : (n + m) * i.bytes ≤ 140737488355328 := by
    have : (n + m) * i.bytes ≤ 1099511627776 * 64 := Nat.mul_le_mul hb i4
    omega
  have hgs := growslice_fits (need := n + m) (old := cap) (bytes := i.bytes) (by omega) hbytes2
  let w1 : World := w.drew
  let cap' := (Question.appendCap (n + m) cap el).cut (w.tape w.drawn (.appendCap (n + m) cap el))
  have hcap : n + m ≤ cap' := by show n + m ≤ (n + m) + _; omega
  refine ⟨cap', (Builtin.zeroCells (zv u).cells (cap' - (n + m))).toList, w1.alloc (.cells (old ++ (List.replicate m (zc u)).flatten ++ (Builtin.zeroCells (zv u).cells (cap' - (n + m))).toList).toArray el), ?_, rfl, rfl, rfl, rfl, hcap, ?_⟩
  · unfold Builtin.append_
    simp only [List.getElem?_toArray, List.getElem?_cons_zero, List.getElem?_cons_succ, Sem.run_bind, run_underlying hu, run_underlying hti, Result.andThen_ok, run_sizeOf w i1, Sem.run_pure, hai]
    simp only [hw, if_true, Sem.run_bind, Sem.run_pure, Result.andThen_ok, run_typeInfo w i1, hai]
    rw [if_neg hneg]
    simp only [Sem.run_bind, run_typeInfo w i1, Result.andThen_ok]
    rw [if_neg hbytes]
    simp only [Sem.run_bind, Sem.run_pure, Result.andThen_ok, hto, hgr, if_true, hc, Bool.not_true, Bool.false_eq_true, if_false]
    have h63 : ¬ (((n + m : Nat) : Int) > IntKind.i64.max ∧ (True ∨ i.bytes = 0)) := by
      intro q
      have : IntKind.i64.max = 9223372036854775807 := by decide
      rw [this] at q; omega
    have h48 : ¬ (Builtin.nextslicecap (n + m) cap * i.bytes > 2 ^ 48) := by omega
    simp only [run_typeInfo w i1, Result.andThen_ok, Sem.run_bind]
    rw [if_neg h63]
    simp only [Sem.run_pure, Result.andThen_ok, Sem.run_bind, run_typeInfo w i1]
    rw [if_neg h48]
    simp only [Sem.run_pure, Result.andThen_ok, Sem.run_bind, run_typeInfo w i1]
    have hch : (choose (.appendCap (n + m) cap el)).run P w = .ok cap' w1 := by simp only [choose, Sem.run, Question.forced]; rfl
    have hask : ∀ w' : World, (askRoom (cap' * i.bytes)).run P w' = .ok () w' := by intro w'; unfold askRoom; split <;> rfl
    have hzv : (zeroValue el).run P w1 = .ok (zv u) w1 := by simp only [zeroValue, Sem.run_bind, run_typeInfo w1 i1, Result.andThen_ok, i3, Sem.run_pure]
    simp only [hch, Result.andThen_ok, Sem.run_bind, run_typeInfo w1 i1, hask, ho w1 rfl, hmade w1, hzv, run_newRow, Sem.run_pure]
    have e : old.toArray ++ (List.replicate m (zc u)).flatten.toArray ++ Builtin.zeroCells (zv u).cells (cap' - (n + m)) = (old ++ (List.replicate m (zc u)).flatten ++ (Builtin.zeroCells (zv u).cells (cap' - (n + m))).toList).toArray := by simp
    rw [e]; rfl
  · simp [Builtin.zeroCells, zv_cells, zc_length]

end
end Go.Proofs.YtkoifikjfnbcpaaEv
