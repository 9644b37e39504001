/- What an operation's outcome hangs on. -/
import Derived.Test.YtkoifikjfnbcpaaEvTailG
set_option linter.unusedVariables false
set_option linter.unusedSimpArgs false
namespace Go.Proofs.YtkoifikjfnbcpaaEv
open Go Go.RowKit

section
variable {T : TTab} {K : CTab} {get get' : Nat → Ent}

theorem slotsOf_mem : ∀ {xs : List Operand} {s : Nat}, Operand.tmp s ∈ xs → s ∈ slotsOf xs
  | [], _, h => by cases h
  | x :: r, s, h => by
    rcases List.mem_cons.1 h with h | h
    · subst h; simp [slotsOf]
    · have := slotsOf_mem h
      cases x <;> simp [slotsOf, this]

theorem opE_congr {x : Operand} (h : ∀ s, x = .tmp s → get' s = get s) : opE get' x = opE get x := by
  cases x with
  | tmp s => simp only [opE]; rw [h s rfl]
  | const v => cases v <;> rfl
  | _ => rfl
theorem partEs_congr : ∀ {ps : List (Nat × Operand)}, (∀ s, Operand.tmp s ∈ ps.map (·.2) → get' s = get s) → partEs get' ps = partEs get ps
  | [], _ => rfl
  | (i, x) :: r, h => by
    simp only [partEs]
    rw [opE_congr (fun s hs => h s (by simp [hs])), partEs_congr (fun s hs => h s (by simp only [List.map_cons, List.mem_cons]; exact .inr hs))]
theorem operEs_congr : ∀ {xs : List Operand}, (∀ s, Operand.tmp s ∈ xs → get' s = get s) → operEs get' xs = operEs get xs
  | [], _ => rfl
  | x :: r, h => by
    simp only [operEs]
    rw [opE_congr (fun s hs => h s (by simp [hs])), operEs_congr (fun s hs => h s (by simp [hs]))]
theorem optI_congr {x : Option Operand} (h : ∀ s, x = some (.tmp s) → get' s = get s) : optI get' x = optI get x := by
  cases x with
  | none => rfl
  | some x => simp only [optI]; rw [opE_congr (fun s hs => h s (by rw [hs]))]
theorem capsOf_congr : ∀ {xs : List Operand}, (∀ s, Operand.tmp s ∈ xs → get' s = get s) → evOp.capsOf get' xs = evOp.capsOf get xs
  | [], _ => rfl
  | x :: r, h => by
    cases x with
    | tmp s => simp only [evOp.capsOf]; rw [h s (by simp), capsOf_congr (fun s hs => h s (by simp [hs]))]
    | _ => rfl
theorem loadE_congr {ty : Ty} {x : Operand} {e : Ent} (h : ∀ r ∈ refOf e, get' r = get r) : loadE get' ty x e = loadE get ty x e := by
  cases e with
  | ref s base t p => simp only [loadE]; rw [h s (by simp [refOf])]
  | _ => rfl
theorem storeE_congr {ty : Ty} {s : Nat} {xs : List Leaf} (h0 : get' s = get s) (h : ∀ r ∈ refOf (get s), get' r = get r) : storeE get' ty s xs = storeE get ty s xs := by
  unfold storeE
  rw [h0]
  cases hs : get s with
  | ref b base t p => simp only; rw [h b (by rw [hs]; simp [refOf])]
  | box ro ls => cases ro <;> rfl
  | _ => rfl

theorem mem_reads {o : Oper} {s : Nat} (h : Operand.tmp s ∈ o.op.operands.toList) : s ∈ readsOf get o := by
  unfold readsOf; exact List.mem_append_left _ (slotsOf_mem h)
theorem mem_refs {o : Oper} {s r : Nat} (h : Operand.tmp s ∈ o.op.operands.toList) (hr : r ∈ refOf (get s)) : r ∈ readsOf get o := by
  unfold readsOf; exact List.mem_append_right _ (List.mem_flatMap.2 ⟨s, slotsOf_mem h, hr⟩)

theorem evOp_congr {o : Oper} (h : ∀ s ∈ readsOf get o, get' s = get s) : evOp T K get' o = evOp T K get o := by
  have h1 : ∀ s, Operand.tmp s ∈ o.op.operands.toList → get' s = get s := fun s hs => h s (mem_reads hs)
  have h2 : ∀ s, Operand.tmp s ∈ o.op.operands.toList → ∀ r ∈ refOf (get s), get' r = get r := fun s hs r hr => h r (mem_refs hs hr)
  have refs : ∀ {x : Operand} {e : Ent}, x ∈ o.op.operands.toList → opE get x = some e → (∀ r ∈ refOf e, get' r = get r) := by
    intro x e hx he
    cases x with
    | tmp s => simp only [opE, Option.some.injEq] at he; subst he; exact h2 s hx
    | const v =>
      simp only [opE] at he
      split at he
      · rename_i heq; cases heq
      · cases hk : kwf _ _ <;> rw [hk] at he
        · cases he
        · injection he with he; subst he; intro r hr; cases hr
      · injection he with he; subst he; intro r hr; cases hr
      · injection he with he; subst he; intro r hr; cases hr
      · cases he
    | func f => simp only [opE, Option.some.injEq] at he; subst he; intro r hr; cases hr
    | _ => simp [opE] at he
  cases hop : o.op with
  | move x =>
    simp only [evOp, hop]
    rw [opE_congr (fun s hs => h1 s (by simp [hop, Op.operands, hs]))]
  | assign x =>
    simp only [evOp, hop]
    rw [opE_congr (fun s hs => h1 s (by simp [hop, Op.operands, hs]))]
  | pick c x y =>
    simp only [evOp, hop]
    rw [opE_congr (x := c) (fun s hs => h1 s (by simp [hop, Op.operands, hs])), opE_congr (x := x) (fun s hs => h1 s (by simp [hop, Op.operands, hs])), opE_congr (x := y) (fun s hs => h1 s (by simp [hop, Op.operands, hs]))]
  | alloc t => simp only [evOp, hop]
  | box t x =>
    simp only [evOp, hop]
    rw [opE_congr (fun s hs => h1 s (by simp [hop, Op.operands, hs]))]
  | build t ps =>
    simp only [evOp, hop]
    rw [partEs_congr (fun s hs => h1 s (by simpa [hop, Op.operands] using hs))]
  | buildSlice t len ps =>
    simp only [evOp, hop]
    rw [partEs_congr (fun s hs => h1 s (by simpa [hop, Op.operands] using hs))]
  | load t x =>
    simp only [evOp, hop]
    rw [opE_congr (fun s hs => h1 s (by simp [hop, Op.operands, hs]))]
    split
    · rename_i ty e h3 h4
      rw [loadE_congr (refs (x := x) (by simp [hop, Op.operands]) h4)]
    · rfl
  | fieldAddr t x f =>
    simp only [evOp, hop]
    rw [opE_congr (fun s hs => h1 s (by simp [hop, Op.operands, hs]))]
  | indexAddr t x ix =>
    simp only [evOp, hop]
    rw [opE_congr (x := x) (fun s hs => h1 s (by simp [hop, Op.operands, hs])), opE_congr (x := ix) (fun s hs => h1 s (by simp [hop, Op.operands, hs]))]
  | binOp op t x y z =>
    simp only [evOp, hop]
    rw [opE_congr (x := x) (fun s hs => h1 s (by simp [hop, Op.operands, hs])), opE_congr (x := y) (fun s hs => h1 s (by simp [hop, Op.operands, hs]))]
  | unOp op t x =>
    simp only [evOp, hop]
    rw [opE_congr (fun s hs => h1 s (by simp [hop, Op.operands, hs]))]
  | convert s t x =>
    simp only [evOp, hop]
    rw [opE_congr (fun s hs => h1 s (by simp [hop, Op.operands, hs]))]
  | extract x i =>
    simp only [evOp, hop]
    rw [opE_congr (fun s hs => h1 s (by simp [hop, Op.operands, hs]))]
  | slice t x lo hi mx =>
    simp only [evOp, hop]
    rw [opE_congr (x := x) (fun s hs => h1 s (by simp [hop, Op.operands, hs])), optI_congr (x := lo) (fun s hs => h1 s (by simp [hop, Op.operands, hs])), optI_congr (x := hi) (fun s hs => h1 s (by simp [hop, Op.operands, hs]))]
  | makeSlice t l c =>
    simp only [evOp, hop]
    rw [opE_congr (x := l) (fun s hs => h1 s (by simp [hop, Op.operands, hs])), opE_congr (x := c) (fun s hs => h1 s (by simp [hop, Op.operands, hs]))]
  | makeFunc f fi ca =>
    cases f with
    | func f =>
      simp only [evOp, hop]
      rw [capsOf_congr (fun s hs => h1 s (by simp only [hop, Op.operands, Array.toList_append, List.mem_append]; exact .inr hs))]
    | _ => simp only [evOp, hop]
  | call c =>
    have hargs : operEs get' c.args.toList = operEs get c.args.toList := operEs_congr (fun s hs => h1 s (by simp only [hop, Op.operands, Call.operands, Array.toList_append, List.mem_append]; exact .inr hs))
    simp only [evOp, hop]
    split
    · rw [hargs]
    · rw [hargs]
    · rw [hargs]
    · rename_i f hcal
      have hm : f ∈ o.op.operands.toList := by simp [hop, Op.operands, Call.operands, hcal]
      rw [hargs, opE_congr (x := f) (fun s hs => h1 s (by rw [← hs]; exact hm))]
      split
      · rename_i fid caps es h3 h4
        have hc : ∀ r ∈ caps, get' r = get r := refs hm h3
        have e1 : (caps.all fun s => isBox (get' s)) = caps.all fun s => isBox (get s) := by
          clear h3
          induction caps with
          | nil => rfl
          | cons x r ih => simp only [List.all_cons]; rw [hc x (by simp), ih (fun r hr => hc r (by simp [hr]))]
        have e2 : caps.map get' = caps.map get := List.map_congr_left hc
        rw [e1, e2]
      · rfl
    · rfl
  | store t x y =>
    simp only [evOp, hop]
    rw [opE_congr (x := y) (fun s hs => h1 s (by simp [hop, Op.operands, hs]))]
    split
    · rename_i ty s agg xs h3 h4 h5
      have hm : Operand.tmp s ∈ o.op.operands.toList := by simp [hop, Op.operands]
      rw [storeE_congr (h1 s hm) (h2 s hm)]
    · rfl
  | _ => simp only [evOp, hop]
end
end Go.Proofs.YtkoifikjfnbcpaaEv
