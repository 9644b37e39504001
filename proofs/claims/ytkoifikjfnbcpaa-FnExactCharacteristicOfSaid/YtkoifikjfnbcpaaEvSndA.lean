/- Operations on numbers and truth values, and what an operand is: the code comes to what is told. -/
import Derived.Test.YtkoifikjfnbcpaaEvRel
import Derived.ChangeKeysEq
import Derived.IntWalk
set_option linter.unusedVariables false
set_option linter.unusedSimpArgs false
namespace Go.Proofs.YtkoifikjfnbcpaaEv
open Go Go.RowKit

theorem upon_val {P : Program} {o : Oper} {a : Act} {w w' : World} {v : Value} {K : Act → World → Prop} {Q : Exit → Act → World → Prop}
    (h : (execOp a.eval o).run P w = .ok (.value v) w') (hk : K (a.put o.dst v) w') : Oper.wp P o a w K Q := by
  unfold Oper.wp; rw [h]; exact hk
theorem upon_skip {P : Program} {o : Oper} {a : Act} {w w' : World} {K : Act → World → Prop} {Q : Exit → Act → World → Prop}
    (h : (execOp a.eval o).run P w = .ok .skip w') (hk : K (a.put o.dst undef) w') : Oper.wp P o a w K Q := by
  unfold Oper.wp; rw [h]; exact hk

theorem wrap_wf (k : IntKind) (n : Int) : (Lit.int k (k.wrap n)).wf = true := by
  cases k <;> simp [Lit.wf, IntKind.wrap, IntKind.min, IntKind.max, IntKind.bits, IntKind.signed] <;> (try split) <;> omega
theorem tmod_wf (k : IntKind) (x y : Int) (h : (Lit.int k x).wf = true) : (Lit.int k (x.tmod y)).wf = true := by
  have hb : (0 ≤ x → 0 ≤ x.tmod y ∧ x.tmod y ≤ x) ∧ (x < 0 → x ≤ x.tmod y ∧ x.tmod y ≤ 0) := by
    constructor
    · intro hx
      refine ⟨Int.tmod_nonneg y hx, ?_⟩
      obtain ⟨n, rfl⟩ := Int.eq_ofNat_of_zero_le hx
      have h1 := Int.natAbs_tmod (n : Int) y
      have h2 : (n : Int).natAbs % y.natAbs ≤ (n : Int).natAbs := Nat.mod_le _ _
      omega
    · intro hx
      obtain ⟨n, hn⟩ : ∃ n : Nat, x = -(n : Int) := ⟨x.natAbs, by omega⟩
      subst hn
      rw [Int.neg_tmod]
      have h1 := Int.natAbs_tmod (n : Int) y
      have h0 := Int.tmod_nonneg y (Int.natCast_nonneg n)
      have h2 : (n : Int).natAbs % y.natAbs ≤ (n : Int).natAbs := Nat.mod_le _ _
      omega
  simp only [Lit.wf, Bool.and_eq_true, decide_eq_true_eq] at h ⊢
  have hk : k.min ≤ 0 ∧ 0 ≤ k.max := by cases k <;> decide
  rcases Int.lt_or_le x 0 with hx | hx
  · have := hb.2 hx; omega
  · have := hb.1 hx; omega

variable {g : Gh} {h : Mem}

theorem rd_int {k : IntKind} {n : Int} (hn : (Lit.int k n).wf = true) : LeafB g h (.fz (.int k) 0 false n) [.int k n] [] :=
  ⟨⟨rfl, hn, rfl⟩, by simp, by simp, by simp⟩
theorem intE_sound {s : Nat} {k : IntKind} {n : Int} (hn : (Lit.int k n).wf = true) : EntR g h s (intE k n) (.int k n) :=
  ⟨[.int k n], [], rfl, fun _ => ⟨rfl, rfl⟩, [], [], by simpa [Ty.size] using rd_int hn, ⟨by simp [Ty.size], rfl⟩, rfl⟩
theorem boolE_sound {s : Nat} {b : Bool} : EntR g h s (boolE b) (.bool b) :=
  ⟨[.bool b], [], rfl, fun _ => ⟨rfl, rfl⟩, [], [], ⟨⟨by simp [Ty.size], rfl⟩, by simp, by simp, by simp⟩, ⟨by simp [Ty.size], rfl⟩, rfl⟩

theorem asI_inv {s : Nat} {e : Ent} {v : Value} {k : IntKind} {n : Int} (he : EntR g h s e v) (ha : asI e = some (k, n)) : v = .int k n ∧ (Lit.int k n).wf = true := by
  unfold asI at ha
  split at ha
  · injection ha with ha; injection ha with ha1 ha2; subst ha1; subst ha2
    obtain ⟨cs, bs, h1, h2, b1, b2, ⟨h3, _⟩, h4, h5⟩ := he
    obtain ⟨hl, _⟩ := h2 rfl
    obtain ⟨h31, h32, _⟩ := h3
    match cs, hl with
    | [c], _ => simp [Ty.size] at h31; subst h31; exact ⟨by simpa using h1, h32⟩
  · cases ha
theorem asB_inv {s : Nat} {e : Ent} {v : Value} {b : Bool} (he : EntR g h s e v) (ha : asB e = some b) : v = .bool b := by
  unfold asB at ha
  split at ha
  · injection ha with ha; subst ha
    obtain ⟨cs, bs, h1, h2, b1, b2, ⟨h3, _⟩, h4, h5⟩ := he
    obtain ⟨hl, _⟩ := h2 rfl
    obtain ⟨h31, _⟩ := h3
    match cs, hl with
    | [c], _ => simp [Ty.size] at h31; subst h31; simpa using h1
  · cases ha

/-- The entries that say nothing of their own slot. -/
theorem EntR.move {s s' : Nat} {e : Ent} {v : Value} (he : EntR g h s e v) (hm : e.movable = true) : EntR g h s' e v := by
  cases e <;> first | exact he | (simp [Ent.movable] at hm)

theorem opE_sound {get : Nat → Ent} {a : Act} {x : Operand} {e : Ent} (hg : ∀ s, EntR g h s (get s) (a.tmps.getD s undef)) (hx : opE get x = some e) :
    ∃ s, EntR g h s e (a.eval x) ∧ ∀ t, x = .tmp t → s = t ∧ e = get t := by
  unfold opE at hx
  split at hx
  · injection hx with hx; subst hx; exact ⟨_, hg _, fun t ht => by cases ht; exact ⟨rfl, rfl⟩⟩
  · rename_i k n
    cases hk : kwf k n with
    | false => rw [hk] at hx; cases hx
    | true =>
      rw [hk] at hx; injection hx with hx; subst hx
      exact ⟨0, intE_sound (by simpa [kwf, Lit.wf] using hk), fun t ht => by cases ht⟩
  · injection hx with hx; subst hx; exact ⟨0, boolE_sound, fun t ht => by cases ht⟩
  · injection hx with hx; subst hx; exact ⟨0, rfl, fun t ht => by cases ht⟩
  · cases hx

theorem intE_asI {k : IntKind} {n : Int} : asI (intE k n) = some (k, n) := rfl

section
variable {P : Program} {w : World}

theorem arith_sound {op : BinOp} {k : IntKind} {x y : Int} {c : Bool} {e : Ent} {t : TypeId} {X Y : Operand} (s : Nat) (hx : (Lit.int k x).wf = true) (hy : (Lit.int k y).wf = true)
    (ha : arith op k x y = some (c, e)) (hc : c = true) :
    ∃ v, (do eqGuard op t X Y (.int k x) (.int k y); binOp op t (.int k x) (.int k y) : Sem Value).run P w = .ok v w ∧ EntR g h s e v := by
  subst hc
  cases op <;> simp only [arith, Option.some.injEq, Prod.mk.injEq, reduceCtorEq] at ha
  case add => obtain ⟨_, rfl⟩ := ha; exact ⟨_, by simp [eqGuard, binOp, Op.intArith, Result.andThen], intE_sound (wrap_wf _ _)⟩
  case sub => obtain ⟨_, rfl⟩ := ha; exact ⟨_, by simp [eqGuard, binOp, Op.intArith, Result.andThen], intE_sound (wrap_wf _ _)⟩
  case mul => obtain ⟨_, rfl⟩ := ha; exact ⟨_, by simp [eqGuard, binOp, Op.intArith, Result.andThen], intE_sound (wrap_wf _ _)⟩
  case quo => obtain ⟨h0, rfl⟩ := ha; simp at h0; exact ⟨_, by simp [eqGuard, binOp, Op.intDiv, Result.andThen, h0], intE_sound (wrap_wf _ _)⟩
  case rem => obtain ⟨h0, rfl⟩ := ha; simp at h0; exact ⟨_, by simp [eqGuard, binOp, Op.intDiv, Result.andThen, h0], intE_sound (tmod_wf _ _ _ hx)⟩
  case eql => obtain ⟨_, rfl⟩ := ha; exact ⟨_, by simp [eqGuard, binOp, Op.intCmp, Result.andThen]; rfl, by rw [show (x == y) = decide (x = y) from rfl]; exact boolE_sound⟩
  case neq => obtain ⟨_, rfl⟩ := ha; exact ⟨_, by simp [eqGuard, binOp, Op.intCmp, Result.andThen]; rfl, by rw [show (x != y) = !decide (x = y) from rfl]; exact boolE_sound⟩
  case lss => obtain ⟨_, rfl⟩ := ha; exact ⟨_, by simp [eqGuard, binOp, Op.intCmp, Result.andThen], boolE_sound⟩
  case leq => obtain ⟨_, rfl⟩ := ha; exact ⟨_, by simp [eqGuard, binOp, Op.intCmp, Result.andThen], boolE_sound⟩
  case gtr => obtain ⟨_, rfl⟩ := ha; exact ⟨_, by simp [eqGuard, binOp, Op.intCmp, Result.andThen], boolE_sound⟩
  case geq => obtain ⟨_, rfl⟩ := ha; exact ⟨_, by simp [eqGuard, binOp, Op.intCmp, Result.andThen], boolE_sound⟩
end
end Go.Proofs.YtkoifikjfnbcpaaEv
