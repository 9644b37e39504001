/- What a law is handed reads as plain data: numbers, truth values, arrays of these. -/
import Derived.Test.YtkoifikjfnbcpaaEvFunC
import Derived.OpenShut
import Derived.ChangeArms
import Derived.WideShapes
import Derived.ChangeShapes
set_option linter.unusedVariables false
set_option linter.unusedSimpArgs false
namespace Go.Proofs.YtkoifikjfnbcpaaEv
open Go Go.RowKit Go.ChangeShapes Go.WideShapes

def onlyArr : Ty → Bool
  | .int _ => true
  | .arr _ t => onlyArr t
  | _ => false
/-- The numbers are numbers of their kinds. -/
def okV : (t : Ty) → t.den → Bool
  | .int k, x => kwf k x
  | .arr n t, x => okT (okV t) n x
  | .pair a b, x => okV a x.1 && okV b x.2
  | .slice _ t, x => x.all (okV t)
  | _, _ => true
where
  okT {α : Type} (f : α → Bool) : (n : Nat) → Tup α n → Bool
    | 0, _ => true
    | n + 1, x => f x.1 && okT f n x.2
def okA : (ps : List PK) → Args ps → Bool
  | [], _ => true
  | .v t :: r, x => okV t x.1 && okA r x.2
  | .p t :: r, x => okV t x.1 && okA r x.2
  | .fn _ :: r, x => okA r x.2

theorem wf_kwf {k : IntKind} {n : Int} (h : (Lit.int k n).wf = true) : kwf k n = true := by
  simpa [Lit.wf, kwf] using h

section
variable {P : Program} {T : TTab} {H : Type} {enc : TypeId × Value → H} {w : World} {base : Nat} {spare : Nat → Bool} {held : Bool}

theorem mkTup {α : Type} {R : α → List Value → List Nat → Prop} {f : α → Bool} {s : Nat} : ∀ (n : Nat) (cs : List Value), cs.length = n * s → (∀ i, i < n → ∃ y, R y ((cs.drop (i * s)).take s) [] ∧ f y = true) → ∃ x : Tup α n, RdL R s (tlist n x) cs [] ∧ okV.okT f n x = true
  | 0, cs, hl, _ => ⟨(), by simp [RdL, tlist], rfl⟩
  | n + 1, cs, hl, h => by
    obtain ⟨y, h1, h2⟩ := h 0 (by omega)
    have hl2 : (cs.drop s).length = n * s := by rw [List.length_drop, hl, Nat.succ_mul]; omega
    obtain ⟨x, q1, q2⟩ := mkTup n (cs.drop s) hl2 (fun i hi => by
      obtain ⟨z, z1, z2⟩ := h (i + 1) (by omega)
      refine ⟨z, ?_, z2⟩
      rw [List.drop_drop]
      rw [show s + i * s = (i + 1) * s by rw [Nat.succ_mul]; omega]
      exact z1)
    refine ⟨(y, x), ⟨[], [], by simpa using h1, q1, rfl⟩, ?_⟩
    simp only [okV.okT, h2, q2, Bool.and_self]

theorem cells_size {t : TypeId} {ty : Ty} (k : TyOK P T t ty) : P.cellsOf t = ty.size := by
  obtain ⟨i, h1, h2, _⟩ := k.info
  simp [Program.cellsOf, h1, h2]

theorem open_flat (hT : TOK P T) : ∀ {ty : Ty} {t : TypeId} {fuel : Nat} {cs : List Value} {x : DataW H × List MemPlace}, onlyArr ty = true → TyOK P T t ty → DataW.trod enc P w base spare held fuel t cs = some x → ∃ y : ty.den, Rd w.heap ty y cs [] ∧ okV ty y = true := by
  intro ty
  induction ty with
  | int k =>
    intro t fuel cs x _ kk h
    obtain ⟨m, rfl, _, hw⟩ := DataW.trod_int kk.und h
    exact ⟨m, ⟨rfl, hw, rfl⟩, wf_kwf hw⟩
  | arr n u ih =>
    intro t fuel cs x hf kk h
    obtain ⟨e, u1, u2, _, _⟩ := kk.und
    obtain ⟨xs, m, _, _, hlen, hxl, hx⟩ := DataW.trod_array u1 h
    have ke := hT _ _ u2
    rw [cells_size kk] at hlen
    rw [cells_size ke] at hx
    obtain ⟨y, q1, q2⟩ := mkTup (R := Rd w.heap u) (f := okV u) n cs hlen (fun i hi => by
      have e0 := hx i hi
      rw [List.getElem?_eq_getElem (by omega)] at e0
      exact ih hf ke e0)
    exact ⟨y, ⟨hlen, q1⟩, q2⟩
  | _ => intro t fuel cs x hf; cases hf

theorem open_arg (hT : TOK P T) {ty : Ty} {t : TypeId} {r : Reach} {v : Value} {d : DataW H} {ps : List MemPlace} (hf : onlyArr ty = true) (ht : tyOf T t = some ty) {base2 : Nat} (hval : Value.okWide P w r base2 t v) (h : DataW.Trod enc P w base spare held t v d ps) :
    ∃ y : ty.den, OneV w.heap ty y v [] ∧ okV ty y = true := by
  obtain ⟨fuel, hx⟩ := h
  have k := hT _ _ ht
  obtain ⟨y, q1, q2⟩ := open_flat hT hf k hx
  refine ⟨y, ⟨q1, fun ha => ?_, fun ha => ?_⟩, q2⟩
  · cases ty with
    | arr n u =>
      obtain ⟨e, u1, _⟩ := k.und
      simp only [Value.okWide, u1] at hval
      obtain ⟨cs, h1, _⟩ := hval
      subst h1; rfl
    | int k => cases ha
    | _ => cases hf
  · cases ty with
    | int kk =>
      obtain ⟨m, rfl⟩ := okWide_int k.und hval
      rfl
    | arr n u => cases ha
    | _ => cases hf

end
end Go.Proofs.YtkoifikjfnbcpaaEv
