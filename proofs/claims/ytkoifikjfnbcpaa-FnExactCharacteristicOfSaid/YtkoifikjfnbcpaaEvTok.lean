/- The table of types is the program's. -/
import Derived.Test.YtkoifikjfnbcpaaEvSndA
set_option linter.unusedVariables false
set_option linter.unusedSimpArgs false
namespace Go.Proofs.YtkoifikjfnbcpaaEv
open Go Go.RowKit

def zc : Ty → List Value
  | .int k => [.int k 0]
  | .bool => [.bool false]
  | .unit => []
  | .pair a b => zc a ++ zc b
  | .arr n t => (List.replicate n (zc t)).flatten
  | .slice _ _ => [.slice none 0 0]
def zv (t : Ty) : Value := bif t.agg then .agg (zc t).toArray else (zc t).headD undef

def FsOK (P : Program) (T : TTab) : List Field → Ty → Nat → Prop
  | [], .unit, _ => True
  | f :: fs, .pair a b, off => f.offset = off ∧ tyOf T f.type = some a ∧ f.name ≠ "_" ∧ a.size ≠ 0 ∧ FsOK P T fs b (off + a.size)
  | _, _, _ => False

def UndOK (P : Program) (T : TTab) (t : TypeId) : Ty → Prop
  | .int k => P.underlying t = some (.int k)
  | .bool => P.underlying t = some .bool
  | .slice e t' => P.underlying t = some (.slice e) ∧ tyOf T e = some t' ∧ t'.size ≠ 0
  | .arr n t' => ∃ e, P.underlying t = some (.array n e) ∧ tyOf T e = some t' ∧ t'.size ≠ 0 ∧ 1 < n
  | ty => ∃ fs, P.underlying t = some (.struct fs) ∧ P.stoodInHeld t = false ∧ FsOK P T fs.toList ty 0

structure TyOK (P : Program) (T : TTab) (t : TypeId) (ty : Ty) : Prop where
  info : ∃ i, P.info? t = some i ∧ i.size = ty.size ∧ i.zero = some (zv ty) ∧ i.bytes ≤ 64
  und : UndOK P T t ty

def TOK (P : Program) (T : TTab) : Prop := ∀ t ty, tyOf T t = some ty → TyOK P T t ty

def veqC : Value → Value → Bool
  | .int k n, .int k' n' => kEq k k' && decide (n = n')
  | .bool a, .bool b => a == b
  | .slice none 0 0, .slice none 0 0 => true
  | _, _ => false
def veqL : List Value → List Value → Bool
  | [], [] => true
  | a :: r, b :: r' => veqC a b && veqL r r'
  | _, _ => false
def zeroB (t : Ty) (v : Value) : Bool :=
  match t.agg, v with
  | true, .agg cs => veqL cs.toList (zc t)
  | false, v => veqL [v] (zc t)
  | _, _ => false
theorem veqC_eq : ∀ {a b : Value}, veqC a b = true → a = b := by
  intro a b h
  unfold veqC at h
  split at h
  · simp only [Bool.and_eq_true, decide_eq_true_eq] at h; rw [kEq_eq h.1, h.2]
  · simp at h; rw [h]
  · rfl
  · cases h
theorem veqL_eq : ∀ {a b : List Value}, veqL a b = true → a = b
  | [], [], _ => rfl
  | [], _ :: _, h => by simp [veqL] at h
  | _ :: _, [], h => by simp [veqL] at h
  | a :: r, b :: r', h => by simp only [veqL, Bool.and_eq_true] at h; rw [veqC_eq h.1, veqL_eq h.2]
theorem zeroB_eq {t : Ty} {v : Value} (h : zeroB t v = true) : v = zv t := by
  unfold zeroB at h
  split at h
  · rename_i cs ha; have := veqL_eq h; unfold zv; rw [ha]; simp [← this]
  · rename_i ha; have := veqL_eq h; unfold zv; rw [ha, ← this]; rfl
  · cases h

def fsB (T : TTab) : List Field → Ty → Nat → Bool
  | [], .unit, _ => true
  | f :: fs, .pair a b, off => Nat.beq f.offset off && (match tyOf T f.type with | some u => u.eqb a | none => false) && !(f.name == "_") && !(Nat.beq a.size 0) && fsB T fs b (off + a.size)
  | _, _, _ => false
def undB (P : Program) (T : TTab) (t : TypeId) : Ty → Bool
  | .int k => match P.underlying t with | some (.int k') => kEq k' k | _ => false
  | .bool => match P.underlying t with | some .bool => true | _ => false
  | .slice e t' => match P.underlying t with | some (.slice e') => Nat.beq e' e && (match tyOf T e with | some u => u.eqb t' | none => false) && !(Nat.beq t'.size 0) | _ => false
  | .arr n t' => match P.underlying t with | some (.array n' e) => Nat.beq n' n && (match tyOf T e with | some u => u.eqb t' | none => false) && !(Nat.beq t'.size 0) && Nat.blt 1 n | _ => false
  | ty => match P.underlying t with | some (.struct fs) => !P.stoodInHeld t && fsB T fs.toList ty 0 | _ => false
def tyB (P : Program) (T : TTab) (t : TypeId) (ty : Ty) : Bool :=
  (match P.info? t with | some i => Nat.beq i.size ty.size && (match i.zero with | some z => zeroB ty z | none => false) && Nat.ble i.bytes 64 | none => false) && undB P T t ty
def tokB (P : Program) (T : TTab) : Bool := T.all fun p => tyB P T p.1 p.2

theorem tyOf_mem {T : TTab} {t : TypeId} {ty : Ty} : tyOf T t = some ty → (t, ty) ∈ T := by
  induction T with
  | nil => intro h; cases h
  | cons p r ih =>
    obtain ⟨j, u⟩ := p
    intro h
    simp only [tyOf] at h
    cases hb : Nat.beq j t with
    | true => rw [hb] at h; simp at h; subst h; rw [Nat.eq_of_beq_eq_true hb]; exact .head _
    | false => rw [hb] at h; exact .tail _ (ih h)

theorem optTy {x : Option Ty} {a : Ty} (h : (match x with | some u => u.eqb a | none => false) = true) : x = some a := by
  cases x with
  | none => cases h
  | some u => rw [Ty.eq_of_eqb h]

theorem fsB_ok {P : Program} {T : TTab} : ∀ {fs : List Field} {ty : Ty} {off : Nat}, fsB T fs ty off = true → FsOK P T fs ty off
  | [], .unit, _, _ => trivial
  | f :: fs, .pair a b, off, h => by
    simp only [fsB, Bool.and_eq_true, Bool.not_eq_true'] at h
    obtain ⟨⟨⟨⟨h1, h2⟩, h3⟩, h4⟩, h5⟩ := h
    exact ⟨Nat.eq_of_beq_eq_true h1, optTy h2, by simpa using h3, nbeq_ne h4, fsB_ok h5⟩
  | [], .int _, _, h | [], .bool, _, h | [], .pair _ _, _, h | [], .arr _ _, _, h | [], .slice _ _, _, h => by cases h
  | _ :: _, .int _, _, h | _ :: _, .bool, _, h | _ :: _, .unit, _, h | _ :: _, .arr _ _, _, h | _ :: _, .slice _ _, _, h => by cases h

theorem undB_struct {P : Program} {T : TTab} {t : TypeId} {ty : Ty} (h : (match P.underlying t with | some (.struct fs) => !P.stoodInHeld t && fsB T fs.toList ty 0 | _ => false) = true) :
    ∃ fs, P.underlying t = some (.struct fs) ∧ P.stoodInHeld t = false ∧ FsOK P T fs.toList ty 0 := by
  split at h
  · rename_i fs hu; simp only [Bool.and_eq_true, Bool.not_eq_true'] at h; exact ⟨fs, hu, h.1, fsB_ok h.2⟩
  · cases h

theorem undB_ok {P : Program} {T : TTab} {t : TypeId} {ty : Ty} (h : undB P T t ty = true) : UndOK P T t ty := by
  cases ty with
  | int k =>
    simp only [undB] at h; split at h
    · rename_i k' hu; rw [kEq_eq h] at hu; exact hu
    · cases h
  | bool =>
    simp only [undB] at h; split at h
    · rename_i hu; exact hu
    · cases h
  | slice e t' =>
    simp only [undB] at h; split at h
    · rename_i e' hu
      simp only [Bool.and_eq_true, Bool.not_eq_true'] at h
      obtain ⟨⟨h1, h2⟩, h3⟩ := h
      rw [Nat.eq_of_beq_eq_true h1] at hu
      exact ⟨hu, optTy h2, nbeq_ne h3⟩
    · cases h
  | arr n t' =>
    simp only [undB] at h; split at h
    · rename_i n' e hu
      simp only [Bool.and_eq_true, Bool.not_eq_true'] at h
      obtain ⟨⟨⟨h1, h2⟩, h3⟩, h4⟩ := h
      rw [Nat.eq_of_beq_eq_true h1] at hu
      exact ⟨e, hu, optTy h2, nbeq_ne h3, by simpa using h4⟩
    · cases h
  | unit => exact undB_struct h
  | pair a b => exact undB_struct h

theorem tokB_ok {P : Program} {T : TTab} (h : tokB P T = true) : TOK P T := by
  intro t ty ht
  have := List.all_eq_true.1 h _ (tyOf_mem ht)
  simp only [tyB, Bool.and_eq_true] at this
  refine ⟨?_, undB_ok this.2⟩
  have h1 := this.1
  split at h1
  · rename_i i hi
    simp only [Bool.and_eq_true] at h1
    obtain ⟨⟨a, b⟩, c⟩ := h1
    split at b
    · rename_i z hz; exact ⟨i, hi, Nat.eq_of_beq_eq_true a, by rw [hz, zeroB_eq b], by simpa using c⟩
    · cases b
  · cases h1

end Go.Proofs.YtkoifikjfnbcpaaEv
