/- The program's operations on plain typed data, that the machine does the same, what the functions come to, and what they give (part 1). No condition. -/
import Derived.Below
import Derived.Laws.Cells
import Derived.KernelRfl
import Derived.ChangeKeysEq
import Derived.IntWalk
import Derived.Great.FillDense
import Derived.Great.BuildSlice
import Derived.Laws.AppendOwn
import Derived.Laws.CopyRow
import Derived.Laws.MakeOwn
import Derived.Laws.StructEq
import Derived.WideKeyRuns
import Derived.MapKept
import Derived.Laws.Append
import Derived.Orders
import Derived.Maps.RangeRun
import Derived.OpenShut
import Derived.ChangeArms
import Derived.WideShapes
import Derived.ChangeShapes
import Derived.Test.YtmdpmnjnpnjppaaChecked
import Derived.RowKit
import Derived.Shelf.SlSortCmp.NoneTotal
import Derived.Test.YtmdpmnjnpnjppaaProg
import Derived.Lib.Bytealg
import Derived.Laws.Externs
set_option linter.unusedVariables false
set_option linter.unusedSimpArgs false
namespace Go.Proofs.YtmdpmnjnpnjppaaEv
open Go Go.RowKit
inductive Ty where
  | int (k : IntKind)
  | bool
  | unit
  | pair (a b : Ty)
  | arr (n : Nat) (t : Ty)
  | slice (e : TypeId) (t : Ty)
abbrev Tup (α : Type) : Nat → Type
  | 0 => Unit
  | n + 1 => α × Tup α n
abbrev Ty.den : Ty → Type
  | .int _ => Int
  | .bool => Bool
  | .unit => Unit
  | .pair a b => a.den × b.den
  | .arr n t => Tup t.den n
  | .slice _ t => List t.den
def Ty.size : Ty → Nat
  | .int _ | .bool | .slice _ _ => 1
  | .unit => 0
  | .pair a b => a.size + b.size
  | .arr n t => n * t.size
def Ty.flat : Ty → Bool
  | .slice _ _ => false
  | .pair a b => a.flat && b.flat
  | .arr _ t => t.flat
  | _ => true
def Ty.agg : Ty → Bool
  | .unit | .pair _ _ | .arr _ _ => true
  | _ => false
def tup (α : Type) (x : α) : (n : Nat) → Tup α n
  | 0 => ()
  | n + 1 => (x, tup α x n)
def Ty.dflt : (t : Ty) → t.den
  | .int _ => (0 : Int)
  | .bool => false
  | .unit => ()
  | .pair a b => (a.dflt, b.dflt)
  | .arr n t => tup t.den t.dflt n
  | .slice _ _ => []
def tget {α : Type} (d : α) : (n : Nat) → Tup α n → Nat → α
  | 0, _, _ => d
  | _ + 1, v, 0 => v.1
  | n + 1, v, i + 1 => tget d n v.2 i
def tset {α : Type} (x : α) : (n : Nat) → Tup α n → Nat → Tup α n
  | 0, v, _ => v
  | _ + 1, v, 0 => (x, v.2)
  | n + 1, v, i + 1 => (v.1, tset x n v.2 i)
def tlist {α : Type} : (n : Nat) → Tup α n → List α
  | 0, _ => []
  | n + 1, v => v.1 :: tlist n v.2
theorem tlist_length {α : Type} : ∀ (n : Nat) (v : Tup α n), (tlist n v).length = n
  | 0, _ => rfl
  | n + 1, v => by simp [tlist, tlist_length n v.2]
theorem tlist_get {α : Type} (d : α) : ∀ (n : Nat) (v : Tup α n) (i : Nat), i < n → (tlist n v)[i]? = some (tget d n v i)
  | 0, _, _, h => by omega
  | n + 1, v, 0, _ => rfl
  | n + 1, v, i + 1, h => by simp only [tlist, List.getElem?_cons_succ, tget]; exact tlist_get d n v.2 i (by omega)
theorem tlist_set {α : Type} (x : α) : ∀ (n : Nat) (v : Tup α n) (i : Nat), tlist n (tset x n v i) = (tlist n v).set i x
  | 0, _, _ => rfl
  | n + 1, v, 0 => rfl
  | n + 1, v, i + 1 => by simp only [tlist, tset, List.set_cons_succ]; rw [tlist_set x n v.2 i]
theorem tlist_tup {α : Type} (x : α) : ∀ n, tlist n (tup α x n) = List.replicate n x
  | 0 => rfl
  | n + 1 => by simp [tlist, tup, List.replicate_succ, tlist_tup x n]
def kEq : IntKind → IntKind → Bool
  | .i8, .i8 | .i16, .i16 | .i32, .i32 | .i64, .i64 | .u8, .u8 | .u16, .u16 | .u32, .u32 | .u64, .u64 => true
  | _, _ => false
theorem kEq_eq : ∀ {a b : IntKind}, kEq a b = true → a = b := by intro a b; cases a <;> cases b <;> simp [kEq]
def Ty.eqb : Ty → Ty → Bool
  | .int k, .int k' => kEq k k'
  | .bool, .bool => true
  | .unit, .unit => true
  | .pair a b, .pair c d => a.eqb c && b.eqb d
  | .arr n a, .arr m b => Nat.beq n m && a.eqb b
  | .slice e a, .slice f b => Nat.beq e f && a.eqb b
  | _, _ => false
theorem Ty.eq_of_eqb : ∀ {a b : Ty}, a.eqb b = true → a = b := by
  intro a
  induction a with
  | int k => intro b h; cases b <;> simp [Ty.eqb] at h; rw [kEq_eq h]
  | bool => intro b h; cases b <;> simp [Ty.eqb] at h; rfl
  | unit => intro b h; cases b <;> simp [Ty.eqb] at h; rfl
  | pair a c iha ihc => intro b h; cases b <;> simp [Ty.eqb] at h; rw [iha h.1, ihc h.2]
  | arr n t ih => intro b h; cases b <;> simp [Ty.eqb] at h; rw [h.1, ih h.2]
  | slice e t ih => intro b h; cases b <;> simp [Ty.eqb] at h; rw [h.1, ih h.2]
def Ty.cast {a : Ty} (b : Ty) (x : a.den) : Option b.den :=
  if h : a.eqb b = true then some (Ty.eq_of_eqb h ▸ x) else none
theorem Ty.cast_eq {a b : Ty} {x : a.den} {y : b.den} (h : Ty.cast b x = some y) : ∃ e : a = b, e ▸ x = y := by
  unfold Ty.cast at h
  split at h
  · rename_i h'; exact ⟨Ty.eq_of_eqb h', by injection h⟩
  · cases h
abbrev Mem := Array Obj
def RdL {α : Type} (R : α → List Value → List Nat → Prop) (n : Nat) : List α → List Value → List Nat → Prop
  | [], _, bs => bs = []
  | x :: xs, cs, bs => ∃ b1 b2, R x (cs.take n) b1 ∧ RdL R n xs (cs.drop n) b2 ∧ bs = b1 ++ b2
def SlR {α : Type} (h : Mem) (e : TypeId) (n : Nat) (R : α → List Value → List Nat → Prop) (l : List α) (hd : Value) (blk : Option Nat) (bs : List Nat) : Prop :=
  (∃ p, hd = .slice p 0 0 ∧ l = [] ∧ blk = none ∧ bs = []) ∨
  ∃ b o cap c fr, hd = .slice (some ⟨b, o, none⟩) l.length cap ∧ blk = some b ∧ (l.length ≤ cap ∧ 0 < cap) ∧ (∃ e', h[b]? = some (.cells c e' fr)) ∧ o + cap * n ≤ c.size ∧
    RdL R n l (c.toList.drop o) bs
theorem SlR.mk {α : Type} {h : Mem} {e e' : TypeId} {n : Nat} {R : α → List Value → List Nat → Prop} {l : List α} {hd : Value} {b o cap : Nat} {c : Array Value} {fr : Nat × Nat} {bs : List Nat}
    (h1 : hd = .slice (some ⟨b, o, none⟩) l.length cap) (h2 : l.length ≤ cap) (h3 : h[b]? = some (.cells c e' fr)) (h4 : o + cap * n ≤ c.size) (h5 : RdL R n l (c.toList.drop o) bs) : ∃ blk, SlR h e n R l hd blk bs ∧ ∀ z, blk = some z → z = b := by
  rcases Nat.eq_zero_or_pos cap with q | q
  · subst q
    have hl : l = [] := List.eq_nil_of_length_eq_zero (by omega)
    subst hl
    exact ⟨none, .inl ⟨_, h1, rfl, rfl, h5⟩, fun z hz => by cases hz⟩
  · exact ⟨some b, .inr ⟨b, o, cap, c, fr, h1, rfl, ⟨h2, q⟩, ⟨e', h3⟩, h4, h5⟩, fun z hz => by injection hz with hz; exact hz.symm⟩
def Rd (h : Mem) : (t : Ty) → t.den → List Value → List Nat → Prop
  | .int k, x, cs, bs => cs = [.int k x] ∧ (Lit.int k x).wf = true ∧ bs = []
  | .bool, x, cs, bs => cs = [.bool x] ∧ bs = []
  | .unit, _, cs, bs => cs = [] ∧ bs = []
  | .pair a b, x, cs, bs => ∃ b1 b2, Rd h a x.1 (cs.take a.size) b1 ∧ Rd h b x.2 (cs.drop a.size) b2 ∧ bs = b1 ++ b2
  | .arr n t, x, cs, bs => cs.length = n * t.size ∧ RdL (Rd h t) t.size (tlist n x) cs bs
  | .slice e t, x, cs, bs => ∃ hd blk bs', cs = [hd] ∧ SlR h e t.size (Rd h t) x hd blk bs' ∧ bs = blk.toList ++ bs'
theorem RdL.mono {α : Type} {R R' : α → List Value → List Nat → Prop} {n : Nat} : ∀ {l : List α} {cs : List Value} {bs : List Nat}, RdL R n l cs bs →
    (∀ x cs b, (∀ y ∈ b, y ∈ bs) → R x cs b → R' x cs b) → RdL R' n l cs bs
  | [], _, _, h, _ => h
  | x :: xs, cs, bs, ⟨b1, b2, h1, h2, h3⟩, hR => by
    subst h3
    exact ⟨b1, b2, hR _ _ _ (fun y hy => List.mem_append_left _ hy) h1, RdL.mono h2 (fun x cs b hb => hR x cs b (fun y hy => List.mem_append_right _ (hb y hy))), rfl⟩
theorem Rd.frame {h h' : Mem} : ∀ {t : Ty} {x : t.den} {cs : List Value} {bs : List Nat}, Rd h t x cs bs → (∀ b ∈ bs, h'[b]? = h[b]?) → Rd h' t x cs bs := by
  intro t
  induction t with
  | int k => intro x cs bs hr _; exact hr
  | bool => intro x cs bs hr _; exact hr
  | unit => intro x cs bs hr _; exact hr
  | pair a b iha ihb =>
    rintro x cs bs ⟨b1, b2, h1, h2, rfl⟩ hb
    exact ⟨b1, b2, iha h1 (fun y hy => hb y (List.mem_append_left _ hy)), ihb h2 (fun y hy => hb y (List.mem_append_right _ hy)), rfl⟩
  | arr n t ih =>
    rintro x cs bs ⟨hl, hr⟩ hb
    exact ⟨hl, hr.mono fun x cs b hm hx => ih hx fun y hy => hb y (hm y hy)⟩
  | slice e t ih =>
    rintro x cs bs ⟨hd, blk, bs', rfl, hs, rfl⟩ hb
    refine ⟨hd, blk, bs', rfl, ?_, rfl⟩
    rcases hs with hs | ⟨b, o, cap, c, fr, e1, e2, e3, e4, e5, e6⟩
    · exact .inl hs
    · subst e2
      refine .inr ⟨b, o, cap, c, fr, e1, rfl, e3, by rw [hb b (by simp)]; exact e4, e5, ?_⟩
      exact e6.mono fun x cs b hm hx => ih hx fun y hy => hb y (List.mem_append_right _ (hm y hy))
theorem SlR.frame {h h' : Mem} {e : TypeId} {t : Ty} {l : List t.den} {hd : Value} {blk : Option Nat} {bs : List Nat} (hs : SlR h e t.size (Rd h t) l hd blk bs)
    (hb : ∀ b ∈ bs, h'[b]? = h[b]?) (hk : ∀ b, blk = some b → h'[b]? = h[b]?) : SlR h' e t.size (Rd h' t) l hd blk bs := by
  rcases hs with hs | ⟨b, o, cap, c, fr, e1, e2, e3, e4, e5, e6⟩
  · exact .inl hs
  · subst e2
    exact .inr ⟨b, o, cap, c, fr, e1, rfl, e3, by rw [hk b rfl]; exact e4, e5, e6.mono fun x cs b hm hx => hx.frame fun y hy => hb y (hm y hy)⟩
theorem RdL.lt {α : Type} {N : Nat} {R : α → List Value → List Nat → Prop} (hR : ∀ x cs b, R x cs b → ∀ y ∈ b, y < N) {n : Nat} : ∀ {l : List α} {cs : List Value} {bs : List Nat}, RdL R n l cs bs → ∀ y ∈ bs, y < N
  | [], _, _, h => by rw [show _ = [] from h]; intro y hy; cases hy
  | x :: xs, cs, bs, ⟨b1, b2, h1, h2, h3⟩ => by
    subst h3; intro y hy
    rcases List.mem_append.1 hy with hy | hy
    · exact hR _ _ _ h1 y hy
    · exact RdL.lt hR h2 y hy
theorem Rd.lt {h : Mem} : ∀ {t : Ty} {x : t.den} {cs : List Value} {bs : List Nat}, Rd h t x cs bs → ∀ b ∈ bs, b < h.size := by
  intro t
  induction t with
  | int k => rintro x cs bs ⟨_, _, rfl⟩ b hb; cases hb
  | bool => rintro x cs bs ⟨_, rfl⟩ b hb; cases hb
  | unit => rintro x cs bs ⟨_, rfl⟩ b hb; cases hb
  | pair a b iha ihb =>
    rintro x cs bs ⟨b1, b2, h1, h2, rfl⟩ y hy
    rcases List.mem_append.1 hy with hy | hy
    · exact iha h1 y hy
    · exact ihb h2 y hy
  | arr n t ih => rintro x cs bs ⟨hl, hr⟩; exact hr.lt fun x cs b hx => ih hx
  | slice e t ih =>
    rintro x cs bs ⟨hd, blk, bs', rfl, hs, rfl⟩ y hy
    rcases hs with ⟨_, _, _, rfl, rfl⟩ | ⟨b, o, cap, c, fr, e1, e2, e3, ⟨e', e4⟩, e5, e6⟩
    · cases hy
    · subst e2
      rcases List.mem_append.1 hy with hy | hy
      · simp at hy; subst hy
        rcases Nat.lt_or_ge y h.size with hlt | hge
        · exact hlt
        · rw [Array.getElem?_eq_none hge] at e4; cases e4
      · exact e6.lt (fun x cs b hx => ih hx) y hy
theorem RdL.flat {α : Type} {R : α → List Value → List Nat → Prop} (hR : ∀ x cs b, R x cs b → b = []) {n : Nat} : ∀ {l : List α} {cs : List Value} {bs : List Nat}, RdL R n l cs bs → bs = []
  | [], _, _, h => h
  | x :: xs, cs, bs, ⟨b1, b2, h1, h2, h3⟩ => by rw [h3, hR _ _ _ h1, RdL.flat hR h2]; rfl
theorem Rd.flat {h : Mem} : ∀ {t : Ty}, t.flat = true → ∀ {x : t.den} {cs : List Value} {bs : List Nat}, Rd h t x cs bs → bs = [] := by
  intro t
  induction t with
  | int k => rintro _ x cs bs ⟨_, _, rfl⟩; rfl
  | bool => rintro _ x cs bs ⟨_, rfl⟩; rfl
  | unit => rintro _ x cs bs ⟨_, rfl⟩; rfl
  | pair a b iha ihb =>
    intro hf; simp [Ty.flat] at hf
    rintro x cs bs ⟨b1, b2, h1, h2, rfl⟩
    rw [iha hf.1 h1, ihb hf.2 h2]; rfl
  | arr n t ih => intro hf; simp [Ty.flat] at hf; rintro x cs bs ⟨hl, hr⟩; exact hr.flat fun x cs b hx => ih hf hx
  | slice e t ih => intro hf; simp [Ty.flat] at hf
theorem Rd.length {h : Mem} : ∀ {t : Ty} {x : t.den} {cs : List Value} {bs : List Nat}, Rd h t x cs bs → cs.length = t.size := by
  intro t
  induction t with
  | int k => rintro x cs bs ⟨rfl, _, _⟩; rfl
  | bool => rintro x cs bs ⟨rfl, _⟩; rfl
  | unit => rintro x cs bs ⟨rfl, _⟩; rfl
  | pair a b iha ihb =>
    rintro x cs bs ⟨b1, b2, h1, h2, rfl⟩
    have := iha h1; have := ihb h2; simp [Ty.size] at *; omega
  | arr n t ih => rintro x cs bs ⟨hl, hr⟩; exact hl
  | slice e t ih => rintro x cs bs ⟨hd, blk, bs', rfl, hs, rfl⟩; rfl
theorem RdL.get {α : Type} {R : α → List Value → List Nat → Prop} {n : Nat} : ∀ {l : List α} {cs : List Value} {bs : List Nat}, RdL R n l cs bs → ∀ {i : Nat} {x : α}, l[i]? = some x →
    ∃ b, R x ((cs.drop (i * n)).take n) b ∧ b.Sublist bs
  | [], _, _, _, i, x, hx => by cases hx
  | y :: ys, cs, bs, ⟨b1, b2, h1, h2, h3⟩, 0, x, hx => by
    subst h3; cases hx; exact ⟨b1, by simpa using h1, List.sublist_append_left _ _⟩
  | y :: ys, cs, bs, ⟨b1, b2, h1, h2, h3⟩, i + 1, x, hx => by
    subst h3
    obtain ⟨b, hb, hs⟩ := RdL.get h2 (i := i) (x := x) (by simpa using hx)
    refine ⟨b, ?_, hs.trans (List.sublist_append_right _ _)⟩
    rw [List.drop_drop] at hb
    rw [Nat.succ_mul, Nat.add_comm]; exact hb
theorem RdL.append {α : Type} {R : α → List Value → List Nat → Prop} {n : Nat} : ∀ {l l' : List α} {cs cs' : List Value} {bs bs' : List Nat}, RdL R n l cs bs → cs.length = l.length * n → RdL R n l' cs' bs' →
    RdL R n (l ++ l') (cs ++ cs') (bs ++ bs')
  | [], l', cs, cs', bs, bs', h, hl, h' => by
    obtain rfl : bs = [] := h
    obtain rfl : cs = [] := List.eq_nil_of_length_eq_zero (by simpa using hl)
    simpa using h'
  | x :: xs, l', cs, cs', bs, bs', ⟨b1, b2, h1, h2, h3⟩, hl, h' => by
    subst h3
    have hn : n ≤ cs.length := by rw [hl]; simp [Nat.succ_mul]
    refine ⟨b1, b2 ++ bs', by rw [List.take_append_of_le_length hn]; exact h1, ?_, by simp⟩
    rw [List.drop_append_of_le_length hn]
    exact RdL.append h2 (by simp [hl, Nat.succ_mul]) h'
theorem RdL.take {α : Type} {R : α → List Value → List Nat → Prop} {n : Nat} : ∀ {l : List α} {cs cs' : List Value} {bs : List Nat}, RdL R n l cs bs → (∀ j, j < l.length * n → cs'[j]? = cs[j]?) →
    RdL R n l cs' bs
  | [], cs, cs', bs, h, _ => h
  | x :: xs, cs, cs', bs, ⟨b1, b2, h1, h2, h3⟩, hc => by
    refine ⟨b1, b2, ?_, RdL.take h2 (fun j hj => ?_), h3⟩
    · have : cs'.take n = cs.take n := by
        apply List.ext_getElem?; intro j
        by_cases hj : j < n
        · rw [List.getElem?_take_of_lt hj, List.getElem?_take_of_lt hj]; exact hc j (by simp [Nat.succ_mul]; omega)
        · rw [List.getElem?_eq_none (by simp; omega), List.getElem?_eq_none (by simp; omega)]
      rw [this]; exact h1
    · simp only [List.getElem?_drop]; exact hc _ (by simp [Nat.succ_mul]; omega)
theorem RdL.set {α : Type} {R : α → List Value → List Nat → Prop} {n : Nat} {x : α} {new : List Value} (hn : new.length = n) :
    ∀ {l : List α} {cs cs' : List Value} {bs b : List Nat} {i : Nat}, RdL R n l cs bs → i < l.length → R x new b →
    (∀ j, cs'[j]? = if i * n ≤ j ∧ j < i * n + n then new[j - i * n]? else cs[j]?) →
    ∃ bs', RdL R n (l.set i x) cs' bs' ∧ (∀ y ∈ bs', y ∈ bs ∨ y ∈ b) ∧ (bs.Nodup → b.Nodup → (∀ y ∈ b, y ∉ bs) → bs'.Nodup)
  | [], _, _, _, _, _, _, h, _, _ => by simp at h
  | y :: ys, cs, cs', bs, b, 0, ⟨b1, b2, h1, h2, h3⟩, _, hx, hc => by
    subst h3
    refine ⟨b ++ b2, ⟨b, b2, ?_, ?_, rfl⟩, ?_, ?_⟩
    · have : cs'.take n = new := by
        apply List.ext_getElem?; intro j
        by_cases hj : j < n
        · rw [List.getElem?_take_of_lt hj, hc, if_pos (by omega)]; simp
        · rw [List.getElem?_eq_none (by simp; omega), List.getElem?_eq_none (by omega)]
      rw [this]; exact hx
    · refine RdL.take h2 fun j hj => ?_
      simp only [List.getElem?_drop]; rw [hc, if_neg (by omega)]
    · intro z hz; rcases List.mem_append.1 hz with hz | hz
      · exact .inr hz
      · exact .inl (List.mem_append_right _ hz)
    · intro n1 n2 n3
      have n1' := List.nodup_append.1 n1
      refine List.nodup_append.2 ⟨n2, n1'.2.1, fun u hu v hv e => n3 u hu (List.mem_append_right _ (e ▸ hv))⟩
  | y :: ys, cs, cs', bs, b, i + 1, ⟨b1, b2, h1, h2, h3⟩, hi, hx, hc => by
    subst h3
    obtain ⟨bs', r1, r2, r3⟩ := RdL.set (x := x) hn (cs' := cs'.drop n) (i := i) h2 (by simpa using hi) hx (fun j => by
      simp only [List.getElem?_drop]; rw [hc]
      simp only [Nat.succ_mul]
      by_cases hj : i * n ≤ j ∧ j < i * n + n
      · rw [if_pos (by omega), if_pos hj]; congr 1; omega
      · rw [if_neg (by omega), if_neg hj])
    refine ⟨b1 ++ bs', ⟨b1, bs', ?_, r1, rfl⟩, ?_, ?_⟩
    · have : cs'.take n = cs.take n := by
        apply List.ext_getElem?; intro j
        by_cases hj : j < n
        · rw [List.getElem?_take_of_lt hj, List.getElem?_take_of_lt hj, hc, if_neg (by simp only [Nat.succ_mul]; omega)]
        · rw [List.getElem?_eq_none (by simp; omega), List.getElem?_eq_none (by simp; omega)]
      rw [this]; exact h1
    · intro z hz; rcases List.mem_append.1 hz with hz | hz
      · exact .inl (List.mem_append_left _ hz)
      · rcases r2 z hz with hz | hz
        · exact .inl (List.mem_append_right _ hz)
        · exact .inr hz
    · intro n1 n2 n3
      have n1' := List.nodup_append.1 n1
      refine List.nodup_append.2 ⟨n1'.1, r3 n1'.2.1 n2 (fun u hu hv => n3 u hu (List.mem_append_right _ hv)), fun u hu v hv e => ?_⟩
      subst e
      rcases r2 u hv with hv | hv
      · exact n1'.2.2 u hu u hv rfl
      · exact n3 u hv (List.mem_append_left _ hu)
inductive Leaf where
  | fz (t : Ty) (reg : Nat) (lin : Bool) (v : t.den)
  | rt (e : TypeId) (t : Ty) (tag : Nat) (sub lin st : Bool) (v : List t.den)
abbrev Leaf.ty : Leaf → Ty
  | .fz t _ _ _ => t
  | .rt e t _ _ _ _ _ => .slice e t
abbrev Leaf.val : (l : Leaf) → l.ty.den
  | .fz _ _ _ v => v
  | .rt _ _ _ _ _ _ v => v
inductive PStep where
  | fld (j : Nat)
  | idx (i : Nat)
inductive Ent where
  | dead
  | val (agg : Bool) (ls : List Leaf)
  | lit (e : TypeId) (t : Ty) (parts : List (List Leaf))
  | box (ro : Bool) (ls : List Leaf)
  | ref (s base : Nat) (t : Ty) (p : List PStep)
  | eref (l : Leaf) (i : Nat) (p : List PStep)
  | fn (f : Nat) (caps : List Nat)
  | tup (ls : List (Bool × List Leaf))
  | mp (d : Nat) (kt vt : Ty) (m : List (kt.den × vt.den))
  | ment (d : Nat) (kt vt : Ty) (k : kt.den)
  | stamp (d : Nat) (kt vt : Ty) (k : kt.den)
  | it (b : Nat) (o : Obj)
abbrev Env := List (Nat × Ent)
def Env.get : Env → Nat → Ent
  | [], _ => .dead
  | (j, e) :: r, i => bif Nat.beq j i then e else Env.get r i
def Env.put : Env → Nat → Ent → Env
  | [], i, e => [(i, e)]
  | (j, x) :: r, i, e => bif Nat.beq j i then (i, e) :: r else bif Nat.blt i j then (i, e) :: (j, x) :: r else (j, x) :: Env.put r i e
def Env.puts (env : Env) : List (Nat × Ent) → Env
  | [] => env
  | (i, e) :: r => (env.put i e).puts r
def Env.map (f : Ent → Ent) : Env → Env
  | [] => []
  | (j, e) :: r => (j, f e) :: Env.map f r
def memN : List Nat → Nat → Bool
  | [], _ => false
  | x :: r, i => Nat.beq x i || memN r i
abbrev TTab := List (TypeId × Ty)
def tyOf : TTab → TypeId → Option Ty
  | [], _ => none
  | (j, t) :: r, i => bif Nat.beq j i then (bif isMapT t then none else some t) else tyOf r i
where
  /-- A row of the table that tells a map's type: its keys' and its elements'. -/
  isMapT : Ty → Bool
    | .pair (.arr _ .unit) (.arr _ .unit) => true
    | _ => false
def mapT (k e : TypeId) : Ty := .pair (.arr k .unit) (.arr e .unit)
def mapOf : TTab → TypeId → Option (TypeId × TypeId)
  | [], _ => none
  | (j, t) :: r, i => bif Nat.beq j i then (match t with | .pair (.arr k .unit) (.arr e .unit) => some (k, e) | _ => none) else mapOf r i
inductive PK where
  | v (t : Ty)
  | p (t : Ty)
  | fn (f : Nat)
  | m (kt vt : Ty)
abbrev PK.den : PK → Type
  | .v t | .p t => t.den
  | .fn _ => Unit
  | .m kt vt => List (kt.den × vt.den)
abbrev Args : List PK → Type
  | [] => Unit
  | t :: r => t.den × Args r
abbrev Ress : List Ty → Type
  | [] => Unit
  | t :: r => t.den × Ress r
structure Ctr where
  ps : List PK
  rs : List Ty
  fresh : Bool
  st : Bool
  inp : Nat
  f : Args ps → Option (Ress rs)
abbrev CTab := List (Nat × Ctr)
def ctr : CTab → Nat → Option Ctr
  | [], _ => none
  | (j, c) :: r, i => bif Nat.beq j i then some c else ctr r i
def tyP : Ty → List PStep → Option Ty
  | t, [] => some t
  | .pair a b, .fld 0 :: p => tyP a p
  | .pair a b, .fld (j + 1) :: p => tyP b (.fld j :: p)
  | .arr n t, .idx i :: p => tyP t p
  | _, _ => none
def poff : Ty → List PStep → Nat
  | _, [] => 0
  | .pair a b, .fld 0 :: p => poff a p
  | .pair a b, .fld (j + 1) :: p => a.size + poff b (.fld j :: p)
  | .arr n t, .idx i :: p => i * t.size + poff t p
  | _, _ => 0
def pin : Ty → List PStep → Prop
  | _, [] => True
  | .pair a b, .fld 0 :: p => pin a p
  | .pair a b, .fld (j + 1) :: p => pin b (.fld j :: p)
  | .arr n t, .idx i :: p => i < n ∧ pin t p
  | _, _ => False
def getP : (t : Ty) → t.den → List PStep → Option (Sigma Ty.den)
  | t, v, [] => some ⟨t, v⟩
  | .pair a b, v, .fld 0 :: p => getP a v.1 p
  | .pair a b, v, .fld (j + 1) :: p => getP b v.2 (.fld j :: p)
  | .arr n t, v, .idx i :: p => getP t (tget t.dflt n v i) p
  | _, _, _ => none
def setP : (t : Ty) → t.den → List PStep → (x : Ty) → x.den → Option t.den
  | t, v, [], x, y => Ty.cast t y
  | .pair a b, v, .fld 0 :: p, x, y => match setP a v.1 p x y with | some z => some (z, v.2) | none => none
  | .pair a b, v, .fld (j + 1) :: p, x, y => match setP b v.2 (.fld j :: p) x y with | some z => some (v.1, z) | none => none
  | .arr n t, v, .idx i :: p, x, y => match setP t (tget t.dflt n v i) p x y with | some z => some (tset z n v i) | none => none
  | _, _, _, _, _ => none
def Ty.isStruct : Ty → Bool
  | .unit | .pair _ _ => true
  | _ => false
def explode (reg : Nat) (lin : Bool) : (t : Ty) → t.den → List Leaf
  | .pair a b, v => .fz a reg lin v.1 :: explode reg lin b v.2
  | _, _ => []
def explodeNew (tag : Nat) (st : Bool) : (t : Ty) → t.den → Option (List Leaf)
  | .pair (.slice e a) b, v => match explodeNew (tag + 1) st b v.2 with | some r => some (.rt e a tag false true st v.1 :: r) | none => none
  | .pair a b, v => bif a.flat then (match explodeNew (tag + 1) st b v.2 with | some r => some (.fz a 0 false v.1 :: r) | none => none) else none
  | .unit, _ => some []
  | _, _ => none
def newLeaves (tag : Nat) (st : Bool) : (t : Ty) → t.den → Option (List Leaf)
  | .slice e a, v => some [.rt e a tag false true st v]
  | .pair a b, v => explodeNew tag st (.pair a b) v
  | .unit, v => explodeNew tag st .unit v
  | t, v => bif t.flat then some [.fz t 0 false v] else none
def valMany : (t : Ty) → List Leaf → Option t.den
  | .unit, [] => some ()
  | .pair a b, l :: ls => match Ty.cast a l.val, valMany b ls with | some x, some y => some (x, y) | _, _ => none
  | _, _ => none
def valAs (t : Ty) (ls : List Leaf) : Option t.den :=
  match ls with
  | [l] => bif l.ty.eqb t then Ty.cast t l.val else valMany t ls
  | _ => valMany t ls
def boxLeaves (t : Ty) (ls : List Leaf) : Option (List Leaf) :=
  match t, ls with
  | .pair a b, [.fz t' reg lin v] => match Ty.cast (.pair a b) v with
    | some y => bif (valMany (.pair a b) (explode reg lin (.pair a b) y)).isSome then some (explode reg lin (.pair a b) y) else none
    | none => bif (valMany (.pair a b) [.fz t' reg lin v]).isSome then some [.fz t' reg lin v] else none
  | .pair a b, ls => bif (valMany (.pair a b) ls).isSome then some ls else none
  | .unit, [] => some []
  | .unit, _ => none
  | t, [l] => bif l.ty.eqb t then some [l] else none
  | _, _ => none
def sizes : List Leaf → Nat
  | [] => 0
  | l :: r => l.ty.size + sizes r
def leafAt : List Leaf → Nat → Option (Nat × Leaf)
  | [], _ => none
  | l :: _, 0 => some (0, l)
  | l :: r, j + 1 => match leafAt r j with | some (o, x) => some (l.ty.size + o, x) | none => none
def leafOff : List Leaf → Nat → Option Leaf
  | [], _ => none
  | l :: r, o => bif Nat.beq o 0 then some l else bif Nat.blt o l.ty.size then none else leafOff r (o - l.ty.size)
def setOff : List Leaf → Nat → Leaf → List Leaf
  | [], _, _ => []
  | l :: r, o, x => bif Nat.beq o 0 then x :: r else l :: setOff r (o - l.ty.size) x
def Leaf.flatAt (l : Leaf) (p : List PStep) : Option Leaf :=
  match l, p with
  | l, [] => some l
  | .fz t reg lin v, p => match getP t v p with | some ⟨t', x⟩ => some (bif t'.flat then .fz t' 0 false x else .fz t' reg lin x) | none => none
  | _, _ => none
def mkfz (t : Ty) (reg : Nat) (lin : Bool) (v : t.den) : Leaf := bif t.flat then .fz t 0 false v else .fz t reg lin v
inductive OpRes where
  | ok (c : Bool) (ups : List (Nat × Ent))
  | callr (rs : List Ty) (x : Option (Ress rs)) (mk : Ress rs → List (Nat × Ent))
def OpRes.get : OpRes → Option (List (Nat × Ent))
  | .ok c ups => bif c then some ups else none
  | .callr _ x mk => match x with | some r => some (mk r) | none => none
def kwf (k : IntKind) (n : Int) : Bool := decide (k.min ≤ n) && decide (n ≤ k.max)
def intE (k : IntKind) (n : Int) : Ent := .val false [.fz (.int k) 0 false n]
def boolE (b : Bool) : Ent := .val false [.fz .bool 0 false b]
def opE (get : Nat → Ent) : Operand → Option Ent
  | .tmp t => some (get t)
  | .const (.int k n) => bif kwf k n then some (intE k n) else none
  | .const (.bool b) => some (boolE b)
  | .func f => some (.fn f [])
  | _ => none
def isNil : Operand → Bool
  | .const (.slice none 0 0) => true
  | _ => false
def Ent.movable : Ent → Bool
  | .val _ _ | .ref _ _ _ _ | .eref _ _ _ | .fn _ _ | .tup _ | .mp _ _ _ _ => true
  | _ => false
def asI (e : Ent) : Option (IntKind × Int) :=
  match e with
  | .val false [.fz (.int k) _ _ n] => some (k, n)
  | _ => none
def asB (e : Ent) : Option Bool :=
  match e with
  | .val false [.fz .bool _ _ b] => some b
  | _ => none
def Ty.eqd : (t : Ty) → t.den → t.den → Bool
  | .int _, a, b => decide (a = b)
  | .bool, a, b => a == b
  | .unit, _, _ => true
  | .pair s t, a, b => s.eqd a.1 b.1 && t.eqd a.2 b.2
  | .arr n t, a, b => eqT t.eqd n a b
  | .slice _ _, _, _ => false
where
  eqT {α : Type} (f : α → α → Bool) : (n : Nat) → Tup α n → Tup α n → Bool
    | 0, _, _ => true
    | n + 1, a, b => f a.1 b.1 && eqT f n a.2 b.2
def keyT : Ty → Bool
  | .arr _ (.int _) => true
  | .arr _ (.arr _ (.int _)) => true
  | _ => false
def elT : Ty → Bool
  | .int _ => true
  | .bool => true
  | _ => false
def mget (kt vt : Ty) : List (kt.den × vt.den) → kt.den → vt.den
  | [], _ => vt.dflt
  | p :: r, k => bif kt.eqd p.1 k then p.2 else mget kt vt r k
def arith (op : BinOp) (k : IntKind) (a b : Int) : Option (Bool × Ent) :=
  match op with
  | .add => some (true, intE k (k.wrap (a + b)))
  | .sub => some (true, intE k (k.wrap (a - b)))
  | .mul => some (true, intE k (k.wrap (a * b)))
  | .quo => some (!decide (b = 0), intE k (k.wrap (a.tdiv b)))
  | .rem => some (!decide (b = 0), intE k (a.tmod b))
  | .eql => some (true, boolE (decide (a = b)))
  | .neq => some (true, boolE (!decide (a = b)))
  | .lss => some (true, boolE (decide (a < b)))
  | .leq => some (true, boolE (decide (a ≤ b)))
  | .gtr => some (true, boolE (decide (b < a)))
  | .geq => some (true, boolE (decide (b ≤ a)))
  | _ => none
def Ty.dep : Ty → Nat
  | .pair a b => a.dep + 1 + b.dep
  | .arr _ t => t.dep + 1
  | _ => 1
def aggE (op : BinOp) (t : Ty) (ls ls' : List Leaf) : Option (Bool × Ent) :=
  bif t.flat && t.agg && Nat.ble t.dep 100 then (match valAs t ls, valAs t ls' with
    | some a, some b => (match op with | .eql => some (true, boolE (t.eqd a b)) | .neq => some (true, boolE (!(t.eqd a b))) | _ => none)
    | _, _ => none) else none
def binE (ty : Option Ty) (op : BinOp) (x y : Ent) : Option (Bool × Ent) :=
  match asI x, asI y with
  | some (k, a), some (k', b) => bif kEq k k' then arith op k a b else none
  | _, _ => match asB x, asB y, ty with
    | some a, some b, some .bool => (match op with | .eql => some (true, boolE (a == b)) | .neq => some (true, boolE (!(a == b))) | _ => none)
    | _, _, _ => match x, y, ty with
      | .val true ls, .val true ls', some t => aggE op t ls ls'
      | _, _, _ => none
def nilE (op : BinOp) (x : Ent) : Option Ent :=
  match x with
  | .val false [.rt _ _ _ _ _ true v] => match op with | .eql => some (boolE v.isEmpty) | .neq => some (boolE (!v.isEmpty)) | _ => none
  | _ => none
def unE (op : UnOp) (x : Ent) : Option Ent :=
  match op, x with
  | .not, .val false [.fz .bool _ _ b] => some (boolE (!b))
  | .neg, .val false [.fz (.int k) _ _ a] => some (intE k (k.wrap (-a)))
  | _, _ => none
def elemL (l : Leaf) (i : Nat) : Option Leaf :=
  match l with
  | .fz (.slice _ t) reg lin v => some (mkfz t reg lin (v.getD i t.dflt))
  | .rt _ t tag _ lin _ v => some (mkfz t (bif lin then tag else 0) lin (v.getD i t.dflt))
  | _ => none
def lenL (l : Leaf) : Option Nat :=
  match l with
  | .fz (.slice _ _) _ _ v => some v.length
  | .rt _ _ _ _ _ _ v => some v.length
  | _ => none
def loadE (get : Nat → Ent) (ty : Ty) (x : Operand) (e : Ent) : Option Ent :=
  match e with
  | .box _ ls => match x with
    | .tmp s => bif (valAs ty ls).isSome then some (.val ty.agg ls) else none
    | _ => none
  | .ref s base t p => match get s with
    | .box _ ls => match leafOff ls base with
      | some l => bif l.ty.eqb t then (match l.flatAt p with | some l' => bif l'.ty.eqb ty then some (.val ty.agg [l']) else none | none => none) else none
      | none => none
    | _ => none
  | .eref l i p => match elemL l i with
    | some l1 => match l1.flatAt p with | some l' => bif l'.ty.eqb ty then some (.val ty.agg [l']) else none | none => none
    | none => none
  | _ => none
def tyIs (t : Ty) (p : List PStep) (u : Ty) : Bool := match tyP t p with | some t' => t'.eqb u | none => false
def elemTy : Leaf → Ty
  | .fz (.slice _ t) _ _ _ => t
  | .rt _ t _ _ _ _ _ => t
  | _ => .unit
def fieldE (ty : Ty) (x : Operand) (e : Ent) (f : Nat) : Option Ent :=
  bif ty.isStruct && (tyP ty [.fld f]).isSome then (match e with
  | .box _ ls => match x with
    | .tmp s => bif (valMany ty ls).isSome then (match leafAt ls f with | some (o, l) => some (.ref s o l.ty []) | none => none) else none
    | _ => none
  | .ref s base t p => bif tyIs t p ty then some (.ref s base t (p ++ [.fld f])) else none
  | .eref l i p => bif tyIs (elemTy l) p ty then some (.eref l i (p ++ [.fld f])) else none
  | _ => none) else none
def fieldV (ty : Ty) (e : Ent) (f : Nat) : Option Ent :=
  match e with
  | .val true ls => match boxLeaves ty ls with
    | some ls' => bif ty.isStruct && (valMany ty ls').isSome then (match leafAt ls' f with | some ol => some (.val ol.2.ty.agg [ol.2]) | none => none) else none
    | none => none
  | _ => none
def indexE (ty : Ty) (x : Operand) (e : Ent) (i : Int) : Option (Bool × Ent) :=
  match ty with
  | .arr n t => match e with
    | .box _ [l] => match x with
      | .tmp s => bif l.ty.eqb (.arr n t) then some (decide (0 ≤ i) && decide (i < n), .ref s 0 (.arr n t) [.idx i.toNat]) else none
      | _ => none
    | .ref s base t0 p => bif tyIs t0 p (.arr n t) then some (decide (0 ≤ i) && decide (i < n), .ref s base t0 (p ++ [.idx i.toNat])) else none
    | .eref l j p => bif tyIs (elemTy l) p (.arr n t) then some (decide (0 ≤ i) && decide (i < n), .eref l j (p ++ [.idx i.toNat])) else none
    | _ => none
  | .slice e' t => match e with
    | .val false [l] => bif l.ty.eqb (.slice e' t) then (match lenL l with | some n => some (decide (0 ≤ i) && decide (i < n), .eref l i.toNat []) | none => none) else none
    | _ => none
  | _ => none
def sliceL (l : Leaf) (lo hi : Nat) : Option Leaf :=
  match l with
  | .fz (.slice e t) reg lin v => some (.fz (.slice e t) reg lin ((v.take hi).drop lo))
  | .rt e t tag _ lin _ v => some (.rt e t tag true lin false ((v.take hi).drop lo))
  | _ => none
def lo0 : Option Int → Int
  | some b => b
  | none => 0
def hi0 (n : Nat) : Option Int → Int
  | some h => h
  | none => n
def sliceE (ty : Ty) (e : Ent) (lo hi : Option Int) : Option (Bool × Ent) :=
  match e with
  | .val false [l] => bif l.ty.eqb ty then (match lenL l with
    | some n => match sliceL l (lo0 lo).toNat (hi0 n hi).toNat with
      | some l' => some (decide (0 ≤ lo0 lo) && decide (lo0 lo ≤ hi0 n hi) && decide (hi0 n hi ≤ n), .val false [l'])
      | none => none
    | none => none) else none
  | _ => none
def optI (get : Nat → Ent) : Option Operand → Option (Option Int)
  | none => some none
  | some x => match opE get x with | some e => (match asI e with | some (_, n) => some (some n) | none => none) | none => none
def fillS (ls : List Leaf) : List (Nat × Ent) → Option (List Leaf)
  | [] => some ls
  | (i, e) :: r => match e with
    | .val _ xs => match leafAt ls i with
      | some (_, l) =>
        match xs with
        | [x] => bif x.ty.eqb l.ty then fillS (ls.set i x) r else none
        | _ => bif l.ty.flat then (match valAs l.ty xs with | some y => fillS (ls.set i (.fz l.ty 0 false y)) r | none => none) else none
      | none => none
    | _ => none
def fillA (n : Nat) (t : Ty) (v : Tup t.den n) : List (Nat × Ent) → Option (Tup t.den n)
  | [] => some v
  | (i, e) :: r => match e with
    | .val _ xs => bif Nat.blt i n then (match valAs t xs with | some y => fillA n t (tset y n v i) r | none => none) else none
    | _ => none
def partEs (get : Nat → Ent) : List (Nat × Operand) → Option (List (Nat × Ent))
  | [] => some []
  | (i, x) :: r => match opE get x, partEs get r with | some e, some l => some ((i, e) :: l) | _, _ => none
def buildE (d : Nat) (ty : Ty) (ps : List (Nat × Ent)) : Option Ent :=
  match ty with
  | .arr n t => bif t.flat then (match fillA n t (tup t.den t.dflt n) ps with | some v => some (.val true [.fz (.arr n t) 0 false v]) | none => none) else none
  | .pair a b => match explodeNew (d * 16 + 1) true (.pair a b) (Ty.dflt (.pair a b)) with
    | some ls => (match fillS ls ps with | some ls' => some (.val true ls') | none => none)
    | none => none
  | _ => none
def listOf (t : Ty) : Nat → List (Nat × Ent) → Option (List t.den)
  | _, [] => some []
  | j, (i, e) :: r => match e with
    | .val _ xs => bif Nat.beq i j then (match valAs t xs, listOf t (j + 1) r with | some y, some l => some (y :: l) | _, _ => none) else none
    | _ => none
def partsOf : Nat → List (Nat × Ent) → Option (List (List Leaf))
  | _, [] => some []
  | j, (i, e) :: r => match e with
    | .val _ xs => bif Nat.beq i j then (match partsOf (j + 1) r with | some l => some (xs :: l) | none => none) else none
    | _ => none
def buildSliceE (d : Nat) (ty : Ty) (len : Nat) (ps : List (Nat × Ent)) : Option Ent :=
  match ty with
  | .slice e t => bif Nat.beq len ps.length && Nat.blt (len * t.size) 16777216 then (match listOf t 0 ps with
    | some l => bif t.flat || Nat.beq len 0 then some (.val false [.rt e t (d * 16 + 1) false true (Nat.blt 0 len) l])
      else (match partsOf 0 ps with | some pp => some (.lit e t pp) | none => none)
    | none => none) else none
  | _ => none
def mapKey (T : TTab) (t : TypeId) (x k : Ent) : Option (Sigma fun (d : Nat) => Sigma fun (kt : Ty) => Sigma fun (vt : Ty) => List (kt.den × vt.den) × kt.den) :=
  match mapOf T t, x, k with
  | some (kT, eT), .mp d kt vt m, .val true ls => (match tyOf T kT, tyOf T eT, valAs kt ls with
    | some kt', some vt', some kv => bif kt'.eqb kt && vt'.eqb vt then some ⟨d, kt, vt, m, kv⟩ else none
    | _, _, _ => none)
  | _, _, _ => none
def castMap {a b : Ty} (c d : Ty) (m : List (a.den × b.den)) : Option (List (c.den × d.den)) :=
  if h : (a.eqb c && b.eqb d) = true then some (Ty.eq_of_eqb ((Bool.and_eq_true _ _).mp h).1 ▸ Ty.eq_of_eqb ((Bool.and_eq_true _ _).mp h).2 ▸ m) else none
def argE : (k : PK) → Ent → Option k.den
  | .v t, .val agg ls => bif (agg && t.agg) || (!agg && !t.agg) then valAs t ls else none
  | .v (.slice e t), .lit e' t' pp => bif (Ty.slice e' t').eqb (.slice e t) then litVal t pp else none
  | .p t, .box _ ls => valAs t ls
  | .fn f, .fn g [] => bif Nat.beq f g then some () else none
  | .m kt vt, .mp _ _ _ m => castMap kt vt m
  | _, _ => none
where
  litVal (t : Ty) : List (List Leaf) → Option (List t.den)
    | [] => some []
    | ls :: r => match valAs t ls, litVal t r with | some x, some y => some (x :: y) | _, _ => none
def argsE : (ps : List PK) → List Ent → Option (Args ps)
  | [], [] => some ()
  | k :: ks, e :: es => match argE k e, argsE ks es with | some x, some y => some (x, y) | _, _ => none
  | _, _ => none
def operEs (get : Nat → Ent) : List Operand → Option (List Ent)
  | [] => some []
  | x :: r => match opE get x, operEs get r with | some e, some l => some (e :: l) | _, _ => none
def isSlice : Ty → Bool
  | .slice _ _ => true
  | _ => false
def resLeaves (fresh st : Bool) (tag : Nat) (t : Ty) (v : t.den) : List Leaf :=
  bif fresh then (match newLeaves tag (st && isSlice t) t v with | some ls => ls | none => [mkfz t 0 false v]) else [mkfz t 0 false v]
def resTup (fresh st : Bool) : Nat → (rs : List Ty) → Ress rs → List (Bool × List Leaf)
  | _, [], _ => []
  | tag, t :: rs, r => (t.agg, resLeaves fresh st tag t r.1) :: resTup fresh st (tag + 4) rs r.2
def resE (fresh st : Bool) (tag : Nat) : (rs : List Ty) → Ress rs → Ent
  | [], _ => .tup []
  | [t], r => .val t.agg (resLeaves fresh st tag t r.1)
  | t :: t' :: rs, r => .tup (resTup fresh st tag (t :: t' :: rs) r)
def flatPK : PK → Bool
  | .v t => t.flat
  | _ => false
def resFT : (rs : List Ty) → Ress rs → List (Bool × List Leaf)
  | [], _ => []
  | t :: rs, r => (t.agg, [mkfz t 0 true r.1]) :: resFT rs r.2
def resF : (rs : List Ty) → Ress rs → Ent
  | [], _ => .tup []
  | [t], r => .val t.agg [mkfz t 0 true r.1]
  | t :: t' :: rs, r => .tup (resFT (t :: t' :: rs) r)
def tagRoom : List Ty → Bool
  | [] => true
  | [t] => Nat.ble (width t) 14
  | rs => Nat.ble rs.length 3 && rs.all (fun t => Nat.ble (width t) 4)
where
  width : Ty → Nat
    | .pair _ b => 1 + width b
    | _ => 1
def frozenE : Ent → Bool
  | .val _ ls => ls.all fun l => match l with | .fz _ _ _ _ => true | _ => false
  | .box _ ls => ls.all fun l => match l with | .fz _ _ _ _ => true | _ => false
  | .fn _ _ => true
  | _ => false
def callE (K : CTab) (d : Option Nat) (f : Nat) (es : List Ent) : Option OpRes :=
  match ctr K f with
  | none => none
  | some C => match argsE C.ps es with
    | none => none
    | some a => bif Nat.beq C.inp 0 && tagRoom C.rs && (C.fresh || C.rs.all Ty.flat || es.all frozenE) then some (.callr C.rs (C.f a) fun r => match d with | some d => [(d, bif !C.fresh && C.ps.all flatPK then resF C.rs r else resE C.fresh C.st (d * 16 + 1) C.rs r)] | none => []) else none
def isBox : Ent → Bool
  | .box _ _ => true
  | _ => false
def storeP (l : Leaf) (p : List PStep) (xs : List Leaf) : Option Leaf :=
  match p with
  | [] => match xs with
    | [x] => bif x.ty.eqb l.ty then some x else none
    | _ => bif l.ty.flat then (match valAs l.ty xs with | some y => some (.fz l.ty 0 false y) | none => none) else none
  | p => match l with
    | .fz t _ _ v => bif t.flat then (match tyP t p with
      | some tx => (match valAs tx xs with
        | some y => (match setP t v p tx y with | some v' => some (.fz t 0 false v') | none => none)
        | none => none)
      | none => none) else none
    | _ => none
def ok1 (d : Option Nat) (c : Bool) (e : Ent) : Option OpRes := match d with | some d => some (.ok c [(d, e)]) | none => none
def pickE (c a b : Ent) : Option (Bool × Ent) :=
  match asB c with
  | none => none
  | some cv => match a, b with
    | .val false [.fz .bool _ _ x], .val false [.fz .bool _ _ y] => some (true, boolE (bif cv then x else y))
    | .dead, .val false [.fz .bool _ _ y] => some (!cv, boolE y)
    | .val false [.fz .bool _ _ x], .dead => some (cv, boolE x)
    | .tup [], .val false [.fz .bool _ _ y] => some (!cv, boolE y)
    | .val false [.fz .bool _ _ x], .tup [] => some (cv, boolE x)
    | _, _ => none
def minmax (b : Builtin) (x y : Ent) : Option Ent :=
  match asI x, asI y with
  | some (k, m), some (k', n) => bif kEq k k' then (match b with | .min => some (intE k (bif decide (n < m) then n else m)) | .max => some (intE k (bif decide (m < n) then n else m)) | _ => none) else none
  | _, _ => none
def sameTys : List Leaf → List Leaf → Bool
  | [], [] => true
  | a :: r, b :: r' => a.ty.eqb b.ty && sameTys r r'
  | _, _ => false
def storeE (get : Nat → Ent) (ty : Ty) (s : Nat) (xs : List Leaf) : Option (List (Nat × Ent)) :=
  match get s with
  | .box false ls => (match boxLeaves ty xs with | some ls' => bif sameTys ls ls' then some [(s, .box false ls')] else none | none => none)
  | .ref b base t0 p => (match get b with
    | .box false ls => (match leafOff ls base with
      | some l => bif l.ty.eqb t0 && tyIs t0 p ty then (match storeP l p xs with | some l' => some [(b, .box false (setOff ls base l'))] | none => none) else none
      | none => none)
    | _ => none)
  | _ => none
def evOp (T : TTab) (K : CTab) (get : Nat → Ent) (o : Oper) : Option OpRes :=
  match o.op with
  | .move x | .assign x =>
    bif isNil x then (match o.dst, tyOf T o.type with
      | some d, some (.slice e t) => some (.ok true [(d, .val false [.rt e t (d * 16 + 1) false true true []])])
      | _, _ => none)
    else (match opE get x with | some e => bif e.movable then ok1 o.dst true e else none | none => none)
  | .pick c a b => match opE get c, opE get a, opE get b with
    | some c, some a, some b => (match pickE c a b with | some (c, e) => ok1 o.dst c e | none => none)
    | _, _, _ => none
  | .alloc t => match o.dst, tyOf T t with
    | some d, some ty => bif tagRoom [ty] then (match newLeaves (d * 16 + 1) true ty ty.dflt with | some ls => some (.ok true [(d, .box false ls)]) | none => none) else none
    | _, _ => none
  | .box t x => match o.dst, tyOf T t, opE get x with
    | some d, some ty, some (.val _ ls) => (match boxLeaves ty ls with | some ls' => some (.ok true [(d, .box false ls')]) | none => none)
    | _, _, _ => none
  | .build t ps => match o.dst, tyOf T t, partEs get ps.toList with
    | some d, some ty, some es => bif tagRoom [ty] then (match buildE d ty es with | some e => some (.ok true [(d, e)]) | none => none) else none
    | _, _, _ => none
  | .buildSlice t len ps => match o.dst, tyOf T t, partEs get ps.toList with
    | some d, some ty, some es => (match buildSliceE d ty len es with | some e => some (.ok true [(d, e)]) | none => none)
    | _, _, _ => none
  | .load t x => match tyOf T t, opE get x with
    | some ty, some e => (match loadE get ty x e with | some r => ok1 o.dst true r | none => none)
    | _, _ => none
  | .fieldAddr t x f => match tyOf T t, opE get x with
    | some ty, some e => (match fieldE ty x e f with | some r => ok1 o.dst true r | none => none)
    | _, _ => none
  | .field t x f => match tyOf T t, opE get x with
    | some ty, some e => (match fieldV ty e f with | some r => ok1 o.dst true r | none => none)
    | _, _ => none
  | .indexAddr t x ix => match tyOf T t, opE get x, opE get ix with
    | some ty, some e, some ie => (match asI ie with
      | some (_, i) => (match indexE ty x e i with | some (c, r) => ok1 o.dst c r | none => none)
      | none => none)
    | _, _, _ => none
  | .binOp op t x y _ =>
    bif isNil y then (match opE get x, tyOf T t with | some e, some (.slice _ _) => (match nilE op e with | some r => ok1 o.dst true r | none => none) | _, _ => none)
    else (match opE get x, opE get y with
      | some a, some b => (match binE (tyOf T t) op a b with | some (c, r) => ok1 o.dst c r | none => none)
      | _, _ => none)
  | .unOp op _ x => match opE get x with
    | some e => (match unE op e with | some r => ok1 o.dst true r | none => none)
    | none => none
  | .convert s t x => match tyOf T s, tyOf T t, opE get x with
    | some (.int _), some (.int k), some e => (match asI e with | some (_, n) => ok1 o.dst true (intE k (k.wrap n)) | none => none)
    | _, _, _ => none
  | .makeMap t none => match o.dst, mapOf T t with
    | some d, some (kT, eT) => (match tyOf T kT, tyOf T eT with
      | some kt, some vt => bif keyT kt && elT vt then some (.ok true [(d, .mp d kt vt [])]) else none
      | _, _ => none)
    | _, _ => none
  | .lookup t x k false => match opE get x, opE get k with
    | some e, some ek => (match mapKey T t e ek with | some ⟨_, kt, vt, m, kv⟩ => ok1 o.dst true (.val vt.agg [.fz vt 0 false (mget kt vt m kv)]) | none => none)
    | _, _ => none
  | .mapEntry t x k => match o.dst, opE get x, opE get k with
    | some dd, some e, some ek => (match mapKey T t e ek with | some ⟨d, kt, vt, _, kv⟩ => some (.ok true [(dd, .ment d kt vt kv)]) | none => none)
    | _, _, _ => none
  | .extract x i => match opE get x with
    | some (.ment d kt vt k) => bif Nat.beq i 1 then ok1 o.dst true (.stamp d kt vt k) else none
    | some (.tup ls) => (match ls[i]? with | some (g, l) => ok1 o.dst true (.val g l) | none => none)
    | _ => none
  | .slice t x lo hi mx => match tyOf T t, opE get x, optI get lo, optI get hi, mx with
    | some (.slice e' t'), some e, some lo, some hi, none => (match sliceE (.slice e' t') e lo hi with | some (c, r) => ok1 o.dst c r | none => none)
    | _, _, _, _, _ => none
  | .makeSlice t l c => match o.dst, tyOf T t, opE get l, opE get c with
    | some d, some (.slice e t), some le, some ce => (match asI le, asI ce with
      | some (_, n), some (_, m) => some (.ok (decide (0 ≤ n) && decide (n ≤ 1099511627776) && decide (n = m)) [(d, .val false [.rt e t (d * 16 + 1) false true false (List.replicate n.toNat t.dflt)])])
      | _, _ => none)
    | _, _, _, _ => none
  | .makeFunc (.func f) fi ca => bif Nat.beq fi.size 0 then (match capsOf get ca.toList with | some cs => ok1 o.dst true (.fn f cs) | none => none) else none
  | .call c => match c.callee with
    | .builtin .len => (match c.argTypes.toList, operEs get c.args.toList with
      | [t], some [.val false [l]] => (match tyOf T t, lenL l with | some (.slice _ _), some n => ok1 o.dst (decide (n ≤ 9223372036854775807)) (intE .i64 n) | _, _ => none)
      | _, _ => none)
    | .builtin .min => (match operEs get c.args.toList with
      | some [x, y] => (match minmax .min x y with | some r => ok1 o.dst true r | none => none)
      | _ => none)
    | .builtin .max => (match operEs get c.args.toList with
      | some [x, y] => (match minmax .max x y with | some r => ok1 o.dst true r | none => none)
      | _ => none)
    | .value f => (match opE get f, operEs get c.args.toList with
      | some (.fn f caps), some es => bif caps.all fun s => isBox (get s) then callE K o.dst f (es ++ caps.map get) else none
      | _, _ => none)
    | _ => none
  | .store t a x => match tyOf T t, a, opE get x, o.dst with
    | some ty, .tmp s, some (.val _ xs), none => (match storeE get ty s xs with | some ups => some (.ok true ups) | none => none)
    | _, _, _, _ => none
  | _ => none
where
  capsOf (get : Nat → Ent) : List Operand → Option (List Nat)
    | [] => some []
    | .tmp s :: r => bif isBox (get s) then (match capsOf get r with | some l => some (s :: l) | none => none) else none
    | _ => none
def creates (o : Oper) : Bool :=
  match o.op with
  | .move x | .assign x => isNil x
  | .alloc _ | .box _ _ | .build _ _ | .buildSlice _ _ _ | .makeSlice _ _ _ | .makeMap _ _ | .mapEntry _ _ _ => true
  | .call c => match c.callee with | .value _ => true | _ => false
  | _ => false
def slotsOf : List Operand → List Nat
  | [] => []
  | .tmp t :: r => t :: slotsOf r
  | _ :: r => slotsOf r
def refOf : Ent → List Nat
  | .ref s _ _ _ => [s]
  | .fn _ caps => caps
  | _ => []
def readsOf (get : Nat → Ent) (o : Oper) : List Nat :=
  let l := slotsOf o.op.operands.toList
  l ++ l.flatMap fun s => refOf (get s)
inductive BK where
  | fz
  | no
  | mu (tag : Nat)
  | bx (slot : Nat)
structure Gh where
  kd : Nat → BK
  own : Nat → Nat
  H : Nat → Value
  bx : Nat → Nat
  al : Nat → Prop
  /-- The types of the keys and elements of the map made at a slot. -/
  mt : Nat → Ty × Ty
def LinOk (g : Gh) (reg : Nat) (bs : List Nat) : Prop := (reg ≠ 0 → bs.Nodup) ∧ (reg = 0 → ∀ b ∈ bs, g.own b = 0)
theorem LinOk.sub {g : Gh} {reg : Nat} {bs bs' : List Nat} (h : LinOk g reg bs) (s : bs'.Sublist bs) : LinOk g reg bs' := ⟨fun q => (h.1 q).sublist s, fun q b hb => h.2 q b (s.subset hb)⟩
theorem LinOk.nil {g : Gh} {reg : Nat} : LinOk g reg [] := ⟨fun _ => List.nodup_nil, fun _ b hb => by cases hb⟩
theorem LinOk.re {g g' : Gh} {reg : Nat} {bs : List Nat} (h : LinOk g reg bs) (ho : ∀ b ∈ bs, g'.own b = g.own b) : LinOk g' reg bs := ⟨h.1, fun q b hb => (ho b hb).trans (h.2 q b hb)⟩
theorem LinOk.of {g : Gh} {reg : Nat} {bs : List Nat} (h : reg ≠ 0) (n : bs.Nodup) : LinOk g reg bs := ⟨fun _ => n, fun q => absurd q h⟩
def LeafB (g : Gh) (h : Mem) : Leaf → List Value → List Nat → Prop
  | .fz t reg lin v, cs, bs => Rd h t v cs bs ∧ (∀ b ∈ bs, g.kd b = .fz) ∧ (reg ≠ 0 → ∀ b ∈ bs, g.own b = reg) ∧ (lin = true → LinOk g reg bs)
  | .rt e t tag sub lin st v, cs, bs => ∃ hd blk bs', cs = [hd] ∧ bs = blk.toList ++ bs' ∧ (sub = false → hd = g.H tag) ∧ (st = true → (hd = .slice none 0 0 ↔ v = [])) ∧
      SlR h e t.size (Rd h t) v hd blk bs' ∧ (∀ b ∈ bs', g.kd b = .fz) ∧ (∀ b, blk = some b → g.kd b = .mu tag ∧ g.own b = tag ∧ ∃ c e', h[b]? = some (.cells c e' (0, 0))) ∧
      (lin = true → (∀ b ∈ bs', g.own b = tag) ∧ bs'.Nodup)
def LeavesB (g : Gh) (h : Mem) : List Leaf → List Value → List Nat → Prop
  | [], cs, bs => cs = [] ∧ bs = []
  | l :: r, cs, bs => ∃ b1 b2, LeafB g h l (cs.take l.ty.size) b1 ∧ LeavesB g h r (cs.drop l.ty.size) b2 ∧ bs = b1 ++ b2
def PartsB (g : Gh) (h : Mem) (n : Nat) : List (List Leaf) → List Value → List Nat → Prop
  | [], cs, bs => cs = [] ∧ bs = []
  | ls :: r, cs, bs => ∃ b1 b2, LeavesB g h ls (cs.take n) b1 ∧ PartsB g h n r (cs.drop n) b2 ∧ bs = b1 ++ b2
def ValR (g : Gh) (h : Mem) (agg : Bool) (ls : List Leaf) (v : Value) : Prop :=
  ∃ cs bs, (v = bif agg then .agg cs.toArray else cs.headD undef) ∧ (agg = false → cs.length = 1 ∧ v.cells = #[v]) ∧ LeavesB g h ls cs bs
def Vk (t : Ty) (x : t.den) (v : Value) : Prop := Rd #[] t x v.cells.toList [] ∧ (t.agg = true → v = .agg v.cells) ∧ (t.agg = false → v.cells = #[v])
structure MapR (kt vt : Ty) (es : List MapEntry) (c : Nat) (m : List (kt.den × vt.den)) : Prop where
  ent : ∀ e ∈ es, ∃ k, Vk kt k e.key ∧ Vk vt (mget kt vt m k) e.val
  none : ∀ k : kt.den, (∀ e ∈ es, ¬ Vk kt k e.key) → mget kt vt m k = vt.dflt
  dist : es.Pairwise fun a b => ∀ k, Vk kt k a.key → ¬ Vk kt k b.key
  born : ∀ e ∈ es, e.born < c
  bdist : es.Pairwise fun a b => a.born ≠ b.born
  flat : keyT kt = true ∧ elT vt = true
def MapAt (g : Gh) (h : Mem) (d : Nat) (kt vt : Ty) (m : List (kt.den × vt.den)) : Prop :=
  ∃ es c, h[g.bx d]? = some (.map es c) ∧ g.kd (g.bx d) = .bx d ∧ g.mt d = (kt, vt) ∧ MapR kt vt es.toList c m
def StampR (g : Gh) (h : Mem) (d : Nat) (kt vt : Ty) (k : kt.den) (n : Int) : Prop :=
  ∃ es c e, h[g.bx d]? = some (.map es c) ∧ g.kd (g.bx d) = .bx d ∧ g.mt d = (kt, vt) ∧ e ∈ es.toList ∧ (e.born : Int) = n ∧ Vk kt k e.key
def MapMore (kt vt : Ty) (o o' : Option Obj) : Prop :=
  ∃ es c es' c', o = some (.map es c) ∧ o' = some (.map es' c') ∧ (∀ m, MapR kt vt es.toList c m → MapR kt vt es'.toList c' m) ∧ ∀ e ∈ es.toList, e ∈ es'.toList
def ValsR (g : Gh) (h : Mem) : List (Bool × List Leaf) → List Value → Prop
  | [], vs => vs = []
  | (agg, ls) :: r, vs => ∃ v vs', vs = v :: vs' ∧ ValR g h agg ls v ∧ ValsR g h r vs'
def ItR (g : Gh) (h : Mem) (b : Nat) (o : Obj) : Prop := h[b]? = some o ∧ (∃ m s l c, o = .mapIter m s l c) ∧ g.kd b = .fz ∧ g.own b = 0
def EntR (g : Gh) (h : Mem) (s : Nat) : Ent → Value → Prop
  | .dead, _ => True
  | .val agg ls, v => ValR g h agg ls v
  | .lit e t pp, v => ∃ b c bs, v = .slice (some ⟨b, 0, none⟩) pp.length pp.length ∧ h[b]? = some (.cells c e (0, 0)) ∧ c.size = pp.length * t.size ∧ g.kd b = .mu (s * 16 + 1) ∧ g.own b = s * 16 + 1 ∧
      PartsB g h t.size pp c.toList bs ∧ 0 < pp.length
  | .box ro ls, v => ∃ b c e fr bs, v = .pointer (some ⟨b, 0, none⟩) ∧ h[b]? = some (.cells c e fr) ∧ LeavesB g h ls c.toList bs ∧ g.bx s = b ∧
      (ro = false → g.kd b = .bx s ∧ fr = (0, 0)) ∧ (ro = true → g.kd b = .fz ∨ g.kd b = .no)
  | .ref s' base t p, v => pin t p ∧ v = .pointer (some ⟨g.bx s', base + poff t p, none⟩)
  | .eref l i p, v => ∃ bs b o n cap, LeafB g h l [.slice (some ⟨b, o, none⟩) n cap] bs ∧ lenL l = some n ∧ i < n ∧ pin (elemTy l) p ∧
      v = .pointer (some ⟨b, o + i * (elemTy l).size + poff (elemTy l) p, none⟩)
  | .fn f caps, v => v = .func (.func f) #[] (caps.map fun s => Value.pointer (some ⟨g.bx s, 0, none⟩)).toArray
  | .tup ls, v => ∃ vs, v = .tuple vs ∧ ValsR g h ls vs.toList
  | .mp d kt vt m, v => v = .map (some (g.bx d)) ∧ MapAt g h d kt vt m
  | .ment d kt vt k, v => ∃ x n, v = .tuple #[x, .int .i64 n] ∧ StampR g h d kt vt k n
  | .stamp d kt vt k, v => ∃ n, v = .int .i64 n ∧ StampR g h d kt vt k n
  | .it b o, v => v = .pointer (some ⟨b, 0, none⟩) ∧ ItR g h b o
structure Inv (g : Gh) (h0 h : Mem) (W : Nat → Prop) : Prop where
  size : h0.size ≤ h.size
  old : ∀ b, b < h0.size → ¬ W b → h[b]? = h0[b]?
  kd : ∀ b, g.kd b = .fz ∨ g.kd b = .no ∨ (b < h.size ∧ (h0.size ≤ b ∨ W b))
  no : ∀ b, g.kd b = .no → b < h0.size
  al : ∀ b, g.kd b = .fz → h0.size ≤ b ∨ g.al b
  own : ∀ b, g.own b ≠ 0 → b < h.size ∧ (h0.size ≤ b ∨ W b)
  wr : ∀ b, g.own b ≠ 0 → ∃ c e, h[b]? = some (.cells c e (0, 0))
def tagAt (d tag : Nat) : Bool := !(Nat.beq tag 0) && Nat.beq (tag / 16) d
def Leaf.at (d : Nat) : Leaf → Bool
  | .fz _ reg _ _ => tagAt d reg
  | .rt _ _ tag _ _ _ _ => tagAt d tag
def Ent.at (d : Nat) : Ent → Bool
  | .dead => false
  | .val _ ls => ls.any (Leaf.at d)
  | .lit _ _ pp => pp.any fun ls => ls.any (Leaf.at d)
  | .box _ ls => ls.any (Leaf.at d)
  | .ref s _ _ _ => Nat.beq s d
  | .eref l _ _ => l.at d
  | .fn _ caps => memN caps d
  | .tup ls => ls.any fun p => p.2.any (Leaf.at d)
  | .mp s _ _ _ | .ment s _ _ _ | .stamp s _ _ _ => Nat.beq s d
  | .it _ _ => false
structure Ext (d : Nat) (g : Gh) (h : Mem) (g' : Gh) (h' : Mem) : Prop where
  size : h.size ≤ h'.size
  blk : ∀ b, b < h.size → h'[b]? = h[b]? ∨ ∃ s, g.kd b = .bx s ∧ MapMore (g.mt s).1 (g.mt s).2 h[b]? h'[b]?
  kd : ∀ b, b < h.size → g'.kd b = g.kd b
  own : ∀ b, b < h.size → g'.own b = g.own b
  H : ∀ t, tagAt d t = false → g'.H t = g.H t
  bx : ∀ s, s ≠ d → g'.bx s = g.bx s
  mt : ∀ s, s ≠ d → g'.mt s = g.mt s
theorem Ext.cells {d : Nat} {g g' : Gh} {h h' : Mem} (x : Ext d g h g' h') {b : Nat} {c : Array Value} {e : TypeId} {fr : Nat × Nat} (hb : h[b]? = some (.cells c e fr)) : h'[b]? = h[b]? := by
  have lt : b < h.size := by
    rcases Nat.lt_or_ge b h.size with hlt | hge
    · exact hlt
    · rw [Array.getElem?_eq_none hge] at hb; cases hb
  rcases x.blk b lt with q | ⟨s, _, es, c', es', c'', q, _⟩
  · exact q
  · rw [hb] at q; cases q
theorem Ext.map {d : Nat} {g g' : Gh} {h h' : Mem} (x : Ext d g h g' h') {s : Nat} (hs : s ≠ d) {kt vt : Ty} {m : List (kt.den × vt.den)} (hm : MapAt g h s kt vt m) : MapAt g' h' s kt vt m := by
  obtain ⟨es, c, h1, h2, h3, h4⟩ := hm
  have lt : g.bx s < h.size := by
    rcases Nat.lt_or_ge (g.bx s) h.size with hlt | hge
    · exact hlt
    · rw [Array.getElem?_eq_none hge] at h1; cases h1
  rcases x.blk _ lt with q | ⟨s', q0, es1, c1, es', c', q1, q2, q3, _⟩
  · exact ⟨es, c, by rw [x.bx s hs, q]; exact h1, by rw [x.bx s hs, x.kd _ lt]; exact h2, by rw [x.mt s hs]; exact h3, h4⟩
  · rw [h2] at q0; injection q0 with q0; subst q0
    rw [h1] at q1; injection q1 with q1; injection q1 with q1 q1'
    subst q1; subst q1'
    rw [h3] at q3
    exact ⟨es', c', by rw [x.bx s hs]; exact q2, by rw [x.bx s hs, x.kd _ lt]; exact h2, by rw [x.mt s hs]; exact h3, q3 m h4⟩
theorem Ext.stamp {d : Nat} {g g' : Gh} {h h' : Mem} (x : Ext d g h g' h') {s : Nat} (hs : s ≠ d) {kt vt : Ty} {k : kt.den} {n : Int} (hm : StampR g h s kt vt k n) : StampR g' h' s kt vt k n := by
  obtain ⟨es, c, e, h1, h2, h3, h4⟩ := hm
  have lt : g.bx s < h.size := by
    rcases Nat.lt_or_ge (g.bx s) h.size with hlt | hge
    · exact hlt
    · rw [Array.getElem?_eq_none hge] at h1; cases h1
  rcases x.blk _ lt with q | ⟨s', q0, es1, c1, es', c', q1, q2, _, q3⟩
  · exact ⟨es, c, e, by rw [x.bx s hs, q]; exact h1, by rw [x.bx s hs, x.kd _ lt]; exact h2, by rw [x.mt s hs]; exact h3, h4⟩
  · rw [h1] at q1; injection q1 with q1; injection q1 with q1 q1'
    subst q1; subst q1'
    exact ⟨es', c', e, by rw [x.bx s hs]; exact q2, by rw [x.bx s hs, x.kd _ lt]; exact h2, by rw [x.mt s hs]; exact h3, q3 e h4.1, h4.2⟩
theorem RdL.cellsB {α : Type} {h : Mem} {R : α → List Value → List Nat → Prop} (hR : ∀ x cs b, R x cs b → ∀ y ∈ b, ∃ c e fr, h[y]? = some (.cells c e fr)) {n : Nat} : ∀ {l : List α} {cs : List Value} {bs : List Nat}, RdL R n l cs bs → ∀ y ∈ bs, ∃ c e fr, h[y]? = some (.cells c e fr)
  | [], _, _, hr => by rw [show _ = [] from hr]; intro y hy; cases hy
  | x :: xs, cs, bs, ⟨b1, b2, h1, h2, h3⟩ => by
    subst h3; intro y hy
    rcases List.mem_append.1 hy with hy | hy
    · exact hR _ _ _ h1 y hy
    · exact RdL.cellsB hR h2 y hy
theorem Rd.cellsB {h : Mem} : ∀ {t : Ty} {x : t.den} {cs : List Value} {bs : List Nat}, Rd h t x cs bs → ∀ b ∈ bs, ∃ c e fr, h[b]? = some (.cells c e fr) := by
  intro t
  induction t with
  | int k => rintro x cs bs ⟨_, _, rfl⟩ b hb; cases hb
  | bool => rintro x cs bs ⟨_, rfl⟩ b hb; cases hb
  | unit => rintro x cs bs ⟨_, rfl⟩ b hb; cases hb
  | pair a b iha ihb =>
    rintro x cs bs ⟨b1, b2, h1, h2, rfl⟩ y hy
    rcases List.mem_append.1 hy with hy | hy
    · exact iha h1 y hy
    · exact ihb h2 y hy
  | arr n t ih => rintro x cs bs ⟨hl, hr⟩; exact hr.cellsB fun x cs b hx => ih hx
  | slice e t ih =>
    rintro x cs bs ⟨hd, blk, bs', rfl, hs, rfl⟩ y hy
    rcases hs with ⟨_, _, _, rfl, rfl⟩ | ⟨b, o, cap, c, fr, e1, e2, e3, ⟨e', e4⟩, e5, e6⟩
    · cases hy
    · subst e2
      rcases List.mem_append.1 hy with hy | hy
      · simp at hy; subst hy; exact ⟨c, e', fr, e4⟩
      · exact e6.cellsB (fun x cs b hx => ih hx) y hy
theorem SlR.lt {h : Mem} {e : TypeId} {t : Ty} {l : List t.den} {hd : Value} {blk : Option Nat} {bs : List Nat} (hs : SlR h e t.size (Rd h t) l hd blk bs) :
    (∀ b, blk = some b → b < h.size) ∧ ∀ b ∈ bs, b < h.size := by
  have := Rd.lt (h := h) (t := .slice e t) (x := l) (cs := [hd]) (bs := blk.toList ++ bs) ⟨hd, blk, bs, rfl, hs, rfl⟩
  exact ⟨fun b hb => this b (by simp [hb]), fun b hb => this b (by simp [hb])⟩
theorem LeafB.lt {g : Gh} {h : Mem} {l : Leaf} {cs : List Value} {bs : List Nat} (hl : LeafB g h l cs bs) : ∀ b ∈ bs, b < h.size := by
  cases l with
  | fz t reg lin v => exact hl.1.lt
  | rt e t tag sub lin st v =>
    obtain ⟨hd, blk, bs', rfl, rfl, _, _, hs, _⟩ := hl
    intro b hb
    rcases List.mem_append.1 hb with hb | hb
    · exact hs.lt.1 b (by simpa using hb)
    · exact hs.lt.2 b hb
theorem LeafB.same {g g' : Gh} {h h' : Mem} {l : Leaf} {cs : List Value} {bs : List Nat} (hl : LeafB g h l cs bs)
    (hb : ∀ b ∈ bs, h'[b]? = h[b]?) (hk : ∀ b ∈ bs, g'.kd b = g.kd b) (ho : ∀ b ∈ bs, g'.own b = g.own b)
    (hH : ∀ e t tag sub lin st v, l = .rt e t tag sub lin st v → sub = false → g'.H tag = g.H tag) : LeafB g' h' l cs bs := by
  cases l with
  | fz t reg lin v =>
    obtain ⟨h1, h2, h3, h4⟩ := hl
    exact ⟨h1.frame hb, fun b m => (hk b m).trans (h2 b m), fun r b m => (ho b m).trans (h3 r b m), fun q => (h4 q).re ho⟩
  | rt e t tag sub lin st v =>
    obtain ⟨hd, blk, bs', rfl, rfl, h1, h2, h3, h4, h5, h6⟩ := hl
    have m1 : ∀ b, blk = some b → b ∈ blk.toList ++ bs' := fun b hb => by simp [hb]
    have m2 : ∀ b ∈ bs', b ∈ blk.toList ++ bs' := fun b hb => List.mem_append_right _ hb
    refine ⟨hd, blk, bs', rfl, rfl, fun hs => (h1 hs).trans (hH _ _ _ _ _ _ _ rfl hs).symm, h2, h3.frame (fun b m => hb b (m2 b m)) (fun b m => hb b (m1 b m)),
      fun b m => (hk b (m2 b m)).trans (h4 b m), fun b m => ?_, fun hlin => ⟨fun b m => (ho b (m2 b m)).trans ((h6 hlin).1 b m), (h6 hlin).2⟩⟩
    obtain ⟨q1, q2, c, e', q3⟩ := h5 b m
    exact ⟨(hk b (m1 b m)).trans q1, (ho b (m1 b m)).trans q2, c, e', (hb b (m1 b m)).trans q3⟩
theorem LeafB.cellsB {g : Gh} {h : Mem} {l : Leaf} {cs : List Value} {bs : List Nat} (hl : LeafB g h l cs bs) : ∀ b ∈ bs, ∃ c e fr, h[b]? = some (.cells c e fr) := by
  cases l with
  | fz t reg lin v => exact hl.1.cellsB
  | rt e t tag sub lin st v =>
    obtain ⟨hd, blk, bs', rfl, rfl, _, _, hs, _⟩ := hl
    exact Rd.cellsB (t := .slice e t) (x := v) (cs := [hd]) ⟨hd, blk, bs', rfl, hs, rfl⟩
theorem LeafB.ext {d : Nat} {g g' : Gh} {h h' : Mem} (x : Ext d g h g' h') {l : Leaf} {cs : List Value} {bs : List Nat} (hl : LeafB g h l cs bs) (hd : l.at d = false) : LeafB g' h' l cs bs :=
  hl.same (fun b m => by obtain ⟨c, e, fr, q⟩ := hl.cellsB b m; exact x.cells q) (fun b m => x.kd b (hl.lt b m)) (fun b m => x.own b (hl.lt b m)) (fun e t tag sub lin st v he _ => by subst he; exact x.H _ hd)
theorem LeavesB.ext {d : Nat} {g g' : Gh} {h h' : Mem} (x : Ext d g h g' h') : ∀ {ls : List Leaf} {cs : List Value} {bs : List Nat}, LeavesB g h ls cs bs → ls.any (Leaf.at d) = false → LeavesB g' h' ls cs bs
  | [], _, _, hl, _ => hl
  | l :: r, cs, bs, ⟨b1, b2, h1, h2, h3⟩, hd => by
    simp only [List.any_cons, Bool.or_eq_false_iff] at hd
    exact ⟨b1, b2, h1.ext x hd.1, LeavesB.ext x h2 hd.2, h3⟩
theorem PartsB.ext {d : Nat} {g g' : Gh} {h h' : Mem} (x : Ext d g h g' h') {n : Nat} : ∀ {ls : List (List Leaf)} {cs : List Value} {bs : List Nat}, PartsB g h n ls cs bs → (ls.any fun l => l.any (Leaf.at d)) = false → PartsB g' h' n ls cs bs
  | [], _, _, hl, _ => hl
  | l :: r, cs, bs, ⟨b1, b2, h1, h2, h3⟩, hd => by
    simp only [List.any_cons, Bool.or_eq_false_iff] at hd
    exact ⟨b1, b2, h1.ext x hd.1, PartsB.ext x h2 hd.2, h3⟩
theorem ValR.ext {d : Nat} {g g' : Gh} {h h' : Mem} (x : Ext d g h g' h') {agg : Bool} {ls : List Leaf} {v : Value} (hv : ValR g h agg ls v) (hd : ls.any (Leaf.at d) = false) : ValR g' h' agg ls v := by
  obtain ⟨cs, bs, h1, h2, h3⟩ := hv
  exact ⟨cs, bs, h1, h2, h3.ext x hd⟩
theorem ValsR.ext {d : Nat} {g g' : Gh} {h h' : Mem} (x : Ext d g h g' h') : ∀ {ls : List (Bool × List Leaf)} {vs : List Value}, ValsR g h ls vs → (ls.any fun p => p.2.any (Leaf.at d)) = false → ValsR g' h' ls vs
  | [], _, hl, _ => hl
  | (agg, ls) :: r, vs, ⟨v, vs', h1, h2, h3⟩, hd => by
    simp only [List.any_cons, Bool.or_eq_false_iff] at hd
    exact ⟨v, vs', h1, h2.ext x hd.1, ValsR.ext x h3 hd.2⟩
theorem nbeq_f {a b : Nat} (h : a ≠ b) : Nat.beq a b = false := by
  cases hb : Nat.beq a b
  · rfl
  · exact absurd (Nat.eq_of_beq_eq_true hb) h
theorem nbeq_ne {a b : Nat} (h : Nat.beq a b = false) : a ≠ b := Nat.ne_of_beq_eq_false h
theorem memN_of_mem : ∀ {l : List Nat} {i : Nat}, memN l i = false → ∀ j ∈ l, j ≠ i
  | [], _, _, j, hj => by cases hj
  | x :: r, i, h, j, hj => by
    simp only [memN, Bool.or_eq_false_iff] at h
    rcases List.mem_cons.1 hj with rfl | hj
    · intro e; subst e; simp at h
    · exact memN_of_mem h.2 j hj
theorem EntR.ext {d : Nat} {g g' : Gh} {h h' : Mem} (x : Ext d g h g' h') {s : Nat} (hs : s ≠ d) : ∀ {e : Ent} {v : Value}, EntR g h s e v → e.at d = false → EntR g' h' s e v := by
  intro e v he hd
  have lt : ∀ {b : Nat} {o : Obj}, h[b]? = some o → b < h.size := fun {b o} hb => by
    rcases Nat.lt_or_ge b h.size with hlt | hge
    · exact hlt
    · rw [Array.getElem?_eq_none hge] at hb; cases hb
  cases e with
  | dead => trivial
  | val agg ls => exact ValR.ext x he hd
  | lit e t pp =>
    obtain ⟨b, c, bs, h1, h2, h3, h4, h5, h6, h7⟩ := he
    exact ⟨b, c, bs, h1, by rw [x.cells h2]; exact h2, h3, by rw [x.kd b (lt h2)]; exact h4, by rw [x.own b (lt h2)]; exact h5, h6.ext x hd, h7⟩
  | box ro ls =>
    obtain ⟨b, c, e, fr, bs, h1, h2, h3, h4, h5, h6⟩ := he
    exact ⟨b, c, e, fr, bs, h1, by rw [x.cells h2]; exact h2, h3.ext x hd, by rw [x.bx s hs]; exact h4, by rw [x.kd b (lt h2)]; exact h5, by rw [x.kd b (lt h2)]; exact h6⟩
  | ref s' base t p =>
    obtain ⟨h1, h2⟩ := he
    have hne : s' ≠ d := nbeq_ne hd
    exact ⟨h1, by rw [x.bx s' hne]; exact h2⟩
  | eref l i p =>
    obtain ⟨bs, b, o, n, cap, h1, h2⟩ := he
    exact ⟨bs, b, o, n, cap, h1.ext x hd, h2⟩
  | fn f caps =>
    have hd' := memN_of_mem (l := caps) (i := d) hd
    simp only [EntR] at he ⊢
    rw [he]; congr 2
    apply List.map_congr_left; intro s' hs'
    rw [x.bx s' (hd' s' hs')]
  | tup ls =>
    obtain ⟨vs, h1, h2⟩ := he
    exact ⟨vs, h1, h2.ext x hd⟩
  | mp s' kt vt m =>
    have hne : s' ≠ d := nbeq_ne hd
    exact ⟨by rw [x.bx s' hne]; exact he.1, x.map hne he.2⟩
  | ment s' kt vt k =>
    have hne : s' ≠ d := nbeq_ne hd
    obtain ⟨z, n, h1, h2⟩ := he
    exact ⟨z, n, h1, x.stamp hne h2⟩
  | stamp s' kt vt k =>
    have hne : s' ≠ d := nbeq_ne hd
    obtain ⟨n, h1, h2⟩ := he
    exact ⟨n, h1, x.stamp hne h2⟩
  | it b o =>
    obtain ⟨h0, h1, ⟨m, s1, l, c, rfl⟩, h3, h4⟩ := he
    refine ⟨h0, ?_, ⟨m, s1, l, c, rfl⟩, by rw [x.kd b (lt h1)]; exact h3, by rw [x.own b (lt h1)]; exact h4⟩
    rcases x.blk b (lt h1) with q | ⟨s2, _, es, c', es', c'', q, _⟩
    · rw [q]; exact h1
    · rw [h1] at q; cases q
theorem Env.get_put (env : Env) (i : Nat) (e : Ent) (j : Nat) : (env.put i e).get j = if j = i then e else env.get j := by
  induction env with
  | nil =>
    by_cases h : j = i
    · subst h; simp [Env.put, Env.get]
    · simp only [Env.put, Env.get, nbeq_f (fun e => h e.symm), cond_false, if_neg h]
  | cons p r ih =>
    obtain ⟨k, x⟩ := p
    simp only [Env.put]
    by_cases hk : k = i
    · subst hk
      simp only [Nat.beq_refl, cond_true, Env.get]
      by_cases hj : j = k
      · subst hj; simp
      · simp only [nbeq_f (fun e => hj e.symm), cond_false, if_neg hj]
    · simp only [nbeq_f hk, cond_false]
      by_cases hlt : Nat.blt i k = true
      · simp only [hlt, cond_true, Env.get]
        by_cases hj : j = i
        · subst hj; simp
        · simp only [nbeq_f (fun e => hj e.symm), cond_false, if_neg hj]
      · have hlt' : Nat.blt i k = false := Bool.eq_false_iff.2 hlt
        simp only [hlt', cond_false, Env.get, ih]
        by_cases hj : j = k
        · subst hj; simp [hk]
        · simp only [nbeq_f (fun e => hj e.symm), cond_false]
theorem upon_val {P : Program} {o : Oper} {a : Act} {w w' : World} {v : Value} {K : Act → World → Prop} {Q : Exit → Act → World → Prop}
    (h : (execOp a.eval o).run P w = .ok (.value v) w') (hk : K (a.put o.dst v) w') : Oper.wp P o a w K Q := by
  unfold Oper.wp; rw [h]; exact hk
theorem upon_skip {P : Program} {o : Oper} {a : Act} {w w' : World} {K : Act → World → Prop} {Q : Exit → Act → World → Prop}
    (h : (execOp a.eval o).run P w = .ok .skip w') (hk : K (a.put o.dst undef) w') : Oper.wp P o a w K Q := by
  unfold Oper.wp; rw [h]; exact hk
theorem wrap_wf (k : IntKind) (n : Int) : (Lit.int k (k.wrap n)).wf = true := by
  cases k <;> simp [Lit.wf, IntKind.wrap, IntKind.min, IntKind.max, IntKind.bits, IntKind.signed] <;> (try split) <;> omega
theorem tmod_wf (k : IntKind) (x y : Int) (h : (Lit.int k x).wf = true) : (Lit.int k (x.tmod y)).wf = true := by
  have hb : (0 ≤ x → 0 ≤ x.tmod y ∧ x.tmod y ≤ x) ∧ (x < 0 → x ≤ x.tmod y ∧ x.tmod y ≤ 0) := by
    constructor
    · intro hx
      refine ⟨Int.tmod_nonneg y hx, ?_⟩
      obtain ⟨n, rfl⟩ := Int.eq_ofNat_of_zero_le hx
      have h1 := Int.natAbs_tmod (n : Int) y
      have h2 : (n : Int).natAbs % y.natAbs ≤ (n : Int).natAbs := Nat.mod_le _ _
      omega
    · intro hx
      obtain ⟨n, hn⟩ : ∃ n : Nat, x = -(n : Int) := ⟨x.natAbs, by omega⟩
      subst hn
      rw [Int.neg_tmod]
      have h1 := Int.natAbs_tmod (n : Int) y
      have h0 := Int.tmod_nonneg y (Int.natCast_nonneg n)
      have h2 : (n : Int).natAbs % y.natAbs ≤ (n : Int).natAbs := Nat.mod_le _ _
      omega
  simp only [Lit.wf, Bool.and_eq_true, decide_eq_true_eq] at h ⊢
  have hk : k.min ≤ 0 ∧ 0 ≤ k.max := by cases k <;> decide
  rcases Int.lt_or_le x 0 with hx | hx
  · have := hb.2 hx; omega
  · have := hb.1 hx; omega
variable {g : Gh} {h : Mem}
theorem rd_int {k : IntKind} {n : Int} (hn : (Lit.int k n).wf = true) : LeafB g h (.fz (.int k) 0 false n) [.int k n] [] :=
  ⟨⟨rfl, hn, rfl⟩, by simp, by simp, by simp⟩
theorem intE_sound {s : Nat} {k : IntKind} {n : Int} (hn : (Lit.int k n).wf = true) : EntR g h s (intE k n) (.int k n) :=
  ⟨[.int k n], [], rfl, fun _ => ⟨rfl, rfl⟩, [], [], by simpa [Ty.size] using rd_int hn, ⟨by simp [Ty.size], rfl⟩, rfl⟩
theorem boolE_sound {s : Nat} {b : Bool} : EntR g h s (boolE b) (.bool b) :=
  ⟨[.bool b], [], rfl, fun _ => ⟨rfl, rfl⟩, [], [], ⟨⟨by simp [Ty.size], rfl⟩, by simp, by simp, by simp⟩, ⟨by simp [Ty.size], rfl⟩, rfl⟩
theorem asI_inv {s : Nat} {e : Ent} {v : Value} {k : IntKind} {n : Int} (he : EntR g h s e v) (ha : asI e = some (k, n)) : v = .int k n ∧ (Lit.int k n).wf = true := by
  unfold asI at ha
  split at ha
  · injection ha with ha; injection ha with ha1 ha2; subst ha1; subst ha2
    obtain ⟨cs, bs, h1, h2, b1, b2, ⟨h3, _⟩, h4, h5⟩ := he
    obtain ⟨hl, _⟩ := h2 rfl
    obtain ⟨h31, h32, _⟩ := h3
    match cs, hl with
    | [c], _ => simp [Ty.size] at h31; subst h31; exact ⟨by simpa using h1, h32⟩
  · cases ha
theorem asB_inv {s : Nat} {e : Ent} {v : Value} {b : Bool} (he : EntR g h s e v) (ha : asB e = some b) : v = .bool b := by
  unfold asB at ha
  split at ha
  · injection ha with ha; subst ha
    obtain ⟨cs, bs, h1, h2, b1, b2, ⟨h3, _⟩, h4, h5⟩ := he
    obtain ⟨hl, _⟩ := h2 rfl
    obtain ⟨h31, _⟩ := h3
    match cs, hl with
    | [c], _ => simp [Ty.size] at h31; subst h31; simpa using h1
  · cases ha
theorem EntR.move {s s' : Nat} {e : Ent} {v : Value} (he : EntR g h s e v) (hm : e.movable = true) : EntR g h s' e v := by
  cases e <;> first | exact he | (simp [Ent.movable] at hm)
theorem opE_sound {get : Nat → Ent} {a : Act} {x : Operand} {e : Ent} (hg : ∀ s, EntR g h s (get s) (a.tmps.getD s undef)) (hx : opE get x = some e) :
    ∃ s, EntR g h s e (a.eval x) ∧ ∀ t, x = .tmp t → s = t ∧ e = get t := by
  unfold opE at hx
  split at hx
  · injection hx with hx; subst hx; exact ⟨_, hg _, fun t ht => by cases ht; exact ⟨rfl, rfl⟩⟩
  · rename_i k n
    cases hk : kwf k n with
    | false => rw [hk] at hx; cases hx
    | true =>
      rw [hk] at hx; injection hx with hx; subst hx
      exact ⟨0, intE_sound (by simpa [kwf, Lit.wf] using hk), fun t ht => by cases ht⟩
  · injection hx with hx; subst hx; exact ⟨0, boolE_sound, fun t ht => by cases ht⟩
  · injection hx with hx; subst hx; exact ⟨0, rfl, fun t ht => by cases ht⟩
  · cases hx
section
variable {P : Program} {w : World}
theorem arith_sound {op : BinOp} {k : IntKind} {x y : Int} {c : Bool} {e : Ent} {t : TypeId} {X Y : Operand} (s : Nat) (hx : (Lit.int k x).wf = true) (hy : (Lit.int k y).wf = true)
    (ha : arith op k x y = some (c, e)) (hc : c = true) :
    ∃ v, (do eqGuard op t X Y (.int k x) (.int k y); binOp op t (.int k x) (.int k y) : Sem Value).run P w = .ok v w ∧ EntR g h s e v := by
  subst hc
  cases op <;> simp only [arith, Option.some.injEq, Prod.mk.injEq, reduceCtorEq] at ha
  case add => obtain ⟨_, rfl⟩ := ha; exact ⟨_, by simp [eqGuard, binOp, Op.intArith, Result.andThen], intE_sound (wrap_wf _ _)⟩
  case sub => obtain ⟨_, rfl⟩ := ha; exact ⟨_, by simp [eqGuard, binOp, Op.intArith, Result.andThen], intE_sound (wrap_wf _ _)⟩
  case mul => obtain ⟨_, rfl⟩ := ha; exact ⟨_, by simp [eqGuard, binOp, Op.intArith, Result.andThen], intE_sound (wrap_wf _ _)⟩
  case quo => obtain ⟨h0, rfl⟩ := ha; simp at h0; exact ⟨_, by simp [eqGuard, binOp, Op.intDiv, Result.andThen, h0], intE_sound (wrap_wf _ _)⟩
  case rem => obtain ⟨h0, rfl⟩ := ha; simp at h0; exact ⟨_, by simp [eqGuard, binOp, Op.intDiv, Result.andThen, h0], intE_sound (tmod_wf _ _ _ hx)⟩
  case eql => obtain ⟨_, rfl⟩ := ha; exact ⟨_, by simp [eqGuard, binOp, Op.intCmp, Result.andThen]; rfl, by rw [show (x == y) = decide (x = y) from rfl]; exact boolE_sound⟩
  case neq => obtain ⟨_, rfl⟩ := ha; exact ⟨_, by simp [eqGuard, binOp, Op.intCmp, Result.andThen]; rfl, by rw [show (x != y) = !decide (x = y) from rfl]; exact boolE_sound⟩
  case lss => obtain ⟨_, rfl⟩ := ha; exact ⟨_, by simp [eqGuard, binOp, Op.intCmp, Result.andThen], boolE_sound⟩
  case leq => obtain ⟨_, rfl⟩ := ha; exact ⟨_, by simp [eqGuard, binOp, Op.intCmp, Result.andThen], boolE_sound⟩
  case gtr => obtain ⟨_, rfl⟩ := ha; exact ⟨_, by simp [eqGuard, binOp, Op.intCmp, Result.andThen], boolE_sound⟩
  case geq => obtain ⟨_, rfl⟩ := ha; exact ⟨_, by simp [eqGuard, binOp, Op.intCmp, Result.andThen], boolE_sound⟩
end
def zc : Ty → List Value
  | .int k => [.int k 0]
  | .bool => [.bool false]
  | .unit => []
  | .pair a b => zc a ++ zc b
  | .arr n t => (List.replicate n (zc t)).flatten
  | .slice _ _ => [.slice none 0 0]
def zv (t : Ty) : Value := bif t.agg then .agg (zc t).toArray else (zc t).headD undef
def FsOK (P : Program) (T : TTab) : List Field → Ty → Nat → Prop
  | [], .unit, _ => True
  | f :: fs, .pair a b, off => f.offset = off ∧ tyOf T f.type = some a ∧ f.name ≠ "_" ∧ a.size ≠ 0 ∧ FsOK P T fs b (off + a.size)
  | _, _, _ => False
def UndOK (P : Program) (T : TTab) (t : TypeId) : Ty → Prop
  | .int k => P.underlying t = some (.int k)
  | .bool => P.underlying t = some .bool
  | .slice e t' => P.underlying t = some (.slice e) ∧ tyOf T e = some t' ∧ t'.size ≠ 0
  | .arr n t' => ∃ e, P.underlying t = some (.array n e) ∧ tyOf T e = some t' ∧ t'.size ≠ 0 ∧ 1 < n
  | ty => ∃ fs, P.underlying t = some (.struct fs) ∧ P.stoodInHeld t = false ∧ FsOK P T fs.toList ty 0
structure TyOK (P : Program) (T : TTab) (t : TypeId) (ty : Ty) : Prop where
  info : ∃ i, P.info? t = some i ∧ i.size = ty.size ∧ i.zero = some (zv ty) ∧ i.bytes ≤ 64
  und : UndOK P T t ty
structure TOK (P : Program) (T : TTab) : Prop where
  ty : ∀ t ty, tyOf T t = some ty → TyOK P T t ty
  mp : ∀ t k e, mapOf T t = some (k, e) → P.underlying t = some (.map k e)
instance {P : Program} {T : TTab} : CoeFun (TOK P T) fun _ => ∀ t ty, tyOf T t = some ty → TyOK P T t ty := ⟨TOK.ty⟩
def veqC : Value → Value → Bool
  | .int k n, .int k' n' => kEq k k' && decide (n = n')
  | .bool a, .bool b => a == b
  | .slice none 0 0, .slice none 0 0 => true
  | _, _ => false
def veqL : List Value → List Value → Bool
  | [], [] => true
  | a :: r, b :: r' => veqC a b && veqL r r'
  | _, _ => false
def zeroB (t : Ty) (v : Value) : Bool :=
  match t.agg, v with
  | true, .agg cs => veqL cs.toList (zc t)
  | false, v => veqL [v] (zc t)
  | _, _ => false
theorem veqC_eq : ∀ {a b : Value}, veqC a b = true → a = b := by
  intro a b h
  unfold veqC at h
  split at h
  · simp only [Bool.and_eq_true, decide_eq_true_eq] at h; rw [kEq_eq h.1, h.2]
  · simp at h; rw [h]
  · rfl
  · cases h
theorem veqL_eq : ∀ {a b : List Value}, veqL a b = true → a = b
  | [], [], _ => rfl
  | [], _ :: _, h => by simp [veqL] at h
  | _ :: _, [], h => by simp [veqL] at h
  | a :: r, b :: r', h => by simp only [veqL, Bool.and_eq_true] at h; rw [veqC_eq h.1, veqL_eq h.2]
theorem zeroB_eq {t : Ty} {v : Value} (h : zeroB t v = true) : v = zv t := by
  unfold zeroB at h
  split at h
  · rename_i cs ha; have := veqL_eq h; unfold zv; rw [ha]; simp [← this]
  · rename_i ha; have := veqL_eq h; unfold zv; rw [ha, ← this]; rfl
  · cases h
def fsB (T : TTab) : List Field → Ty → Nat → Bool
  | [], .unit, _ => true
  | f :: fs, .pair a b, off => Nat.beq f.offset off && (match tyOf T f.type with | some u => u.eqb a | none => false) && !(f.name == "_") && !(Nat.beq a.size 0) && fsB T fs b (off + a.size)
  | _, _, _ => false
def undB (P : Program) (T : TTab) (t : TypeId) : Ty → Bool
  | .int k => match P.underlying t with | some (.int k') => kEq k' k | _ => false
  | .bool => match P.underlying t with | some .bool => true | _ => false
  | .slice e t' => match P.underlying t with | some (.slice e') => Nat.beq e' e && (match tyOf T e with | some u => u.eqb t' | none => false) && !(Nat.beq t'.size 0) | _ => false
  | .arr n t' => match P.underlying t with | some (.array n' e) => Nat.beq n' n && (match tyOf T e with | some u => u.eqb t' | none => false) && !(Nat.beq t'.size 0) && Nat.blt 1 n | _ => false
  | ty => match P.underlying t with | some (.struct fs) => !P.stoodInHeld t && fsB T fs.toList ty 0 | _ => false
def tyB (P : Program) (T : TTab) (t : TypeId) (ty : Ty) : Bool :=
  (match P.info? t with | some i => Nat.beq i.size ty.size && (match i.zero with | some z => zeroB ty z | none => false) && Nat.ble i.bytes 64 | none => false) && undB P T t ty
def mapB (P : Program) (t : TypeId) : Ty → Bool
  | .pair (.arr k .unit) (.arr e .unit) => match P.underlying t with | some (.map k' e') => Nat.beq k' k && Nat.beq e' e | _ => false
  | _ => true
def tokB (P : Program) (T : TTab) : Bool := T.all fun p => (tyOf.isMapT p.2 || tyB P T p.1 p.2) && mapB P p.1 p.2
theorem tyOf_mem {T : TTab} {t : TypeId} {ty : Ty} : tyOf T t = some ty → (t, ty) ∈ T ∧ tyOf.isMapT ty = false := by
  induction T with
  | nil => intro h; cases h
  | cons p r ih =>
    obtain ⟨j, u⟩ := p
    intro h
    simp only [tyOf] at h
    cases hb : Nat.beq j t with
    | true =>
      rw [hb] at h; simp only [cond_true] at h
      cases hm : tyOf.isMapT u with
      | true => rw [hm] at h; cases h
      | false =>
        rw [hm] at h; injection h with h; subst h
        rw [Nat.eq_of_beq_eq_true hb]; exact ⟨.head _, hm⟩
    | false => rw [hb] at h; exact ⟨.tail _ (ih h).1, (ih h).2⟩
theorem mapOf_mem {T : TTab} {t : TypeId} {k e : TypeId} : mapOf T t = some (k, e) → (t, mapT k e) ∈ T := by
  induction T with
  | nil => intro h; cases h
  | cons p r ih =>
    obtain ⟨j, u⟩ := p
    intro h
    simp only [mapOf] at h
    cases hb : Nat.beq j t with
    | true =>
      rw [hb] at h; simp only [cond_true] at h
      split at h
      · injection h with h; injection h with h1 h2; subst h1; subst h2
        rw [Nat.eq_of_beq_eq_true hb]; exact .head _
      · cases h
    | false => rw [hb] at h; exact .tail _ (ih h)
theorem optTy {x : Option Ty} {a : Ty} (h : (match x with | some u => u.eqb a | none => false) = true) : x = some a := by
  cases x with
  | none => cases h
  | some u => rw [Ty.eq_of_eqb h]
theorem fsB_ok {P : Program} {T : TTab} : ∀ {fs : List Field} {ty : Ty} {off : Nat}, fsB T fs ty off = true → FsOK P T fs ty off
  | [], .unit, _, _ => trivial
  | f :: fs, .pair a b, off, h => by
    simp only [fsB, Bool.and_eq_true, Bool.not_eq_true'] at h
    obtain ⟨⟨⟨⟨h1, h2⟩, h3⟩, h4⟩, h5⟩ := h
    exact ⟨Nat.eq_of_beq_eq_true h1, optTy h2, by simpa using h3, nbeq_ne h4, fsB_ok h5⟩
  | [], .int _, _, h | [], .bool, _, h | [], .pair _ _, _, h | [], .arr _ _, _, h | [], .slice _ _, _, h => by cases h
  | _ :: _, .int _, _, h | _ :: _, .bool, _, h | _ :: _, .unit, _, h | _ :: _, .arr _ _, _, h | _ :: _, .slice _ _, _, h => by cases h
theorem undB_struct {P : Program} {T : TTab} {t : TypeId} {ty : Ty} (h : (match P.underlying t with | some (.struct fs) => !P.stoodInHeld t && fsB T fs.toList ty 0 | _ => false) = true) :
    ∃ fs, P.underlying t = some (.struct fs) ∧ P.stoodInHeld t = false ∧ FsOK P T fs.toList ty 0 := by
  split at h
  · rename_i fs hu; simp only [Bool.and_eq_true, Bool.not_eq_true'] at h; exact ⟨fs, hu, h.1, fsB_ok h.2⟩
  · cases h
theorem undB_ok {P : Program} {T : TTab} {t : TypeId} {ty : Ty} (h : undB P T t ty = true) : UndOK P T t ty := by
  cases ty with
  | int k =>
    simp only [undB] at h; split at h
    · rename_i k' hu; rw [kEq_eq h] at hu; exact hu
    · cases h
  | bool =>
    simp only [undB] at h; split at h
    · rename_i hu; exact hu
    · cases h
  | slice e t' =>
    simp only [undB] at h; split at h
    · rename_i e' hu
      simp only [Bool.and_eq_true, Bool.not_eq_true'] at h
      obtain ⟨⟨h1, h2⟩, h3⟩ := h
      rw [Nat.eq_of_beq_eq_true h1] at hu
      exact ⟨hu, optTy h2, nbeq_ne h3⟩
    · cases h
  | arr n t' =>
    simp only [undB] at h; split at h
    · rename_i n' e hu
      simp only [Bool.and_eq_true, Bool.not_eq_true'] at h
      obtain ⟨⟨⟨h1, h2⟩, h3⟩, h4⟩ := h
      rw [Nat.eq_of_beq_eq_true h1] at hu
      exact ⟨e, hu, optTy h2, nbeq_ne h3, by simpa using h4⟩
    · cases h
  | unit => exact undB_struct h
  | pair a b => exact undB_struct h
theorem tokB_ok {P : Program} {T : TTab} (h : tokB P T = true) : TOK P T := by
  refine ⟨fun t ty ht => ?_, fun t k e ht => ?_⟩
  rotate_left
  · have := List.all_eq_true.1 h _ (mapOf_mem ht)
    simp only [Bool.and_eq_true] at this
    have h2 := this.2
    simp only [mapB, mapT] at h2
    split at h2
    · rename_i k' e' hu
      simp only [Bool.and_eq_true] at h2
      rw [hu, Nat.eq_of_beq_eq_true h2.1, Nat.eq_of_beq_eq_true h2.2]
    · cases h2
  have := List.all_eq_true.1 h _ (tyOf_mem ht).1
  simp only [(tyOf_mem ht).2, Bool.false_or, Bool.and_eq_true] at this
  replace this := this.1
  simp only [tyB, Bool.and_eq_true] at this
  refine ⟨?_, undB_ok this.2⟩
  have h1 := this.1
  split at h1
  · rename_i i hi
    simp only [Bool.and_eq_true] at h1
    obtain ⟨⟨a, b⟩, c⟩ := h1
    split at b
    · rename_i z hz; exact ⟨i, hi, Nat.eq_of_beq_eq_true a, by rw [hz, zeroB_eq b], by simpa using c⟩
    · cases b
  · cases h1
theorem cell_of {w : World} {b o : Nat} {c : Array Value} {e : TypeId} {fr : Nat × Nat} (hb : w.heap[b]? = some (.cells c e fr)) : w.cell? ⟨b, o, none⟩ = c[o]? := by
  simp [World.cell?, hb]
theorem cast_ty {a b : Ty} {x : a.den} {y : b.den} (h : Ty.cast b x = some y) : a = b := (Ty.cast_eq h).1
theorem Rd.one {h : Mem} {t : Ty} {x : t.den} {cs : List Value} {bs : List Nat} (hr : Rd h t x cs bs) (ht : t.agg = false) : ∃ c, cs = [c] ∧ c.cells = #[c] := by
  cases t with
  | int k => exact ⟨_, hr.1, rfl⟩
  | bool => exact ⟨_, hr.1, rfl⟩
  | slice e t => obtain ⟨hd, blk, bs', rfl, hs, _⟩ := hr; refine ⟨hd, rfl, ?_⟩; rcases hs with ⟨_, rfl, _⟩ | ⟨b, o, cap, c, fr, rfl, _⟩ <;> rfl
  | unit => cases ht
  | pair a b => cases ht
  | arr n t => cases ht
theorem LeafB.rd {g : Gh} {h : Mem} {l : Leaf} {cs : List Value} {bs : List Nat} (hl : LeafB g h l cs bs) : Rd h l.ty l.val cs bs := by
  cases l with
  | fz t reg lin v => exact hl.1
  | rt e t tag sub lin st v =>
    obtain ⟨hd, blk, bs', rfl, rfl, _, _, hs, _⟩ := hl
    exact ⟨hd, blk, bs', rfl, hs, rfl⟩
theorem LeafB.valR {g : Gh} {h : Mem} {l : Leaf} {cs : List Value} {bs : List Nat} (hl : LeafB g h l cs bs) : ValR g h l.ty.agg [l] (bif l.ty.agg then .agg cs.toArray else cs.headD undef) := by
  refine ⟨cs, bs, rfl, fun ha => ?_, bs, [], by rw [List.take_of_length_le (by rw [hl.rd.length]; exact Nat.le_refl _)]; exact hl, ⟨by rw [List.drop_eq_nil_iff, hl.rd.length]; exact Nat.le_refl _, rfl⟩, by simp⟩
  obtain ⟨c, rfl, hc⟩ := hl.rd.one ha
  rw [ha]; exact ⟨rfl, hc⟩
theorem LeavesB.length {g : Gh} {h : Mem} : ∀ {ls : List Leaf} {cs : List Value} {bs : List Nat}, LeavesB g h ls cs bs → cs.length = sizes ls
  | [], _, _, ⟨h1, _⟩ => by rw [h1]; rfl
  | l :: r, cs, bs, ⟨b1, b2, h1, h2, _⟩ => by
    have := h1.rd.length; have := LeavesB.length h2; simp [sizes] at *; omega
theorem valMany_size : ∀ {t : Ty} {ls : List Leaf} {x : t.den}, valMany t ls = some x → sizes ls = t.size := by
  intro t
  induction t with
  | unit => intro ls x hv; cases ls with | nil => rfl | cons l r => cases hv
  | pair a b _ ihb =>
    intro ls x hv
    cases ls with
    | nil => cases hv
    | cons l r =>
      simp only [valMany] at hv
      split at hv
      · rename_i y z h1 h2; simp [sizes, Ty.size, cast_ty h1, ihb h2]
      · cases hv
  | int k => intro ls x hv; cases hv
  | bool => intro ls x hv; cases hv
  | arr n t _ => intro ls x hv; cases hv
  | slice e t _ => intro ls x hv; cases hv
theorem valAs_cases {t : Ty} {ls : List Leaf} {x : t.den} (hv : valAs t ls = some x) : (∃ l, ls = [l] ∧ Ty.cast t l.val = some x) ∨ valMany t ls = some x := by
  unfold valAs at hv
  split at hv
  · rename_i l
    cases he : l.ty.eqb t with
    | true => rw [he] at hv; exact .inl ⟨l, rfl, hv⟩
    | false => rw [he] at hv; exact .inr hv
  · exact .inr hv
theorem valAs_size {t : Ty} {ls : List Leaf} {x : t.den} (hv : valAs t ls = some x) : sizes ls = t.size := by
  rcases valAs_cases hv with ⟨l, rfl, hc⟩ | hm
  · simp [sizes, cast_ty hc]
  · exact valMany_size hm
theorem cast_rd {h : Mem} {a b : Ty} {x : a.den} {y : b.den} {cs : List Value} {bs : List Nat} (hc : Ty.cast b x = some y) (hr : Rd h a x cs bs) : Rd h b y cs bs := by
  obtain ⟨e, hy⟩ := Ty.cast_eq hc
  subst e; subst hy; exact hr
theorem valMany_rd {g : Gh} {h : Mem} : ∀ {t : Ty} {ls : List Leaf} {x : t.den} {cs : List Value} {bs : List Nat}, valMany t ls = some x → LeavesB g h ls cs bs → Rd h t x cs bs := by
  intro t
  induction t with
  | unit => intro ls x cs bs hv hl; cases ls with | nil => exact hl | cons l r => cases hv
  | pair a b _ ihb =>
    intro ls x cs bs hv hl
    cases ls with
    | nil => cases hv
    | cons l r =>
      obtain ⟨b1, b2, h1, h2, h3⟩ := hl
      simp only [valMany] at hv
      split at hv
      · rename_i y z e1 e2
        injection hv with hv; subst hv
        have hz : l.ty.size = a.size := congrArg Ty.size (cast_ty e1)
        rw [hz] at h1 h2
        exact ⟨b1, b2, cast_rd e1 h1.rd, ihb e2 h2, h3⟩
      · cases hv
  | int k => intro ls x cs bs hv; cases hv
  | bool => intro ls x cs bs hv; cases hv
  | arr n t _ => intro ls x cs bs hv; cases hv
  | slice e t _ => intro ls x cs bs hv; cases hv
theorem valAs_rd {g : Gh} {h : Mem} {t : Ty} {ls : List Leaf} {x : t.den} {cs : List Value} {bs : List Nat} (hv : valAs t ls = some x) (hl : LeavesB g h ls cs bs) : Rd h t x cs bs := by
  rcases valAs_cases hv with ⟨l, rfl, hc⟩ | hm
  · obtain ⟨b1, b2, h1, ⟨h2, h2'⟩, h3⟩ := hl
    subst h2'
    have hlen : cs.take l.ty.size = cs := by rw [List.drop_eq_nil_iff] at h2; exact List.take_of_length_le h2
    rw [hlen] at h1
    simp at h3; subst h3
    exact cast_rd hc h1.rd
  · exact valMany_rd hm hl
theorem isAgg_of {P : Program} {T : TTab} {t : TypeId} {ty : Ty} (k : TyOK P T t ty) (w : World) : (isAgg t).run P w = .ok ty.agg w := by
  have hu := k.und
  unfold isAgg
  cases ty with
  | int k => simp only [Sem.run_bind, run_underlying hu, Result.andThen_ok]; rfl
  | bool => simp only [Sem.run_bind, run_underlying hu, Result.andThen_ok]; rfl
  | slice e t => simp only [Sem.run_bind, run_underlying hu.1, Result.andThen_ok]; rfl
  | arr n t => obtain ⟨e, hu, _⟩ := hu; simp only [Sem.run_bind, run_underlying hu, Result.andThen_ok]; rfl
  | unit => obtain ⟨e, hu, _⟩ := hu; simp only [Sem.run_bind, run_underlying hu, Result.andThen_ok]; rfl
  | pair a b => obtain ⟨e, hu, _⟩ := hu; simp only [Sem.run_bind, run_underlying hu, Result.andThen_ok]; rfl
theorem sizeOf_of {P : Program} {T : TTab} {t : TypeId} {ty : Ty} (k : TyOK P T t ty) (w : World) : (sizeOf t).run P w = .ok ty.size w := by
  obtain ⟨i, h1, h2, _⟩ := k.info
  rw [run_sizeOf w h1, ← h2]; simp [Program.cellsOf, h1]
theorem run_loadVar {P : Program} {T : TTab} {t : TypeId} {ty : Ty} (k : TyOK P T t ty) {w : World} {b o : Nat} {c : Array Value} {e : TypeId} {fr : Nat × Nat}
    (hb : w.heap[b]? = some (.cells c e fr)) (ho : o + ty.size ≤ c.size) :
    (loadVar t ⟨b, o, none⟩).run P w = .ok (bif ty.agg then .agg ((c.toList.drop o).take ty.size).toArray else ((c.toList.drop o).take ty.size).headD undef) w := by
  have hl : ((c.toList.drop o).take ty.size).length = ty.size := by simp; omega
  have hc : ∀ j v, ((c.toList.drop o).take ty.size)[j]? = some v → w.cell? ((⟨b, o, none⟩ : Addr).add j) = some v := by
    intro j v hj
    have hlt : j < ty.size := by
      rcases Nat.lt_or_ge j ty.size with h | h
      · exact h
      · rw [List.getElem?_eq_none (by omega)] at hj; cases hj
    rw [List.getElem?_take_of_lt hlt, List.getElem?_drop] at hj
    have : ((⟨b, o, none⟩ : Addr).add j) = ⟨b, o + j, none⟩ := by unfold Addr.add; split <;> simp_all
    rw [this, cell_of hb]; simpa using hj
  unfold loadVar
  simp only [Sem.run_bind, isAgg_of k, Result.andThen_ok]
  cases ha : ty.agg with
  | true =>
    simp only [if_true, Sem.run_bind, sizeOf_of k, Result.andThen_ok]
    have := run_loadCells_list (P := P) w ⟨b, o, none⟩ _ hc
    rw [hl] at this
    rw [this]; rfl
  | false =>
    simp only [Bool.false_eq_true, if_false, cond_false]
    have h1 : ty.size = 1 := by cases ty <;> first | rfl | cases ha
    rw [h1] at hl hc ⊢
    obtain ⟨v, hv⟩ : ∃ v, (c.toList.drop o).take 1 = [v] := by
      match (c.toList.drop o).take 1, hl with
      | [v], _ => exact ⟨v, rfl⟩
    have := hc 0 v (by rw [hv]; rfl)
    rw [hv]
    simp only [Addr.add, if_true] at this
    simp [Go.load, Sem.run, this]
theorem leafOff_get {g : Gh} {h : Mem} : ∀ {ls : List Leaf} {cs : List Value} {bs : List Nat} {o : Nat} {l : Leaf}, LeavesB g h ls cs bs → leafOff ls o = some l →
    ∃ b, LeafB g h l ((cs.drop o).take l.ty.size) b ∧ b.Sublist bs ∧ o + l.ty.size ≤ cs.length
  | [], _, _, _, _, _, hl => by cases hl
  | x :: r, cs, bs, o, l, ⟨b1, b2, h1, h2, h3⟩, hl => by
    have hlen := h1.rd.length
    have hlen2 := LeavesB.length h2
    simp at hlen hlen2
    simp only [leafOff] at hl
    cases hz : Nat.beq o 0 with
    | true =>
      rw [hz] at hl; injection hl with hl; subst hl
      rw [Nat.eq_of_beq_eq_true hz]
      exact ⟨b1, by simpa using h1, by rw [h3]; exact List.sublist_append_left _ _, by omega⟩
    | false =>
      rw [hz] at hl
      cases hlt : Nat.blt o x.ty.size with
      | true => rw [hlt] at hl; cases hl
      | false =>
        rw [hlt] at hl
        have hge : x.ty.size ≤ o := by
          rcases Nat.lt_or_ge o x.ty.size with q | q
          · rw [show Nat.blt o x.ty.size = true by simpa using q] at hlt; cases hlt
          · exact q
        obtain ⟨b, q1, q2, q3⟩ := leafOff_get h2 hl
        refine ⟨b, ?_, by rw [h3]; exact q2.trans (List.sublist_append_right _ _), ?_⟩
        · rw [List.drop_drop, show x.ty.size + (o - x.ty.size) = o by omega] at q1; exact q1
        · simp at q3; omega
theorem Rd.path {h : Mem} : ∀ {t : Ty} {p : List PStep} {v : t.den} {t' : Ty} {x : t'.den} {cs : List Value} {bs : List Nat}, getP t v p = some ⟨t', x⟩ → pin t p → Rd h t v cs bs →
    ∃ b, Rd h t' x ((cs.drop (poff t p)).take t'.size) b ∧ b.Sublist bs ∧ poff t p + t'.size ≤ cs.length := by
  intro t
  induction t with
  | int k =>
    intro p v t' x cs bs hg hp hr
    cases p with
    | nil => simp only [getP] at hg; cases hg; exact ⟨bs, by simp only [poff, List.drop_zero]; rw [List.take_of_length_le (by rw [hr.length]; exact Nat.le_refl _)]; exact hr, List.Sublist.refl _, by simp [poff, hr.length]⟩
    | cons q p => cases q <;> simp [getP] at hg
  | bool =>
    intro p v t' x cs bs hg hp hr
    cases p with
    | nil => simp only [getP] at hg; cases hg; exact ⟨bs, by simpa [poff, Ty.size, hr.1] using hr, List.Sublist.refl _, by simp [poff, hr.length]⟩
    | cons q p => cases q <;> simp [getP] at hg
  | unit =>
    intro p v t' x cs bs hg hp hr
    cases p with
    | nil => simp only [getP] at hg; cases hg; exact ⟨bs, by simpa [poff, Ty.size, hr.1] using hr, List.Sublist.refl _, by simp [poff, hr.length]⟩
    | cons q p => cases q <;> simp [getP] at hg
  | slice e t ih =>
    intro p v t' x cs bs hg hp hr
    cases p with
    | nil => simp only [getP] at hg; cases hg; exact ⟨bs, by simp only [poff, List.drop_zero]; rw [List.take_of_length_le (by rw [hr.length]; exact Nat.le_refl _)]; exact hr, List.Sublist.refl _, by simp [poff, hr.length]⟩
    | cons q p => cases q <;> simp [getP] at hg
  | pair a b iha ihb =>
    intro p v t' x cs bs hg hp hr
    cases p with
    | nil => simp only [getP] at hg; cases hg; exact ⟨bs, by simp only [poff, List.drop_zero]; rw [List.take_of_length_le (by rw [hr.length]; exact Nat.le_refl _)]; exact hr, List.Sublist.refl _, by simp [poff, hr.length]⟩
    | cons q p =>
      have hlen := hr.length
      obtain ⟨b1, b2, h1, h2, h3⟩ := hr
      have l1 := h1.length
      have l2 := h2.length
      simp [Ty.size] at hlen l1 l2
      cases q with
      | idx i => simp [getP] at hg
      | fld j =>
        cases j with
        | zero =>
          obtain ⟨b, q1, q2, q3⟩ := iha hg hp h1
          refine ⟨b, ?_, by rw [h3]; exact q2.trans (List.sublist_append_left _ _), ?_⟩
          · simp only [poff]
            rw [List.drop_take, List.take_take] at q1
            simp at q3
            rwa [show min t'.size (a.size - poff a p) = t'.size by omega] at q1
          · simp only [poff]; simp at q3; omega
        | succ j =>
          obtain ⟨b, q1, q2, q3⟩ := ihb (p := .fld j :: p) hg hp h2
          refine ⟨b, ?_, by rw [h3]; exact q2.trans (List.sublist_append_right _ _), ?_⟩
          · simp only [poff]; rw [List.drop_drop] at q1; exact q1
          · simp only [poff]; simp at q3; omega
  | arr n t ih =>
    intro p v t' x cs bs hg hp hr
    cases p with
    | nil => simp only [getP] at hg; cases hg; exact ⟨bs, by simp only [poff, List.drop_zero]; rw [List.take_of_length_le (by rw [hr.length]; exact Nat.le_refl _)]; exact hr, List.Sublist.refl _, by simp [poff, hr.length]⟩
    | cons q p =>
      obtain ⟨hl, hr⟩ := hr
      cases q with
      | fld j => simp [getP] at hg
      | idx i =>
        obtain ⟨hi, hp⟩ := hp
        obtain ⟨b0, r1, r2⟩ := hr.get (tlist_get t.dflt n v i hi)
        obtain ⟨b, q1, q2, q3⟩ := ih hg hp r1
        have r3 := r1.length
        refine ⟨b, ?_, q2.trans r2, ?_⟩
        · simp only [poff]
          rw [List.drop_take, List.take_take, List.drop_drop] at q1
          simp at q3
          rwa [show min t'.size (t.size - poff t p) = t'.size by omega] at q1
        · simp only [poff]
          rw [r3] at q3
          have : (i + 1) * t.size ≤ n * t.size := Nat.mul_le_mul_right _ hi
          rw [Nat.succ_mul] at this
          omega
structure Tp (w w0 : World) : Prop where
  tape : w.tape = w0.tape
  dr : w0.drawn ≤ w.drawn
theorem Tp.trans {a b c : World} (h : Tp a b) (k : Tp b c) : Tp a c := ⟨h.1.trans k.1, Nat.le_trans k.2 h.2⟩
theorem Tp.refl {a : World} : Tp a a := ⟨rfl, Nat.le_refl _⟩
structure NS where
  n : Nat
  k : Bool
  v : Value
def NS.has (n : NS) (d : Nat) : Prop := d < n.n ∧ (n.k = true → d ≠ 0)
structure St (n : NS) (w0 : World) (W : Nat → Prop) (g : Gh) (env : Nat → Ent) (a : Act) (w : World) : Prop where
  inv : Inv g w0.heap w.heap W
  ent : ∀ s, EntR g w.heap s (env s) (a.tmps.getD s undef)
  sz : a.tmps.size = n.n ∧ (n.k = true → a.tmps.getD 0 undef = n.v)
  df : a.defers = []
  os : w.os = w0.os
  tape : Tp w w0
  output : w.output = w0.output
def upd (env : Nat → Ent) (d : Nat) (e : Ent) : Nat → Ent := fun s => if s = d then e else env s
def upds (env : Nat → Ent) : List (Nat × Ent) → Nat → Ent
  | [] => env
  | (d, e) :: r => upds (upd env d e) r
theorem put_getD {a : Act} {d s : Nat} {v : Value} (hd : d < a.tmps.size) : (a.put (some d) v).tmps.getD s undef = if s = d then v else a.tmps.getD s undef := by
  simp only [Act.put, Array.getD_eq_getD_getElem?, Array.getElem?_setIfInBounds]
  by_cases h : s = d
  · subst h; simp [hd]
  · rw [if_neg (fun e : d = s => h e.symm), if_neg h]
theorem St.szPut {n : NS} {w0 w : World} {W : Nat → Prop} {g : Gh} {env : Nat → Ent} {a : Act} {d : Nat} {v : Value} (st : St n w0 W g env a w) (hd : n.has d) :
    (a.put (some d) v).tmps.size = n.n ∧ (n.k = true → (a.put (some d) v).tmps.getD 0 undef = n.v) := by
  refine ⟨by simp [Act.put, st.sz.1], fun hk => ?_⟩
  rw [put_getD (by rw [st.sz.1]; exact hd.1), if_neg (fun e => hd.2 hk e.symm)]
  exact st.sz.2 hk
theorem St.put {n : NS} {w0 w w' : World} {W : Nat → Prop} {g g' : Gh} {env : Nat → Ent} {a : Act} {d : Nat} {e : Ent} {v : Value} (st : St n w0 W g env a w) (hd : n.has d)
    (x : Ext d g w.heap g' w'.heap) (inv : Inv g' w0.heap w'.heap W) (os : w'.os = w.os) (tape : Tp w' w) (output : w'.output = w.output)
    (clean : ∀ s, s ≠ d → (env s).at d = false) (he : EntR g' w'.heap d e v) : St n w0 W g' (upd env d e) (a.put (some d) v) w' where
  inv := inv
  ent s := by
    rw [put_getD (by rw [st.sz.1]; exact hd.1)]
    unfold upd
    split
    · rename_i h; rw [h]; exact he
    · rename_i h; exact (st.ent s).ext x h (clean s h)
  sz := st.szPut hd
  df := by simp [Act.put, st.df]
  os := os.trans st.os
  tape := tape.trans st.tape
  output := output.trans st.output
theorem Ext.refl (d : Nat) (g : Gh) (h : Mem) : Ext d g h g h := ⟨Nat.le_refl _, fun _ _ => .inl rfl, fun _ _ => rfl, fun _ _ => rfl, fun _ _ => rfl, fun _ _ => rfl, fun _ _ => rfl⟩
theorem St.put0 {n : NS} {w0 w : World} {W : Nat → Prop} {g : Gh} {env : Nat → Ent} {a : Act} {d : Nat} {e : Ent} {v : Value} (st : St n w0 W g env a w) (hd : n.has d)
    (clean : ∀ s, s ≠ d → (env s).at d = false) (he : EntR g w.heap d e v) : St n w0 W g (upd env d e) (a.put (some d) v) w :=
  st.put hd (Ext.refl d g w.heap) st.inv rfl Tp.refl rfl clean he
theorem addr_add (b o k : Nat) : (⟨b, o, none⟩ : Addr).add k = ⟨b, o + k, none⟩ := by unfold Addr.add; split <;> simp_all
section
variable {g : Gh} {P : Program} {T : TTab} {w : World}
theorem getP_ty : ∀ {t : Ty} {p : List PStep} {v : t.den} {t' : Ty} {x : t'.den}, getP t v p = some ⟨t', x⟩ → tyP t p = some t' := by
  intro t
  induction t with
  | pair a b iha ihb =>
    intro p v t' x h
    cases p with
    | nil => simp only [getP] at h; cases h; rfl
    | cons q p =>
      cases q with
      | idx i => simp [getP] at h
      | fld j => cases j with
        | zero => exact iha (p := p) h
        | succ j => exact ihb (p := .fld j :: p) h
  | arr n t ih =>
    intro p v t' x h
    cases p with
    | nil => simp only [getP] at h; cases h; rfl
    | cons q p => cases q with
      | idx i => exact ih (p := p) h
      | fld j => simp [getP] at h
  | int k => intro p v t' x h; cases p with | nil => simp only [getP] at h; cases h; rfl | cons q p => cases q <;> simp [getP] at h
  | bool => intro p v t' x h; cases p with | nil => simp only [getP] at h; cases h; rfl | cons q p => cases q <;> simp [getP] at h
  | unit => intro p v t' x h; cases p with | nil => simp only [getP] at h; cases h; rfl | cons q p => cases q <;> simp [getP] at h
  | slice e t _ => intro p v t' x h; cases p with | nil => simp only [getP] at h; cases h; rfl | cons q p => cases q <;> simp [getP] at h
theorem mkfz_ty (t : Ty) (reg : Nat) (lin : Bool) (v : t.den) : (mkfz t reg lin v).ty = t := by unfold mkfz; cases t.flat <;> rfl
theorem mkfz_B {h : Mem} {t : Ty} {reg : Nat} {lin : Bool} {v : t.den} {cs : List Value} {bs : List Nat} (h1 : Rd h t v cs bs) (h2 : ∀ b ∈ bs, g.kd b = .fz) (h3 : reg ≠ 0 → ∀ b ∈ bs, g.own b = reg)
    (h4 : lin = true → LinOk g reg bs) : LeafB g h (mkfz t reg lin v) cs bs := by
  unfold mkfz
  cases hf : t.flat with
  | true => exact ⟨h1, h2, by simp, by simp⟩
  | false => exact ⟨h1, h2, h3, h4⟩
theorem flatAt_B {h : Mem} {l l' : Leaf} {p : List PStep} {cs : List Value} {bs : List Nat} (hl : LeafB g h l cs bs) (hp : pin l.ty p) (hf : l.flatAt p = some l') :
    tyP l.ty p = some l'.ty ∧ ∃ b, LeafB g h l' ((cs.drop (poff l.ty p)).take l'.ty.size) b ∧ b.Sublist bs ∧ poff l.ty p + l'.ty.size ≤ cs.length := by
  have hnil : ∀ l : Leaf, LeafB g h l cs bs → tyP l.ty [] = some l.ty ∧ ∃ b, LeafB g h l ((cs.drop (poff l.ty [])).take l.ty.size) b ∧ b.Sublist bs ∧ poff l.ty [] + l.ty.size ≤ cs.length := by
    intro l hl
    have e : poff l.ty [] = 0 := by cases l.ty <;> rfl
    have e2 : tyP l.ty [] = some l.ty := by cases l.ty <;> rfl
    refine ⟨e2, bs, ?_, List.Sublist.refl _, by rw [e, hl.rd.length]; omega⟩
    rw [e, List.drop_zero, List.take_of_length_le (by rw [hl.rd.length]; exact Nat.le_refl _)]; exact hl
  cases p with
  | nil => simp only [Leaf.flatAt] at hf; injection hf with hf; subst hf; exact hnil _ hl
  | cons q p =>
    cases l with
    | rt e t tag sub lin st v => simp [Leaf.flatAt] at hf
    | fz t reg lin v =>
      simp only [Leaf.flatAt] at hf
      split at hf
      · rename_i t' x hg
        injection hf with hf
        obtain ⟨h1, h2, h3, h4⟩ := hl
        obtain ⟨b, q1, q2, q3⟩ := Rd.path hg hp h1
        have key : LeafB g h (mkfz t' reg lin x) ((cs.drop (poff t (q :: p))).take t'.size) b := mkfz_B q1 (fun y hy => h2 y (q2.subset hy)) (fun hr y hy => h3 hr y (q2.subset hy)) (fun hl => (h4 hl).sub q2)
        have e : mkfz t' reg lin x = l' := hf
        rw [← e]
        simp only [mkfz_ty]
        exact ⟨getP_ty hg, b, key, q2, q3⟩
      · cases hf
theorem eqb_eq {a b : Ty} (h : a.eqb b = true) : a = b := Ty.eq_of_eqb h
theorem elemL_B {h : Mem} {l l1 : Leaf} {i n : Nat} {b o m cap : Nat} {bs : List Nat} (hl : LeafB g h l [.slice (some ⟨b, o, none⟩) m cap] bs) (hn : lenL l = some n) (hi : i < n) (he : elemL l i = some l1) :
    l1.ty = elemTy l ∧ ∃ c e fr b', h[b]? = some (.cells c e fr) ∧ LeafB g h l1 ((c.toList.drop (o + i * (elemTy l).size)).take (elemTy l).size) b' ∧ b'.Sublist bs ∧ o + i * (elemTy l).size + (elemTy l).size ≤ c.size := by
  have bound : ∀ {c : Array Value} {cap len sz : Nat}, o + cap * sz ≤ c.size → len ≤ cap → i < len → o + i * sz + sz ≤ c.size := by
    intro c cap len sz h1 h2 h3
    have : (i + 1) * sz ≤ cap * sz := Nat.mul_le_mul_right _ (by omega)
    rw [Nat.succ_mul] at this; omega
  have gd : ∀ {α : Type} (l : List α) (d : α), i < l.length → l[i]? = some (l.getD i d) := fun l d hi => by
    rw [List.getD_eq_getElem?_getD]; rw [List.getElem?_eq_getElem hi]; rfl
  cases l with
  | fz t reg lin v =>
    cases t with
    | slice e t =>
      simp only [lenL, Option.some.injEq] at hn; subst hn
      simp only [elemL, Option.some.injEq] at he
      obtain ⟨⟨hd, blk, bs', h1, h2, h3⟩, k1, k2, k3⟩ := hl
      injection h1 with h1 _; subst h1; subst h3
      rcases h2 with ⟨_, _, h2, _⟩ | ⟨b2, o2, cap2, c, fr, e1, e2, ⟨e3, _⟩, ⟨e, e4⟩, e5, e6⟩
      · rw [h2] at hi; exact absurd hi (Nat.not_lt_zero _)
      · injection e1 with e1 e1' e1''; injection e1 with e1; injection e1 with e1 e1o _; subst e1; subst e1o; subst e2
        obtain ⟨b', r1, r2⟩ := e6.get (gd v t.dflt hi)
        rw [List.drop_drop] at r1
        have r3 : b'.Sublist (Option.toList (some b) ++ bs') := r2.trans (List.sublist_append_right _ _)
        refine ⟨by rw [← he]; exact mkfz_ty _ _ _ _, c, e, fr, b', e4, ?_, r3, bound e5 e3 hi⟩
        rw [← he]
        exact mkfz_B r1 (fun y hy => k1 y (r3.subset hy)) (fun hr y hy => k2 hr y (r3.subset hy)) (fun hq => (k3 hq).sub r3)
    | _ => cases hn
  | rt e t tag sub lin st v =>
    simp only [lenL, Option.some.injEq] at hn; subst hn
    simp only [elemL, Option.some.injEq] at he
    obtain ⟨hd, blk, bs', h1, h3, _, _, h2, k1, k2, k3⟩ := hl
    injection h1 with h1 _; subst h1; subst h3
    rcases h2 with ⟨_, _, h2, _⟩ | ⟨b2, o2, cap2, c, fr, e1, e2, ⟨e3, _⟩, ⟨e, e4⟩, e5, e6⟩
    · rw [h2] at hi; exact absurd hi (Nat.not_lt_zero _)
    · injection e1 with e1 e1' e1''; injection e1 with e1; injection e1 with e1 e1o _; subst e1; subst e1o; subst e2
      obtain ⟨b', r1, r2⟩ := e6.get (gd v t.dflt hi)
      rw [List.drop_drop] at r1
      refine ⟨by rw [← he]; exact mkfz_ty _ _ _ _, c, e, fr, b', e4, ?_, r2.trans (List.sublist_append_right _ _), bound e5 e3 hi⟩
      rw [← he]
      exact mkfz_B r1 (fun y hy => k1 y (r2.subset hy)) (fun hr y hy => by
          cases lin with
          | true => exact (k3 rfl).1 y (r2.subset hy)
          | false => exact absurd rfl hr) (fun hq => by
          subst hq
          exact ⟨fun _ => (k3 rfl).2.sublist r2, fun q y hy => ((k3 rfl).1 y (r2.subset hy)).trans q⟩)
end
section
variable {g : Gh} {P : Program} {T : TTab} {w : World}
theorem run_sureAddr {b o : Nat} : (Instr.sureAddr (.pointer (some ⟨b, o, none⟩))).run P w = .ok ⟨b, o, none⟩ w := rfl
theorem leaf_load {t : TypeId} {l : Leaf} {b o : Nat} {c : Array Value} {e : TypeId} {fr : Nat × Nat} {bs : List Nat} (k : TyOK P T t l.ty) (hb : w.heap[b]? = some (.cells c e fr))
    (hl : LeafB g w.heap l ((c.toList.drop o).take l.ty.size) bs) (ho : o + l.ty.size ≤ c.size) :
    ∃ v, (Instr.loadAt t (.pointer (some ⟨b, o, none⟩))).run P w = .ok v w ∧ ValR g w.heap l.ty.agg [l] v := by
  refine ⟨_, ?_, hl.valR⟩
  simp only [Instr.loadAt, Sem.run_bind, run_sureAddr, Result.andThen_ok, run_loadVar k hb ho]
theorem poff_cons {t : Ty} {p : List PStep} {u : Ty} {q : List PStep} (h : tyP t p = some u) (hp : pin t p) (hq : pin u q) : tyP t (p ++ q) = tyP u q ∧ poff t (p ++ q) = poff t p + poff u q ∧ pin t (p ++ q) := by
  induction t generalizing p with
  | pair a b iha ihb =>
    cases p with
    | nil => simp only [tyP, Option.some.injEq] at h; subst h; exact ⟨rfl, by simp [poff], hq⟩
    | cons x p =>
      cases x with
      | idx i => simp [pin] at hp
      | fld j => cases j with
        | zero => obtain ⟨h1, h2, h3⟩ := iha (p := p) h hp; exact ⟨h1, h2, h3⟩
        | succ j => obtain ⟨h1, h2, h3⟩ := ihb (p := .fld j :: p) h hp; exact ⟨h1, by simp only [List.cons_append, poff] at h2 ⊢; omega, h3⟩
  | arr n t ih =>
    cases p with
    | nil => simp only [tyP, Option.some.injEq] at h; subst h; exact ⟨rfl, by simp [poff], hq⟩
    | cons x p =>
      cases x with
      | fld j => simp [pin] at hp
      | idx i => obtain ⟨h1, h2, h3⟩ := ih (p := p) h hp.2; exact ⟨h1, by simp only [List.cons_append, poff] at h2 ⊢; omega, hp.1, h3⟩
  | int k => cases p with | nil => simp only [tyP, Option.some.injEq] at h; subst h; exact ⟨rfl, by simp [poff], hq⟩ | cons x p => cases x <;> simp [pin] at hp
  | bool => cases p with | nil => simp only [tyP, Option.some.injEq] at h; subst h; exact ⟨rfl, by simp [poff], hq⟩ | cons x p => cases x <;> simp [pin] at hp
  | unit => cases p with | nil => simp only [tyP, Option.some.injEq] at h; subst h; exact ⟨rfl, by simp [poff], hq⟩ | cons x p => cases x <;> simp [pin] at hp
  | slice e t _ => cases p with | nil => simp only [tyP, Option.some.injEq] at h; subst h; exact ⟨rfl, by simp [poff], hq⟩ | cons x p => cases x <;> simp [pin] at hp
theorem load_sound {get : Nat → Ent} {a : Act} {t : TypeId} {ty : Ty} {x : Operand} {e r : Ent} (k : TyOK P T t ty) (hg : ∀ s, EntR g w.heap s (get s) (a.tmps.getD s undef))
    (hx : opE get x = some e) (hr : loadE get ty x e = some r) : ∃ v, (Instr.loadAt t (a.eval x)).run P w = .ok v w ∧ ∀ s, EntR g w.heap s r v := by
  obtain ⟨s0, he, hs0⟩ := opE_sound hg hx
  cases e with
  | box ro ls =>
    simp only [loadE] at hr
    split at hr
    · rename_i s
      cases hv : (valAs ty ls).isSome with
      | false => rw [hv] at hr; cases hr
      | true =>
        rw [hv] at hr; injection hr with hr; subst hr
        obtain ⟨y, hy⟩ := Option.isSome_iff_exists.1 hv
        obtain ⟨b, c, e, fr, bs, h1, h2, h3, _⟩ := he
        have hl := h3.length
        have hz := valAs_size hy
        have hrd := valAs_rd hy h3
        have hsz : ty.size = c.toList.length := by omega
        refine ⟨_, ?_, fun s => ⟨c.toList, bs, rfl, fun ha => ?_, h3⟩⟩
        · rw [h1]
          have ho : 0 + ty.size ≤ c.size := by rw [hsz]; simp
          simp only [Instr.loadAt, Sem.run_bind, run_sureAddr, Result.andThen_ok, run_loadVar k h2 ho]
          rw [List.drop_zero, hsz, List.take_length]
        · obtain ⟨v, hv1, hv2⟩ := hrd.one ha
          rw [hv1, ha]; exact ⟨rfl, hv2⟩
    · cases hr
  | ref s base t0 p =>
    obtain ⟨hp, hv⟩ := he
    simp only [loadE] at hr
    split at hr
    · rename_i ro ls hs
      have hb := hg s; rw [hs] at hb
      obtain ⟨b, c, e, fr, bs, h1, h2, h3, h4, _⟩ := hb
      split at hr
      · rename_i l hl
        cases h0 : l.ty.eqb t0 with
        | false => rw [h0] at hr; cases hr
        | true =>
          rw [h0] at hr
          have h0 := eqb_eq h0; subst h0
          simp only [cond_true] at hr
          split at hr
          · rename_i l' hf
            cases hq : l'.ty.eqb ty with
            | false => rw [hq] at hr; cases hr
            | true =>
              rw [hq] at hr; injection hr with hr; subst hr
              have hq := eqb_eq hq; subst hq
              obtain ⟨b1, q1, q2, q3⟩ := leafOff_get h3 hl
              obtain ⟨_, b2, r1, r2, r3⟩ := flatAt_B q1 hp hf
              have hlen : ((c.toList.drop base).take l.ty.size).length = l.ty.size := q1.rd.length
              rw [List.drop_take, List.take_take, List.drop_drop] at r1
              rw [hlen] at r3
              rw [show min l'.ty.size (l.ty.size - poff l.ty p) = l'.ty.size by omega] at r1
              obtain ⟨v, v1, v2⟩ := leaf_load (P := P) (T := T) k h2 r1 (by simp at q3; omega)
              refine ⟨v, ?_, fun s => v2⟩
              rw [hv, h4]; exact v1
          · cases hr
      · cases hr
    · cases hr
  | eref l i p =>
    obtain ⟨bs, b, o, n, cap, h1, h2, h3, h4, h5⟩ := he
    simp only [loadE] at hr
    split at hr
    · rename_i l1 hl1
      obtain ⟨e1, c, e, fr, b', q1, q2, q3, q4⟩ := elemL_B h1 h2 h3 hl1
      rw [← e1] at h4 h5 q2 q4
      split at hr
      · rename_i l' hf
        cases hq : l'.ty.eqb ty with
        | false => rw [hq] at hr; cases hr
        | true =>
          rw [hq] at hr; injection hr with hr; subst hr
          have hq := eqb_eq hq; subst hq
          obtain ⟨_, b2, r1, r2, r3⟩ := flatAt_B q2 h4 hf
          have hlen : ((c.toList.drop (o + i * l1.ty.size)).take l1.ty.size).length = l1.ty.size := q2.rd.length
          rw [List.drop_take, List.take_take, List.drop_drop] at r1
          rw [hlen] at r3
          rw [show min l'.ty.size (l1.ty.size - poff l1.ty p) = l'.ty.size by omega] at r1
          obtain ⟨v, v1, v2⟩ := leaf_load (P := P) (T := T) k q1 r1 (by omega)
          refine ⟨v, ?_, fun s => v2⟩
          rw [h5]; exact v1
      · cases hr
    · cases hr
  | _ => simp [loadE] at hr
theorem FsOK.at {fs : List Field} : ∀ {ty : Ty} {off j : Nat} {u : Ty}, FsOK P T fs ty off → tyP ty [.fld j] = some u →
    ∃ f, fs[j]? = some f ∧ f.offset = off + poff ty [.fld j] ∧ tyOf T f.type = some u ∧ u.size ≠ 0 := by
  induction fs with
  | nil => intro ty off j u hf hu; cases ty <;> first | exact hf.elim | (cases j <;> simp [tyP] at hu)
  | cons f fs ih =>
    intro ty off j u hf hu
    cases ty with
    | pair a b =>
      obtain ⟨h1, h2, h3, h4, h5⟩ := hf
      cases j with
      | zero =>
        have : tyP a [] = some a := by cases a <;> rfl
        simp only [tyP] at hu; injection hu with hu; subst hu
        have e : poff a [] = 0 := by cases a <;> rfl
        exact ⟨f, rfl, by simp only [poff, e]; omega, h2, h4⟩
      | succ j =>
        obtain ⟨f', q1, q2, q3, q4⟩ := ih h5 (j := j) hu
        exact ⟨f', by simpa using q1, by simp only [poff] at q2 ⊢; omega, q3, q4⟩
    | _ => exact hf.elim
theorem struct_und {t : TypeId} {ty : Ty} (k : TyOK P T t ty) (hs : ty.isStruct = true) : ∃ fs, P.underlying t = some (.struct fs) ∧ P.stoodInHeld t = false ∧ FsOK P T fs.toList ty 0 := by
  have := k.und
  cases ty <;> first | exact this | cases hs
theorem run_fieldAt {t : TypeId} {ty u : Ty} {j b o : Nat} (hT : TOK P T) (k : TyOK P T t ty) (hs : ty.isStruct = true) (hu : tyP ty [.fld j] = some u) :
    (Instr.fieldAt t (.pointer (some ⟨b, o, none⟩)) j).run P w = .ok (.pointer (some ⟨b, o + poff ty [.fld j], none⟩)) w := by
  obtain ⟨fs, h1, _, h2⟩ := struct_und k hs
  obtain ⟨f, q1, q2, q3, q4⟩ := h2.at hu
  have q1' : fs[j]? = some f := by simpa using q1
  simp only [Instr.fieldAt, Sem.run_bind, run_underlying h1, Result.andThen_ok, q1', run_sureAddr, fieldPlace, sizeOf_of (hT _ _ q3), if_neg q4, Sem.run_pure]
  rw [addr_add, q2, Nat.zero_add]
theorem leafAt_of : ∀ {ty : Ty} {ls : List Leaf} {x : ty.den} {j o : Nat} {l : Leaf}, valMany ty ls = some x → leafAt ls j = some (o, l) → tyP ty [.fld j] = some l.ty ∧ poff ty [.fld j] = o := by
  intro ty
  induction ty with
  | pair a b _ ihb =>
    intro ls x j o l hv hl
    cases ls with
    | nil => cases hv
    | cons l0 r =>
      simp only [valMany] at hv
      split at hv
      · rename_i y z e1 e2
        have ea := cast_ty e1
        cases j with
        | zero =>
          simp only [leafAt, Option.some.injEq, Prod.mk.injEq] at hl
          obtain ⟨rfl, rfl⟩ := hl
          have e1 : tyP a [] = some a := by cases a <;> rfl
          have e : poff a [] = 0 := by cases a <;> rfl
          simp only [tyP, poff, e1, e, ea]; exact ⟨trivial, trivial⟩
        | succ j =>
          simp only [leafAt] at hl
          split at hl
          · rename_i o' x' hl'
            injection hl with hl; injection hl with hl1 hl2; subst hl1; subst hl2
            obtain ⟨q1, q2⟩ := ihb e2 hl'
            exact ⟨q1, by simp only [poff, q2, ea]⟩
          · cases hl
      · cases hv
  | unit => intro ls x j o l hv hl; cases ls with | nil => cases hl | cons l0 r => cases hv
  | int k => intro ls x j o l hv; cases hv
  | bool => intro ls x j o l hv; cases hv
  | arr n t _ => intro ls x j o l hv; cases hv
  | slice e t _ => intro ls x j o l hv; cases hv
theorem tyIs_eq {t u : Ty} {p : List PStep} (h : tyIs t p u = true) : tyP t p = some u := by
  unfold tyIs at h
  split at h
  · rename_i t' ht; rw [ht, eqb_eq h]
  · cases h
theorem pin_fld {t u : Ty} {j : Nat} (h : tyP t [.fld j] = some u) : pin t [.fld j] := by
  induction t generalizing j with
  | pair a b iha ihb =>
    cases j with
    | zero => cases a <;> trivial
    | succ j => exact ihb h
  | _ => cases j <;> simp [tyP] at h
theorem field_sound {get : Nat → Ent} {a : Act} {t : TypeId} {ty : Ty} {x : Operand} {e r : Ent} {j : Nat} (hT : TOK P T) (k : TyOK P T t ty) (hg : ∀ s, EntR g w.heap s (get s) (a.tmps.getD s undef))
    (hx : opE get x = some e) (hr : fieldE ty x e j = some r) : ∃ v, (Instr.fieldAt t (a.eval x) j).run P w = .ok v w ∧ ∀ s, EntR g w.heap s r v := by
  obtain ⟨s0, he, hs0⟩ := opE_sound hg hx
  unfold fieldE at hr
  cases hc : (ty.isStruct && (tyP ty [.fld j]).isSome) with
  | false => rw [hc] at hr; cases hr
  | true =>
    rw [hc] at hr
    simp only [Bool.and_eq_true] at hc
    obtain ⟨hs, hu⟩ := hc
    obtain ⟨u, hu⟩ := Option.isSome_iff_exists.1 hu
    simp only [cond_true] at hr
    cases e with
    | box ro ls =>
      simp only at hr
      split at hr
      · rename_i s
        cases hv : (valMany ty ls).isSome with
        | false => rw [hv] at hr; cases hr
        | true =>
          rw [hv] at hr; simp only [cond_true] at hr
          obtain ⟨y, hy⟩ := Option.isSome_iff_exists.1 hv
          split at hr
          · rename_i o l hl
            injection hr with hr; subst hr
            obtain ⟨b, c, e, fr, bs, h1, h2, h3, h4, _⟩ := he
            obtain ⟨q1, q2⟩ := leafAt_of hy hl
            have hs' := (hs0 s rfl).1
            refine ⟨_, by rw [h1]; exact run_fieldAt hT k hs hu, fun s' => ⟨by cases l.ty <;> trivial, ?_⟩⟩
            have e0 : poff l.ty [] = 0 := by cases l.ty <;> rfl
            rw [← hs', h4, q2, e0]; simp
          · cases hr
      · cases hr
    | ref s base t0 p =>
      simp only at hr
      cases hv : tyIs t0 p ty with
      | false => rw [hv] at hr; cases hr
      | true =>
        rw [hv] at hr; injection hr with hr; subst hr
        obtain ⟨h1, h2⟩ := he
        obtain ⟨q1, q2, q3⟩ := poff_cons (tyIs_eq hv) h1 (pin_fld hu)
        refine ⟨_, by rw [h2]; exact run_fieldAt hT k hs hu, fun s' => ⟨q3, ?_⟩⟩
        rw [q2]; simp only [Nat.add_assoc]
    | eref l i p =>
      simp only at hr
      cases hv : tyIs (elemTy l) p ty with
      | false => rw [hv] at hr; cases hr
      | true =>
        rw [hv] at hr; injection hr with hr; subst hr
        obtain ⟨bs, b, o, n, cap, h1, h2, h3, h4, h5⟩ := he
        obtain ⟨q1, q2, q3⟩ := poff_cons (tyIs_eq hv) h4 (pin_fld hu)
        refine ⟨_, by rw [h5]; exact run_fieldAt hT k hs hu, fun s' => ⟨bs, b, o, n, cap, h1, h2, h3, q3, ?_⟩⟩
        rw [q2]; simp only [Nat.add_assoc]
    | _ => simp at hr
theorem lenL_eq {h : Mem} {l : Leaf} {n : Nat} {cs : List Value} {bs : List Nat} (hl : LeafB g h l cs bs) (hn : lenL l = some n) :
    (∃ p, cs = [.slice p 0 0] ∧ n = 0) ∨ ∃ b o cap, cs = [.slice (some ⟨b, o, none⟩) n cap] ∧ n ≤ cap := by
  cases l with
  | fz t reg lin v =>
    cases t with
    | slice e t =>
      simp only [lenL, Option.some.injEq] at hn; subst hn
      obtain ⟨⟨hd, blk, bs', rfl, h2, _⟩, _⟩ := hl
      rcases h2 with ⟨p, rfl, h2, _⟩ | ⟨b, o, cap, c, fr, rfl, _, e3, _⟩
      · exact .inl ⟨p, rfl, by have h2 : v = [] := h2; rw [h2]; rfl⟩
      · exact .inr ⟨b, o, cap, rfl, e3.1⟩
    | _ => cases hn
  | rt e t tag sub lin st v =>
    simp only [lenL, Option.some.injEq] at hn; subst hn
    obtain ⟨hd, blk, bs', rfl, _, _, _, h2, _⟩ := hl
    rcases h2 with ⟨p, rfl, h2, _⟩ | ⟨b, o, cap, c, fr, rfl, _, e3, _⟩
    · exact .inl ⟨p, rfl, by have h2 : v = [] := h2; rw [h2]; rfl⟩
    · exact .inr ⟨b, o, cap, rfl, e3.1⟩
theorem val1 {h : Mem} {l : Leaf} {v : Value} (hv : ValR g h false [l] v) : ∃ bs, LeafB g h l [v] bs ∧ v.cells = #[v] := by
  obtain ⟨cs, bs, h1, h2, b1, b2, h3, ⟨h4, h5⟩, h6⟩ := hv
  obtain ⟨hl, hc⟩ := h2 rfl
  match cs, hl with
  | [c], _ =>
    simp at h1; subst h1
    have : [v].take l.ty.size = [v] := by rw [List.drop_eq_nil_iff] at h4; exact List.take_of_length_le h4
    rw [this] at h3
    exact ⟨b1, h3, hc⟩
theorem idx_ok {i n : Int} (h : (decide (0 ≤ i) && decide (i < n)) = true) : 0 ≤ i ∧ i < n := by simpa using h
theorem elemTy_of {l : Leaf} {e : TypeId} {t : Ty} (h : l.ty = .slice e t) : elemTy l = t := by
  cases l with
  | fz t' reg lin v => simp only [Leaf.ty] at h; subst h; rfl
  | rt e' t' tag sub lin st v => simp only [Leaf.ty] at h; injection h with h1 h2
theorem index_sound {get : Nat → Ent} {a : Act} {t : TypeId} {ty : Ty} {x : Operand} {e r : Ent} {kk : IntKind} {i : Int} {c : Bool} (hT : TOK P T) (k : TyOK P T t ty)
    (hg : ∀ s, EntR g w.heap s (get s) (a.tmps.getD s undef))
    (hx : opE get x = some e) (hr : indexE ty x e i = some (c, r)) (hc : c = true) : ∃ v, (Instr.indexAt t (a.eval x) (.int kk i)).run P w = .ok v w ∧ ∀ s, EntR g w.heap s r v := by
  obtain ⟨s0, he, hs0⟩ := opE_sound hg hx
  have asInt : (asIntOf (.int kk i)).run P w = .ok (kk, i) w := rfl
  cases ty with
  | arr n u =>
    obtain ⟨e', hu, hte, hz, hn1⟩ := k.und
    have run : ∀ b o, 0 ≤ i ∧ i < n → (Instr.indexAt t (.pointer (some ⟨b, o, none⟩)) (.int kk i)).run P w = .ok (.pointer (some ⟨b, o + i.toNat * u.size, none⟩)) w := by
      intro b o hi
      simp only [Instr.indexAt, Sem.run_bind, asInt, Result.andThen_ok, run_underlying hu, run_sureAddr, Sem.run_pure, sizeOf_of (hT _ _ hte), if_pos hi]
      rw [addr_add]
    have e0 : ∀ u : Ty, poff u [] = 0 := fun u => by cases u <;> rfl
    have p0 : ∀ u : Ty, pin u [] := fun u => by cases u <;> trivial
    have one : ∀ t0 p base, tyP t0 p = some (.arr n u) → pin t0 p → 0 ≤ i ∧ i < n → pin t0 (p ++ [.idx i.toNat]) ∧ base + poff t0 (p ++ [.idx i.toNat]) = base + poff t0 p + i.toNat * u.size := by
      intro t0 p base h1 h2 hi
      obtain ⟨q1, q2, q3⟩ := poff_cons (q := [.idx i.toNat]) h1 h2 ⟨by omega, p0 u⟩
      exact ⟨q3, by rw [q2]; simp only [poff, e0]; omega⟩
    simp only [indexE] at hr
    cases e with
    | box ro ls =>
      match ls, he, hr with
      | [l], he, hr =>
        simp only at hr
        split at hr
        · rename_i s _ _
          cases hv : l.ty.eqb (.arr n u) with
          | false => rw [hv] at hr; cases hr
          | true =>
            rw [hv] at hr; injection hr with hr; injection hr with hr1 hr2; subst hr2; subst hc
            have hi := idx_ok hr1
            obtain ⟨b, c, e, fr, bs, h1, h2, h3, h4, _⟩ := he
            have hs' := (hs0 s rfl).1
            refine ⟨_, by rw [h1]; exact run b 0 hi, fun s' => ⟨⟨by omega, p0 u⟩, ?_⟩⟩
            rw [← hs', h4]; simp only [poff, e0]; simp
        · cases hr
      | [], _, hr => simp at hr
      | _ :: _ :: _, _, hr => simp at hr
    | ref s base t0 p =>
      simp only at hr
      cases hv : tyIs t0 p (.arr n u) with
      | false => rw [hv] at hr; cases hr
      | true =>
        rw [hv] at hr; injection hr with hr; injection hr with hr1 hr2; subst hr2; subst hc
        have hi := idx_ok hr1
        obtain ⟨h1, h2⟩ := he
        obtain ⟨q1, q2⟩ := one t0 p base (tyIs_eq hv) h1 hi
        refine ⟨_, by rw [h2]; exact run _ _ hi, fun s' => ⟨q1, ?_⟩⟩
        rw [q2]
    | eref l j p =>
      simp only at hr
      cases hv : tyIs (elemTy l) p (.arr n u) with
      | false => rw [hv] at hr; cases hr
      | true =>
        rw [hv] at hr; injection hr with hr; injection hr with hr1 hr2; subst hr2; subst hc
        have hi := idx_ok hr1
        obtain ⟨bs, b, o, m, cap, h1, h2, h3, h4, h5⟩ := he
        obtain ⟨q1, q2⟩ := one (elemTy l) p (o + j * (elemTy l).size) (tyIs_eq hv) h4 hi
        refine ⟨_, by rw [h5]; exact run _ _ hi, fun s' => ⟨bs, b, o, m, cap, h1, h2, h3, q1, ?_⟩⟩
        rw [q2]
    | _ => simp at hr
  | slice e' u =>
    obtain ⟨hu, hte, hz⟩ := k.und
    simp only [indexE] at hr
    split at hr
    · rename_i l
      cases hv : l.ty.eqb (.slice e' u) with
      | false => rw [hv] at hr; cases hr
      | true =>
        rw [hv] at hr; simp only [cond_true] at hr
        split at hr
        · rename_i n hn
          injection hr with hr; injection hr with hr1 hr2; subst hr2; subst hc
          have hi := idx_ok hr1
          obtain ⟨bs, hl, _⟩ := val1 he
          have et := elemTy_of (eqb_eq hv)
          rcases lenL_eq hl hn with ⟨_, _, h0⟩ | ⟨b, o, cap, h1, _⟩
          · omega
          · injection h1 with h1 _
            rw [h1] at hl ⊢
            refine ⟨.pointer (some ⟨b, o + i.toNat * u.size, none⟩), ?_, fun s' => ⟨bs, b, o, n, cap, hl, hn, by omega, by rw [et]; cases u <;> trivial, ?_⟩⟩
            · simp only [Instr.indexAt, Sem.run_bind, asInt, Result.andThen_ok, run_underlying hu, Sem.run_pure, sizeOf_of (hT _ _ hte), if_pos hi]
              rw [addr_add]
            · have e0 : poff u [] = 0 := by cases u <;> rfl
              rw [et, e0]; rfl
        · cases hr
    · cases hr
  | int _ => simp [indexE] at hr
  | bool => simp [indexE] at hr
  | unit => simp [indexE] at hr
  | pair _ _ => simp [indexE] at hr
end
theorem RdL.takes {α : Type} {R : α → List Value → List Nat → Prop} {n : Nat} : ∀ {l : List α} {cs : List Value} {bs : List Nat} (k : Nat), RdL R n l cs bs →
    ∃ b, RdL R n (l.take k) cs b ∧ b.Sublist bs
  | [], cs, bs, k, h => ⟨bs, by simpa using h, List.Sublist.refl _⟩
  | x :: xs, cs, bs, 0, h => ⟨[], by simp [RdL], List.nil_sublist _⟩
  | x :: xs, cs, bs, k + 1, ⟨b1, b2, h1, h2, h3⟩ => by
    obtain ⟨b, q1, q2⟩ := RdL.takes k h2
    exact ⟨b1 ++ b, ⟨b1, b, h1, q1, rfl⟩, by rw [h3]; exact List.Sublist.append (List.Sublist.refl _) q2⟩
theorem RdL.drops {α : Type} {R : α → List Value → List Nat → Prop} {n : Nat} : ∀ {l : List α} {cs : List Value} {bs : List Nat} (k : Nat), RdL R n l cs bs →
    ∃ b, RdL R n (l.drop k) (cs.drop (k * n)) b ∧ b.Sublist bs
  | [], cs, bs, k, h => ⟨bs, by simpa [RdL] using h, List.Sublist.refl _⟩
  | x :: xs, cs, bs, 0, h => ⟨bs, by simpa using h, List.Sublist.refl _⟩
  | x :: xs, cs, bs, k + 1, ⟨b1, b2, h1, h2, h3⟩ => by
    obtain ⟨b, q1, q2⟩ := RdL.drops k h2
    refine ⟨b, ?_, by rw [h3]; exact q2.trans (List.sublist_append_right _ _)⟩
    rw [List.drop_drop] at q1
    rw [Nat.succ_mul, Nat.add_comm (k * n) n]; exact q1
section
variable {g : Gh} {P : Program} {T : TTab} {w : World}
def cutV (hd : Value) (size b h : Nat) : Value :=
  match hd with
  | .slice a len cap => .slice (if cap = b then a else a.map (·.add (b * size))) (h - b) (cap - b)
  | v => v
theorem run_slice {t e : TypeId} {u : Ty} (hu : P.underlying t = some (.slice e)) (ku : TyOK P T e u) {a : Option Addr} {len cap : Nat} {lo hi : Option Value} {b h : Int}
    (hlo : (lo = none ∧ b = 0) ∨ ∃ k, lo = some (.int k b)) (hhi : (hi = none ∧ h = len) ∨ ∃ k, hi = some (.int k h)) (h1 : 0 ≤ b) (h2 : b ≤ h) (h3 : h ≤ len) (h4 : len ≤ cap) :
    (Instr.sliceAt t (.slice a len cap) lo hi none).run P w = .ok (cutV (.slice a len cap) u.size b.toNat h.toNat) w := by
  have bound : ∀ (k : IntKind) (i : Int) (y : Nat) (c : BoundsCode), 0 ≤ i ∧ i ≤ y → (Instr.sliceBound (.int k i) y c).run P w = .ok i.toNat w := by
    intro k i y c hi
    simp only [Instr.sliceBound, Sem.run_bind, show (asIntOf (.int k i)).run P w = .ok (k, i) w from rfl, Result.andThen_ok, if_pos hi, Sem.run_pure]
  have hb : (Instr.sliceBounds true len cap lo hi none).run P w = .ok (b.toNat, h.toNat, cap) w := by
    unfold Instr.sliceBounds
    rcases hhi with ⟨rfl, rfl⟩ | ⟨k, rfl⟩ <;> rcases hlo with ⟨rfl, rfl⟩ | ⟨k', rfl⟩
    · simp [Sem.run_bind, Result.andThen_ok]
    · simp only [Sem.run_bind, Sem.run_pure, Result.andThen_ok, bound k' b len _ ⟨h1, by omega⟩]; simp [bound k' b len _ ⟨h1, by omega⟩]
    · simp [Sem.run_bind, Result.andThen_ok, bound k h cap _ ⟨by omega, by omega⟩]
    · have e : (h.toNat : Int) = h := by omega
      simp [Sem.run_bind, Result.andThen_ok, bound k h cap _ ⟨by omega, by omega⟩, bound k' b h.toNat _ ⟨h1, by omega⟩]
  simp only [Instr.sliceAt, Sem.run_bind, run_underlying hu, Result.andThen_ok, Instr.slice, hb, sizeOf_of ku, Sem.run_pure, cutV]
theorem cut_SlR {h : Mem} {e : TypeId} {u : Ty} {l : List u.den} {hd : Value} {blk : Option Nat} {bs : List Nat} {b k : Nat} (hs : SlR h e u.size (Rd h u) l hd blk bs) (h1 : b ≤ k) (h2 : k ≤ l.length) :
    ∃ blk' bs', SlR h e u.size (Rd h u) ((l.take k).drop b) (cutV hd u.size b k) blk' bs' ∧ (∀ z, blk' = some z → blk = some z) ∧ bs'.Sublist bs := by
  rcases hs with ⟨p, rfl, rfl, rfl, rfl⟩ | ⟨b0, o, cap, c, fr, e1, e2, e3, e4, e5, e6⟩
  · simp at h2; subst h2; obtain rfl : b = 0 := by omega
    exact ⟨none, [], .inl ⟨p, by simp [cutV], by simp, rfl, rfl⟩, fun z hz => (by cases hz), List.Sublist.refl _⟩
  · obtain ⟨b1, q1, q2⟩ := e6.takes k
    obtain ⟨b2, r1, r2⟩ := q1.drops b
    have hlen : ((l.take k).drop b).length = k - b := by simp; omega
    subst e1
    by_cases hc : cap = b
    · have hk : k = b := by omega
      have : (l.take k).drop b = [] := by simp; omega
      exact ⟨none, [], .inl ⟨some ⟨b0, o, none⟩, by simp [cutV, hc, hk], this, rfl, rfl⟩, fun z hz => (by cases hz), List.nil_sublist _⟩
    · refine ⟨some b0, b2, .inr ⟨b0, o + b * u.size, cap - b, c, fr, by simp [cutV, hc, addr_add, Option.map, hlen], rfl, ⟨by rw [hlen]; omega, by omega⟩, e4, ?_, ?_⟩, fun z hz => by rw [e2, ← hz], r2.trans q2⟩
      · have : (cap - b) * u.size + b * u.size = cap * u.size := by rw [← Nat.add_mul]; congr 1; omega
        omega
      · rw [List.drop_drop] at r1; exact r1
theorem cut_cells (hd : Value) (size b k : Nat) (hc : hd.cells = #[hd]) : (cutV hd size b k).cells = #[cutV hd size b k] := by
  unfold cutV; split <;> first | rfl | exact hc
theorem sliceL_B {h : Mem} {l l' : Leaf} {hd : Value} {bs : List Nat} {n b k : Nat} (hl : LeafB g h l [hd] bs) (hn : lenL l = some n) (hs : sliceL l b k = some l') (h1 : b ≤ k) (h2 : k ≤ n) :
    ∃ bs', LeafB g h l' [cutV hd (elemTy l).size b k] bs' := by
  cases l with
  | fz t reg lin v =>
    cases t with
    | slice e t =>
      simp only [lenL, Option.some.injEq] at hn; subst hn
      simp only [sliceL, Option.some.injEq] at hs; subst hs
      obtain ⟨⟨hd', blk, bs1, r1, r2, r3⟩, k1, k2, k3⟩ := hl
      injection r1 with r1 _; subst r1; subst r3
      obtain ⟨blk', bs', q1, q3, q2⟩ := cut_SlR r2 h1 h2
      have sub : (blk'.toList ++ bs').Sublist (blk.toList ++ bs1) := by
        refine List.Sublist.append ?_ q2
        cases hb : blk' with
        | none => exact List.nil_sublist _
        | some z => rw [q3 z hb]; exact List.Sublist.refl _
      exact ⟨_, ⟨_, blk', bs', rfl, q1, rfl⟩, fun y hy => k1 y (sub.subset hy), fun r y hy => k2 r y (sub.subset hy), fun hh => (k3 hh).sub sub⟩
    | _ => cases hn
  | rt e t tag sub lin st v =>
    simp only [lenL, Option.some.injEq] at hn; subst hn
    simp only [sliceL, Option.some.injEq] at hs; subst hs
    obtain ⟨hd', blk, bs1, r1, r3, _, _, r2, k1, k2, k3⟩ := hl
    injection r1 with r1 _; subst r1; subst r3
    obtain ⟨blk', bs', q1, q3, q2⟩ := cut_SlR r2 h1 h2
    exact ⟨_, _, blk', bs', rfl, rfl, fun hh => (by cases hh), fun hh => (by cases hh), q1, fun y hy => k1 y (q2.subset hy), fun z hz => k2 z (q3 z hz), fun hh => ⟨fun y hy => (k3 hh).1 y (q2.subset hy), (k3 hh).2.sublist q2⟩⟩
theorem LeafB.val1 {h : Mem} {l : Leaf} {v : Value} {bs : List Nat} (hl : LeafB g h l [v] bs) (hc : v.cells = #[v]) (s : Nat) : EntR g h s (.val false [l]) v := by
  have h1 := hl.rd.length
  exact ⟨[v], bs, rfl, fun _ => ⟨rfl, hc⟩, bs, [], by rw [List.take_of_length_le (by rw [h1]; exact Nat.le_refl _)]; exact hl, ⟨by rw [List.drop_eq_nil_iff, h1]; exact Nat.le_refl _, rfl⟩, by simp⟩
theorem optI_sound {get : Nat → Ent} {a : Act} {x : Option Operand} {r : Option Int} (hg : ∀ s, EntR g w.heap s (get s) (a.tmps.getD s undef)) (hx : optI get x = some r) :
    (x = none ∧ r = none) ∨ ∃ k n, r = some n ∧ x.map a.eval = some (.int k n) := by
  cases x with
  | none => simp only [optI, Option.some.injEq] at hx; exact .inl ⟨rfl, hx.symm⟩
  | some x =>
    simp only [optI] at hx
    split at hx
    · rename_i e he
      split at hx
      · rename_i k n hi
        injection hx with hx; subst hx
        obtain ⟨s, h1, _⟩ := opE_sound hg he
        exact .inr ⟨k, n, rfl, by rw [Option.map_some, (asI_inv h1 hi).1]⟩
      · cases hx
    · cases hx
theorem slice_sound {get : Nat → Ent} {a : Act} {t e' : TypeId} {u : Ty} {x : Operand} {lo hi : Option Operand} {l h : Option Int} {e r : Ent} {c : Bool} (hT : TOK P T) (k : TyOK P T t (.slice e' u))
    (hg : ∀ s, EntR g w.heap s (get s) (a.tmps.getD s undef)) (hx : opE get x = some e) (hlo : optI get lo = some l) (hhi : optI get hi = some h) (hr : sliceE (.slice e' u) e l h = some (c, r)) (hc : c = true) :
    ∃ v, (Instr.sliceAt t (a.eval x) (lo.map a.eval) (hi.map a.eval) none).run P w = .ok v w ∧ ∀ s, EntR g w.heap s r v := by
  obtain ⟨s0, he, hs0⟩ := opE_sound hg hx
  obtain ⟨hu, hte, hz⟩ := k.und
  unfold sliceE at hr
  split at hr
  · rename_i lf
    cases ht : lf.ty.eqb (.slice e' u) with
    | false => rw [ht] at hr; cases hr
    | true =>
      rw [ht] at hr; simp only [cond_true] at hr
      split at hr
      · rename_i n hn
        split at hr
        · rename_i l' hl'
          injection hr with hr; injection hr with hr1 hr2; subst hr2; subst hc
          simp only [Bool.and_eq_true, decide_eq_true_eq] at hr1
          obtain ⟨⟨c1, c2⟩, c3⟩ := hr1
          obtain ⟨bs, hl, _⟩ := val1 he
          have et := elemTy_of (eqb_eq ht)
          have main : ∀ a0 cap, a.eval x = .slice a0 n cap → n ≤ cap → ∃ v, (Instr.sliceAt t (a.eval x) (lo.map a.eval) (hi.map a.eval) none).run P w = .ok v w ∧ ∀ s, EntR g w.heap s (.val false [l']) v := by
            intro a0 cap hv hcap
            refine ⟨cutV (a.eval x) u.size (lo0 l).toNat (hi0 n h).toNat, ?_, fun s => ?_⟩
            · rw [hv]
              refine run_slice hu (hT _ _ hte) ?_ ?_ c1 c2 c3 hcap
              · rcases optI_sound hg hlo with ⟨rfl, rfl⟩ | ⟨kk, m, rfl, h2⟩
                · exact .inl ⟨rfl, rfl⟩
                · exact .inr ⟨kk, h2⟩
              · rcases optI_sound hg hhi with ⟨rfl, rfl⟩ | ⟨kk, m, rfl, h2⟩
                · exact .inl ⟨rfl, rfl⟩
                · exact .inr ⟨kk, h2⟩
            · obtain ⟨bs', q⟩ := sliceL_B hl hn hl' (by omega) (by omega)
              rw [et] at q
              exact q.val1 (cut_cells _ _ _ _ (by rw [hv]; rfl)) s
          rcases lenL_eq hl hn with ⟨p0, h1, h0⟩ | ⟨b, o, cap, h1, hcap⟩
          · injection h1 with h1 _; exact main p0 0 (by rw [h1, h0]) (by omega)
          · injection h1 with h1 _; exact main _ cap h1 hcap
        · cases hr
      · cases hr
  · cases hr
theorem len_sound {s : Nat} {l : Leaf} {v : Value} {n : Nat} {t : TypeId} {e : TypeId} {ty : TypeId} (hu : P.underlying t = some (.slice e)) (he : EntR g w.heap s (.val false [l]) v) (hn : lenL l = some n) :
    (Builtin.len_ #[t] ty #[v]).run P w = .ok (goInt n) w := by
  obtain ⟨bs, hl, _⟩ := val1 he
  have : ∃ a cap, v = .slice a n cap := by
    rcases lenL_eq hl hn with ⟨p0, h1, h0⟩ | ⟨b, o, cap, h1, hcap⟩
    · injection h1 with h1 _; exact ⟨p0, 0, by rw [h1, h0]⟩
    · injection h1 with h1 _; exact ⟨_, cap, h1⟩
  obtain ⟨a, cap, rfl⟩ := this
  simp [Builtin.len_, run_underlying hu, Result.andThen]
theorem ValsR.get {h : Mem} : ∀ {ls : List (Bool × List Leaf)} {vs : List Value} {i : Nat} {q : Bool × List Leaf}, ValsR g h ls vs → ls[i]? = some q → ∃ v, vs[i]? = some v ∧ ValR g h q.1 q.2 v
  | [], _, i, q, _, hq => by cases hq
  | (agg, l) :: r, vs, 0, q, ⟨v, vs', h1, h2, h3⟩, hq => by cases hq; subst h1; exact ⟨v, rfl, h2⟩
  | (agg, l) :: r, vs, i + 1, q, ⟨v, vs', h1, h2, h3⟩, hq => by
    subst h1; obtain ⟨v', q1, q2⟩ := ValsR.get h3 (i := i) (q := q) (by simpa using hq); exact ⟨v', by simpa using q1, q2⟩
theorem extract_sound {s : Nat} {ls : List (Bool × List Leaf)} {v : Value} {i : Nat} {agg : Bool} {l : List Leaf} (he : EntR g w.heap s (.tup ls) v) (hi : ls[i]? = some (agg, l)) :
    ∃ u, (Instr.extract v i).run P w = .ok u w ∧ ∀ s, EntR g w.heap s (.val agg l) u := by
  obtain ⟨vs, rfl, h2⟩ := he
  obtain ⟨u, h3, h4⟩ := h2.get hi
  have : vs[i]? = some u := by simpa using h3
  exact ⟨u, by simp [Instr.extract, this], fun s => h4⟩
theorem un_sound {s : Nat} {op : UnOp} {e r : Ent} {v : Value} (he : EntR g w.heap s e v) (hr : unE op e = some r) : ∃ u, (Op.unary op v).run P w = .ok u w ∧ ∀ s, EntR g w.heap s r u := by
  unfold unE at hr
  split at hr
  · injection hr with hr; subst hr
    have := asB_inv he rfl; subst this
    exact ⟨_, by simp [Op.unary], fun s => boolE_sound⟩
  · injection hr with hr; subst hr
    have := asI_inv he rfl
    rw [this.1]
    exact ⟨.int _ (IntKind.wrap _ (-_)), by simp [Op.unary, Op.intArith], fun s => intE_sound (wrap_wf _ _)⟩
  · cases hr
theorem kEq_self (k : IntKind) : kEq k k = true := by cases k <;> rfl
theorem minmax_sound {s1 s2 : Nat} {x y r : Ent} {u v : Value} {b : Builtin} (hx : EntR g w.heap s1 x u) (hy : EntR g w.heap s2 y v) (hr : minmax b x y = some r) :
    (b = .min → ∃ z, (∀ at' ty, (Builtin.min_ at' ty #[u, v]).run P w = .ok z w) ∧ ∀ s, EntR g w.heap s r z) ∧ (b = .max → ∃ z, (∀ at' ty, (Builtin.max_ at' ty #[u, v]).run P w = .ok z w) ∧ ∀ s, EntR g w.heap s r z) := by
  unfold minmax at hr
  split at hr
  · rename_i k m k' n h1 h2
    obtain ⟨rfl, w1⟩ := asI_inv hx h1
    obtain ⟨rfl, w2⟩ := asI_inv hy h2
    cases hk : kEq k k' with
    | false => rw [hk] at hr; cases hr
    | true =>
      rw [hk] at hr
      have := kEq_eq hk; subst this
      refine ⟨fun hb => ?_, fun hb => ?_⟩
      · subst hb
        simp only [cond_true, Option.some.injEq] at hr; subst hr
        refine ⟨.int k (if n < m then n else m), fun _ _ => by simp [Builtin.min_, Builtin.min2, List.foldlM], fun s => ?_⟩
        have : (bif decide (n < m) then n else m) = if n < m then n else m := by by_cases h : n < m <;> simp [h]
        rw [this]; refine intE_sound ?_; split <;> assumption
      · subst hb
        simp only [cond_true, Option.some.injEq] at hr; subst hr
        refine ⟨.int k (if n > m then n else m), fun _ _ => by simp [Builtin.max_, Builtin.max2, List.foldlM], fun s => ?_⟩
        have : (bif decide (m < n) then n else m) = if n > m then n else m := by by_cases h : m < n <;> simp [h]
        rw [this]; refine intE_sound ?_; split <;> assumption
  · cases hr
theorem pick_sound {s1 s2 s3 : Nat} {x y z r : Ent} {u v t : Value} {c : Bool} (hx : EntR g w.heap s1 x u) (hy : EntR g w.heap s2 y v) (hz : EntR g w.heap s3 z t) (hr : pickE x y z = some (c, r)) (hc : c = true) :
    ∃ b, u = .bool b ∧ ∀ s, EntR g w.heap s r (if b then v else t) := by
  unfold pickE at hr
  split at hr
  · cases hr
  · rename_i cv hcv
    have := asB_inv hx hcv; subst this
    refine ⟨cv, rfl, fun s => ?_⟩
    split at hr
    · injection hr with hr; injection hr with hr1 hr2; subst hr2
      have h1 := asB_inv hy rfl
      have h2 := asB_inv hz rfl
      subst h1; subst h2
      cases cv <;> exact boolE_sound
    · injection hr with hr; injection hr with hr1 hr2; subst hr2; subst hc
      have h2 := asB_inv hz rfl; subst h2
      cases cv
      · exact boolE_sound
      · cases hr1
    · injection hr with hr; injection hr with hr1 hr2; subst hr2; subst hc
      have h2 := asB_inv hy rfl; subst h2
      cases cv
      · cases hr1
      · exact boolE_sound
    · injection hr with hr; injection hr with hr1 hr2; subst hr2; subst hc
      have h2 := asB_inv hz rfl; subst h2
      cases cv
      · exact boolE_sound
      · cases hr1
    · injection hr with hr; injection hr with hr1 hr2; subst hr2; subst hc
      have h2 := asB_inv hy rfl; subst h2
      cases cv
      · cases hr1
      · exact boolE_sound
    · cases hr
end
def Gh.new (g : Gh) (d B : Nat) (k : BK) (tag : Nat) (hd : Nat → Value) : Gh where
  kd b := if b = B then k else g.kd b
  own b := if b = B then tag else g.own b
  H t := if tagAt d t then hd t else g.H t
  bx s := if s = d then B else g.bx s
  al := g.al
  mt := g.mt
theorem new_ext (g : Gh) (h : Mem) (d : Nat) (k : BK) (tag : Nat) (hd : Nat → Value) (o : Obj) : Ext d g h (g.new d h.size k tag hd) (h.push o) where
  size := by simp
  blk b hb := .inl (by rw [Array.getElem?_push, if_neg (by omega)])
  kd b hb := if_neg (by omega)
  own b hb := if_neg (by omega)
  H t ht := by simp [Gh.new, ht]
  bx s hs := if_neg hs
  mt _ _ := rfl
theorem new_inv {g : Gh} {h0 h : Mem} {W : Nat → Prop} (i : Inv g h0 h W) (d : Nat) (k : BK) (hk : k ≠ .no) (tag : Nat) (hd : Nat → Value) (oc : Array Value) (oe : TypeId) : Inv (g.new d h.size k tag hd) h0 (h.push (.cells oc oe (0, 0))) W where
  size := by have := i.size; simp; omega
  old b hb hw := by rw [Array.getElem?_push, if_neg (by have := i.size; omega)]; exact i.old b hb hw
  kd b := by
    simp only [Gh.new]
    by_cases e : b = h.size
    · subst e; exact .inr (.inr ⟨by simp, .inl i.size⟩)
    · rw [if_neg e]; rcases i.kd b with q | q | q
      · exact .inl q
      · exact .inr (.inl q)
      · exact .inr (.inr ⟨by simp; omega, q.2⟩)
  no b hb := by
    simp only [Gh.new] at hb
    by_cases e : b = h.size
    · subst e; rw [if_pos rfl] at hb; exact absurd hb hk
    · rw [if_neg e] at hb; exact i.no b hb
  al b hb := by
    simp only [Gh.new] at hb
    by_cases e : b = h.size
    · subst e; exact .inl i.size
    · rw [if_neg e] at hb; exact i.al b hb
  own b hb := by
    simp only [Gh.new] at hb
    by_cases e : b = h.size
    · subst e; exact ⟨by simp, .inl i.size⟩
    · rw [if_neg e] at hb; have := i.own b hb; exact ⟨by simp; omega, this.2⟩
  wr b hb := by
    simp only [Gh.new] at hb
    by_cases e : b = h.size
    · subst e; exact ⟨oc, oe, by simp⟩
    · rw [if_neg e] at hb
      have hlt := (i.own b hb).1
      obtain ⟨c, e', q⟩ := i.wr b hb
      exact ⟨c, e', by rw [Array.getElem?_push, if_neg (by omega)]; exact q⟩
theorem St.alloc {n : NS} {w0 w : World} {W : Nat → Prop} {g : Gh} {env : Nat → Ent} {a : Act} {d : Nat} {e : Ent} {v : Value} (st : St n w0 W g env a w) (hd : n.has d)
    (clean : ∀ s, s ≠ d → (env s).at d = false) (k : BK) (hk : k ≠ .no) (tag : Nat) (hdr : Nat → Value) (oc : Array Value) (oe : TypeId)
    (he : EntR (g.new d w.heap.size k tag hdr) (w.alloc (.cells oc oe)).heap d e v) : St n w0 W (g.new d w.heap.size k tag hdr) (upd env d e) (a.put (some d) v) (w.alloc (.cells oc oe)) :=
  st.put hd (new_ext _ _ _ _ _ _ _) (new_inv st.inv _ _ hk _ _ _ _) rfl ⟨rfl, Nat.le_refl _⟩ rfl clean he
def Gh.head (g : Gh) (d : Nat) (hd : Nat → Value) : Gh := { g with H := fun t => if tagAt d t then hd t else g.H t }
theorem head_ext (g : Gh) (h : Mem) (d : Nat) (hd : Nat → Value) : Ext d g h (g.head d hd) h :=
  ⟨Nat.le_refl _, fun _ _ => .inl rfl, fun _ _ => rfl, fun _ _ => rfl, fun t ht => by simp [Gh.head, ht], fun _ _ => rfl, fun _ _ => rfl⟩
theorem St.head {n : NS} {w0 w : World} {W : Nat → Prop} {g : Gh} {env : Nat → Ent} {a : Act} {d : Nat} {e : Ent} {v : Value} (st : St n w0 W g env a w) (hd : n.has d)
    (clean : ∀ s, s ≠ d → (env s).at d = false) (hdr : Nat → Value) (he : EntR (g.head d hdr) w.heap d e v) : St n w0 W (g.head d hdr) (upd env d e) (a.put (some d) v) w :=
  st.put hd (head_ext _ _ _ _) ⟨st.inv.size, st.inv.old, st.inv.kd, st.inv.no, st.inv.al, st.inv.own, st.inv.wr⟩ rfl ⟨rfl, Nat.le_refl _⟩ rfl clean he
theorem tagAt_self {d j : Nat} (hj : j < 15) : tagAt d (d * 16 + 1 + j) = true := by
  have h1 : (d * 16 + 1 + j) / 16 = d := by omega
  unfold tagAt; rw [h1, nbeq_f (by omega)]; simp
def nilv : Value := .slice none 0 0
theorem zc_length : ∀ t : Ty, (zc t).length = t.size := by
  intro t
  induction t with
  | pair a b iha ihb => simp [zc, Ty.size, iha, ihb]
  | arr n t ih =>
    simp only [zc, Ty.size]
    induction n with
    | zero => simp
    | succ n ihn => simp [List.replicate_succ, ih, ihn, Nat.succ_mul]; omega
  | _ => rfl
theorem RdL.replicate {α : Type} {R : α → List Value → List Nat → Prop} {x : α} {cs : List Value} {m : Nat} (hm : cs.length = m) (hx : R x cs []) : ∀ (n : Nat) (rest : List Value),
    RdL R m (List.replicate n x) ((List.replicate n cs).flatten ++ rest) []
  | 0, rest => rfl
  | n + 1, rest => by
    refine ⟨[], [], ?_, ?_, rfl⟩
    · simp only [List.replicate_succ, List.flatten_cons, List.append_assoc]
      rw [List.take_append_of_le_length (by omega), List.take_of_length_le (by omega)]; exact hx
    · simp only [List.replicate_succ, List.flatten_cons, List.append_assoc]
      rw [List.drop_append_of_le_length (by omega), List.drop_of_length_le (by omega)]
      exact RdL.replicate hm hx n rest
theorem zero_rd (h : Mem) : ∀ t : Ty, Rd h t t.dflt (zc t) [] := by
  intro t
  induction t with
  | int k => exact ⟨rfl, by cases k <;> rfl, rfl⟩
  | bool => exact ⟨rfl, rfl⟩
  | unit => exact ⟨rfl, rfl⟩
  | pair a b iha ihb =>
    refine ⟨[], [], ?_, ?_, rfl⟩
    · simp only [zc]; rw [List.take_append_of_le_length (by rw [zc_length]; exact Nat.le_refl _), List.take_of_length_le (by rw [zc_length]; exact Nat.le_refl _)]; exact iha
    · simp only [zc]; rw [List.drop_append_of_le_length (by rw [zc_length]; exact Nat.le_refl _), List.drop_of_length_le (by rw [zc_length]; exact Nat.le_refl _), List.nil_append]; exact ihb
  | arr n t ih =>
    refine ⟨zc_length (.arr n t), ?_⟩
    simp only [Ty.dflt, tlist_tup, zc]
    have := RdL.replicate (zc_length t) ih n []
    simpa using this
  | slice e t ih => exact ⟨.slice none 0 0, none, [], rfl, .inl ⟨none, rfl, rfl, rfl, rfl⟩, rfl⟩
section
variable {g : Gh}
theorem nil_B {h : Mem} {e : TypeId} {t : Ty} {tag : Nat} (hH : g.H tag = nilv) : LeafB g h (.rt e t tag false true true []) [nilv] [] :=
  ⟨nilv, none, [], rfl, rfl, fun _ => hH.symm, fun _ => ⟨fun _ => rfl, fun _ => rfl⟩, .inl ⟨none, rfl, rfl, rfl, rfl⟩, by simp, by simp, fun _ => ⟨by simp, by simp⟩⟩
theorem flat_B {h : Mem} {t : Ty} {v : t.den} {cs : List Value} {bs : List Nat} (hf : t.flat = true) (hr : Rd h t v cs bs) : LeafB g h (.fz t 0 false v) cs [] := by
  have := hr.flat hf; subst this
  exact ⟨hr, by simp, by simp, by simp⟩
theorem explodeNew_zero {h : Mem} : ∀ {t : Ty} {tag : Nat} {ls : List Leaf}, explodeNew tag true t t.dflt = some ls → (∀ i, i < tagRoom.width t → g.H (tag + i) = nilv) → LeavesB g h ls (zc t) [] := by
  intro t
  induction t with
  | unit => intro tag ls hl _; simp only [explodeNew, Option.some.injEq] at hl; subst hl; exact ⟨rfl, rfl⟩
  | pair a b _ ihb =>
    intro tag ls hl hH
    have hw : tagRoom.width (.pair a b) = 1 + tagRoom.width b := rfl
    have hb : ∀ i, i < tagRoom.width b → g.H (tag + 1 + i) = nilv := fun i hi => by have := hH (i + 1) (by omega); rwa [show tag + 1 + i = tag + (i + 1) by omega]
    have main : ∀ (l : Leaf) (r : List Leaf), l.ty = a → LeafB g h l (zc a) [] → LeavesB g h r (zc b) [] → LeavesB g h (l :: r) (zc (.pair a b)) [] := by
      intro l r e1 e2 e3
      refine ⟨[], [], ?_, ?_, rfl⟩
      · rw [e1]; simp only [zc]; rw [List.take_append_of_le_length (by rw [zc_length]; exact Nat.le_refl _), List.take_of_length_le (by rw [zc_length]; exact Nat.le_refl _)]; exact e2
      · rw [e1]; simp only [zc]; rw [List.drop_append_of_le_length (by rw [zc_length]; exact Nat.le_refl _), List.drop_of_length_le (by rw [zc_length]; exact Nat.le_refl _)]; simpa using e3
    have flatcase : ∀ (a' : Ty), a' = a → (bif a'.flat then (match explodeNew (tag + 1) true b b.dflt with | some r => some (Leaf.fz a' 0 false a'.dflt :: r) | none => none) else none) = some ls → LeavesB g h ls (zc (.pair a b)) [] := by
      intro a' ea hl
      cases hf : a'.flat with
      | false => rw [hf] at hl; cases hl
      | true =>
        rw [hf] at hl; simp only [cond_true] at hl
        split at hl
        · rename_i r hr; injection hl with hl; subst hl; exact main _ r ea (by rw [← ea]; exact flat_B hf (zero_rd h a')) (ihb hr hb)
        · cases hl
    cases a with
    | slice e u =>
      simp only [explodeNew, Ty.dflt] at hl
      split at hl
      · rename_i r hr; injection hl with hl; subst hl
        exact main _ r rfl (nil_B (by simpa using hH 0 (by omega))) (ihb hr hb)
      · cases hl
    | int k => exact flatcase _ rfl hl
    | bool => exact flatcase _ rfl hl
    | unit => exact flatcase _ rfl hl
    | pair _ _ => exact flatcase _ rfl hl
    | arr _ _ => exact flatcase _ rfl hl
  | int k => intro tag ls hl; cases hl
  | bool => intro tag ls hl; cases hl
  | arr n t _ => intro tag ls hl; cases hl
  | slice e t _ => intro tag ls hl; cases hl
theorem newLeaves_zero {h : Mem} {t : Ty} {tag : Nat} {ls : List Leaf} (hl : newLeaves tag true t t.dflt = some ls) (hH : ∀ i, i < tagRoom.width t → g.H (tag + i) = nilv) : LeavesB g h ls (zc t) [] := by
  have one : ∀ l : Leaf, l.ty = t → LeafB g h l (zc t) [] → LeavesB g h [l] (zc t) [] := fun l e hl =>
    ⟨[], [], by rw [e, List.take_of_length_le (by rw [zc_length]; exact Nat.le_refl _)]; exact hl, ⟨by rw [e, List.drop_eq_nil_iff, zc_length]; exact Nat.le_refl _, rfl⟩, rfl⟩
  have flatcase : (bif t.flat then some [Leaf.fz t 0 false t.dflt] else none) = some ls → LeavesB g h ls (zc t) [] := by
    intro hl
    cases hf : t.flat with
    | false => rw [hf] at hl; cases hl
    | true => rw [hf] at hl; injection hl with hl; subst hl; exact one _ rfl (flat_B hf (zero_rd h t))
  cases t with
  | slice e u => simp only [newLeaves, Option.some.injEq] at hl; subst hl; exact one _ rfl (nil_B (by simpa using hH 0 (by simp [tagRoom.width])))
  | pair a b => exact explodeNew_zero hl hH
  | unit => exact explodeNew_zero hl hH
  | int k => exact flatcase hl
  | bool => exact flatcase hl
  | arr _ _ => exact flatcase hl
theorem explode_B {h : Mem} {reg : Nat} {lin : Bool} : ∀ {t : Ty} {v : t.den} {cs : List Value} {bs : List Nat}, t.isStruct = true → Rd h t v cs bs → (∀ b ∈ bs, g.kd b = .fz) → (reg ≠ 0 → ∀ b ∈ bs, g.own b = reg) → (lin = true → LinOk g reg bs) →
    (valMany t (explode reg lin t v)).isSome = true → LeavesB g h (explode reg lin t v) cs bs := by
  intro t
  induction t with
  | unit => intro v cs bs _ hr _ _ _ _; exact hr
  | pair a b _ ihb =>
    intro v cs bs _ hr h1 h2 h3 hm
    obtain ⟨b1, b2, r1, r2, rfl⟩ := hr
    simp only [explode, valMany] at hm ⊢
    refine ⟨b1, b2, ⟨r1, fun y hy => h1 y (List.mem_append_left _ hy), fun q y hy => h2 q y (List.mem_append_left _ hy), fun q => (h3 q).sub (List.sublist_append_left _ _)⟩, ?_, rfl⟩
    have hm' : (valMany b (explode reg lin b v.2)).isSome = true := by
      split at hm
      · rename_i x y e1 e2; rw [e2]; rfl
      · cases hm
    have hs : b.isStruct = true := by
      cases b with
      | unit => rfl
      | pair _ _ => rfl
      | _ => simp [explode, valMany] at hm'
    exact ihb hs r2 (fun y hy => h1 y (List.mem_append_right _ hy)) (fun q y hy => h2 q y (List.mem_append_right _ hy)) (fun q => (h3 q).sub (List.sublist_append_right _ _)) hm'
  | int k => intro v cs bs hs; cases hs
  | bool => intro v cs bs hs; cases hs
  | arr n t _ => intro v cs bs hs; cases hs
  | slice e t _ => intro v cs bs hs; cases hs
theorem LeavesB.one {h : Mem} {l : Leaf} {cs : List Value} {bs : List Nat} (hl : LeavesB g h [l] cs bs) : LeafB g h l cs bs := by
  obtain ⟨b1, b2, h1, ⟨h2, rfl⟩, h3⟩ := hl
  rw [List.append_nil] at h3; subst h3
  rwa [List.take_of_length_le (List.drop_eq_nil_iff.1 h2)] at h1
theorem LeafB.many {h : Mem} {l : Leaf} {cs : List Value} {bs : List Nat} (hl : LeafB g h l cs bs) : LeavesB g h [l] cs bs :=
  ⟨bs, [], by rw [List.take_of_length_le (by rw [hl.rd.length]; exact Nat.le_refl _)]; exact hl, ⟨by rw [List.drop_eq_nil_iff, hl.rd.length]; exact Nat.le_refl _, rfl⟩, by simp⟩
theorem boxLeaves_B {h : Mem} {t : Ty} {ls ls' : List Leaf} {cs : List Value} {bs : List Nat} (hb : boxLeaves t ls = some ls') (hl : LeavesB g h ls cs bs) : LeavesB g h ls' cs bs ∧ cs.length = t.size := by
  have many : ∀ {a b : Ty} {ls ls' : List Leaf}, (bif (valMany (.pair a b) ls).isSome then some ls else none) = some ls' → LeavesB g h ls cs bs → LeavesB g h ls' cs bs ∧ cs.length = (Ty.pair a b).size := by
    intro a b ls ls' hb hl
    cases hv : (valMany (.pair a b) ls).isSome with
    | false => rw [hv] at hb; cases hb
    | true =>
      rw [hv] at hb; injection hb with hb; subst hb
      obtain ⟨y, hy⟩ := Option.isSome_iff_exists.1 hv
      exact ⟨hl, by rw [hl.length, valMany_size hy]⟩
  have single : ∀ {t : Ty} {l : Leaf} {ls' : List Leaf}, (bif l.ty.eqb t then some [l] else none) = some ls' → LeavesB g h [l] cs bs → LeavesB g h ls' cs bs ∧ cs.length = t.size := by
    intro t l ls' hb hl
    cases hv : l.ty.eqb t with
    | false => rw [hv] at hb; cases hb
    | true => rw [hv] at hb; injection hb with hb; subst hb; exact ⟨hl, by rw [hl.length, ← eqb_eq hv]; simp [sizes]⟩
  cases t with
  | pair a b =>
    match ls, hb, hl with
    | [.fz t' reg lin v], hb, hl =>
      simp only [boxLeaves] at hb
      split at hb
      · rename_i y hy
        cases hv : (valMany (.pair a b) (explode reg lin (.pair a b) y)).isSome with
        | false => rw [hv] at hb; cases hb
        | true =>
          rw [hv] at hb; injection hb with hb; subst hb
          obtain ⟨h1, h2, h3, h4⟩ := hl.one
          have hr := cast_rd hy h1
          exact ⟨explode_B rfl hr h2 h3 h4 hv, hr.length⟩
      · exact many hb hl
    | [], hb, hl => simp only [boxLeaves] at hb; exact many hb hl
    | [.rt _ _ _ _ _ _ _], hb, hl => exact many hb hl
    | _ :: _ :: _, hb, hl => simp only [boxLeaves] at hb; exact many hb hl
  | unit =>
    match ls, hb, hl with
    | [], hb, hl => simp only [boxLeaves, Option.some.injEq] at hb; subst hb; exact ⟨hl, by rw [hl.1]; rfl⟩
    | _ :: _, hb, _ => simp [boxLeaves] at hb
  | int k =>
    match ls, hb, hl with
    | [l], hb, hl => exact single hb hl
    | [], hb, _ => cases hb
    | _ :: _ :: _, hb, _ => cases hb
  | bool =>
    match ls, hb, hl with
    | [l], hb, hl => exact single hb hl
    | [], hb, _ => cases hb
    | _ :: _ :: _, hb, _ => cases hb
  | arr n u =>
    match ls, hb, hl with
    | [l], hb, hl => exact single hb hl
    | [], hb, _ => cases hb
    | _ :: _ :: _, hb, _ => cases hb
  | slice e u =>
    match ls, hb, hl with
    | [l], hb, hl => exact single hb hl
    | [], hb, _ => cases hb
    | _ :: _ :: _, hb, _ => cases hb
end
theorem St.putA {n : NS} {w0 w : World} {W : Nat → Prop} {g : Gh} {env : Nat → Ent} {a : Act} {d : Nat} {e : Ent} {v : Value} (st : St n w0 W g env a w) (hd : n.has d)
    (he : EntR g w.heap d e v) : St n w0 W g (upd env d e) (a.put (some d) v) w where
  inv := st.inv
  ent s := by
    rw [put_getD (by rw [st.sz.1]; exact hd.1)]
    unfold upd
    split
    · rename_i h; rw [h]; exact he
    · exact st.ent s
  sz := st.szPut hd
  df := by simp [Act.put, st.df]
  os := st.os
  tape := st.tape
  output := st.output
theorem ValR.cells {g : Gh} {h : Mem} {agg : Bool} {ls : List Leaf} {v : Value} (hv : ValR g h agg ls v) : ∃ bs, LeavesB g h ls v.cells.toList bs := by
  obtain ⟨cs, bs, h1, h2, h3⟩ := hv
  refine ⟨bs, ?_⟩
  cases agg with
  | true => simp only [cond_true] at h1; subst h1; exact h3
  | false =>
    obtain ⟨hl, hc⟩ := h2 rfl
    match cs, hl with
    | [c], _ => simp at h1; subst h1; rw [hc]; exact h3
theorem zv_cells (t : Ty) : (zv t).cells = (zc t).toArray := by
  unfold zv; cases t <;> rfl
theorem run_newRow {P : Program} (w : World) (e : TypeId) (cells : Array Value) : (newRow e cells).run P w = .ok ⟨w.heap.size, 0, none⟩ (w.alloc (.cells cells e)) := rfl
theorem alloc_at (w : World) (o : Obj) : (w.alloc o).heap[w.heap.size]? = some o := by
  show (w.heap.push o)[w.heap.size]? = some o
  simp
theorem run_zeroValue {P : Program} {T : TTab} {t : TypeId} {ty : Ty} (k : TyOK P T t ty) (w : World) : (zeroValue t).run P w = .ok (zv ty) w := by
  obtain ⟨i, h1, h2, h3, h4⟩ := k.info
  unfold zeroValue
  simp only [Sem.run_bind, run_typeInfo w h1, Result.andThen_ok, h3, Sem.run_pure]
section
variable {P : Program} {T : TTab} {n : NS} {w0 w : World} {W : Nat → Prop} {g : Gh} {get : Nat → Ent} {a : Act} {d : Nat}
theorem ok_alloc {t : TypeId} {ty : Ty} {ls : List Leaf} (st : St n w0 W g get a w) (hd : n.has d) (clean : ∀ s, (get s).at d = false) (k : TyOK P T t ty) (hr : tagRoom [ty] = true)
    (hl : newLeaves (d * 16 + 1) true ty ty.dflt = some ls) :
    ∃ g' v w', (Instr.alloc t true (.tuple #[])).run P w = .ok v w' ∧ St n w0 W g' (upd get d (.box false ls)) (a.put (some d) v) w' ∧ g'.al = g.al := by
  have hw : tagRoom.width ty ≤ 14 := by simpa [tagRoom] using hr
  refine ⟨g.new d w.heap.size (.bx d) 0 (fun _ => nilv), .pointer (some ⟨w.heap.size, 0, none⟩), w.alloc (.cells (zc ty).toArray t), ?_, st.alloc hd (fun s _ => clean s) _ (fun q => by cases q) _ _ _ _ ?_, rfl⟩
  · simp only [Instr.alloc, Sem.run_bind, run_zeroValue k, Result.andThen_ok, newVar, zv_cells, run_newRow, Sem.run_pure]
  · refine ⟨w.heap.size, (zc ty).toArray, t, (0, 0), [], rfl, alloc_at _ _, ?_, by simp [Gh.new], fun _ => ⟨by simp [Gh.new], rfl⟩, fun h => by cases h⟩
    simp only [List.toList_toArray]
    exact newLeaves_zero hl fun i hi => by simp [Gh.new, tagAt_self (show i < 15 by omega)]
theorem box_at {t : Ty} {ls ls' : List Leaf} (hb : boxLeaves t ls = some ls') (hc : ls.any (Leaf.at d) = false) : ls'.any (Leaf.at d) = false := by
  have ex : ∀ (reg : Nat) (lin : Bool) (t : Ty) (v : t.den), tagAt d reg = false → (explode reg lin t v).any (Leaf.at d) = false := by
    intro reg lin t
    induction t with
    | pair a b _ ih => intro v h; simp only [explode, List.any_cons, Leaf.at, h, ih v.2 h]; rfl
    | _ => intro v h; rfl
  unfold boxLeaves at hb
  split at hb
  · split at hb
    · rename_i y hy
      cases hv : (valMany _ (explode _ _ _ y)).isSome with
      | false => rw [hv] at hb; cases hb
      | true =>
        rw [hv] at hb; injection hb with hb; subst hb
        exact ex _ _ _ _ (by simpa [Leaf.at] using hc)
    · cases hv : (valMany (Ty.pair _ _) [Leaf.fz _ _ _ _]).isSome with
      | false => rw [hv] at hb; cases hb
      | true => rw [hv] at hb; injection hb with hb; subst hb; exact hc
  · cases hv : (valMany (Ty.pair _ _) ls).isSome with
    | false => rw [hv] at hb; cases hb
    | true => rw [hv] at hb; injection hb with hb; subst hb; exact hc
  · injection hb with hb; subst hb; rfl
  · cases hb
  · rename_i l _ _ _
    cases hv : l.ty.eqb t with
    | false => rw [hv] at hb; cases hb
    | true => rw [hv] at hb; injection hb with hb; subst hb; exact hc
  · cases hb
theorem ok_box {t : TypeId} {ty : Ty} {x : Operand} {agg : Bool} {ls ls' : List Leaf} (st : St n w0 W g get a w) (hd : n.has d) (clean : ∀ s, (get s).at d = false) (hx : opE get x = some (.val agg ls))
    (hl : boxLeaves ty ls = some ls') :
    ∃ g' v w', (Instr.box t (a.eval x)).run P w = .ok v w' ∧ St n w0 W g' (upd get d (.box false ls')) (a.put (some d) v) w' ∧ g'.al = g.al := by
  obtain ⟨s0, he, hs0⟩ := opE_sound st.ent hx
  have hc : (Ent.val agg ls).at d = false := by
    unfold opE at hx
    split at hx
    · injection hx with hx; rw [← hx]; exact clean _
    · rename_i k m; cases hk : kwf k m with
      | false => rw [hk] at hx; cases hx
      | true => rw [hk] at hx; injection hx with hx; rw [← hx]; simp [intE, Ent.at, Leaf.at, tagAt]
    · injection hx with hx; rw [← hx]; simp [boolE, Ent.at, Leaf.at, tagAt]
    · cases hx
    · cases hx
  obtain ⟨bs, hb⟩ := ValR.cells he
  obtain ⟨q1, q2⟩ := boxLeaves_B hl hb
  refine ⟨g.new d w.heap.size (.bx d) 0 (fun _ => nilv), .pointer (some ⟨w.heap.size, 0, none⟩), w.alloc (.cells (a.eval x).cells t), ?_, st.alloc hd (fun s _ => clean s) _ (fun q => by cases q) _ _ _ _ ?_, rfl⟩
  · simp only [Instr.box, Sem.run_bind, newVar, run_newRow, Result.andThen_ok, Sem.run_pure]
  · exact ⟨w.heap.size, (a.eval x).cells, t, (0, 0), bs, rfl, alloc_at _ _, q1.ext (new_ext _ _ _ _ _ _ _) (box_at hl hc), by simp [Gh.new], fun _ => ⟨by simp [Gh.new], rfl⟩, fun h => by cases h⟩
theorem ok_nil {t : TypeId} {e : TypeId} {u : Ty} (st : St n w0 W g get a w) (hd : n.has d) (clean : ∀ s, (get s).at d = false) :
    St n w0 W (g.head d (fun _ => nilv)) (upd get d (.val false [.rt e u (d * 16 + 1) false true true []])) (a.put (some d) (.slice none 0 0)) w := by
  refine st.head hd (fun s _ => clean s) _ ?_
  have : (g.head d (fun _ => nilv)).H (d * 16 + 1) = nilv := by simp [Gh.head, tagAt_self (d := d) (j := 0) (by omega)]
  exact (nil_B this).val1 rfl d
theorem range_mod {α : Type} [Inhabited α] (z : Array α) (m : Nat) (hz : z.size ≠ 0) : ((Array.range (m * z.size)).map (z[· % z.size]!)).toList = (List.replicate m z.toList).flatten := by
  induction m with
  | zero => simp
  | succ m ih =>
    have e1 : (List.replicate (m + 1) z.toList).flatten = (List.replicate m z.toList).flatten ++ z.toList := by
      rw [show m + 1 = m + 1 from rfl, List.replicate_succ']; simp
    rw [e1, ← ih]
    apply List.ext_getElem?
    intro j
    simp only [Array.toList_map, Array.toList_range, List.getElem?_map]
    have hl : (List.map (fun x => z[x % z.size]!) (List.range (m * z.size))).length = m * z.size := by simp
    by_cases hj : j < m * z.size
    · rw [List.getElem?_append_left (by rw [hl]; exact hj), List.getElem?_map, List.getElem?_range hj, List.getElem?_range (by rw [Nat.succ_mul]; omega)]
    · rw [List.getElem?_append_right (by rw [hl]; omega), hl]
      by_cases hj2 : j < (m + 1) * z.size
      · rw [List.getElem?_range hj2]
        rw [Nat.succ_mul] at hj2
        have : j % z.size = j - m * z.size := by
          have hlt : j - m * z.size < z.size := by omega
          have e : j = (j - m * z.size) + m * z.size := by omega
          calc j % z.size = ((j - m * z.size) + m * z.size) % z.size := by rw [← e]
            _ = j - m * z.size := by rw [Nat.add_mul_mod_self_right, Nat.mod_eq_of_lt hlt]
        rw [Option.map_some, this]
        rw [getElem!_pos z (j - m * z.size) (by omega)]
        simp
      · rw [List.getElem?_eq_none (by simp; omega)]
        rw [Nat.succ_mul] at hj2
        simp; omega
theorem ok_makeSlice {t e : TypeId} {u : Ty} {m : Int} {kl kc : IntKind} (st : St n w0 W g get a w) (hd : n.has d) (clean : ∀ s, (get s).at d = false) (hT : TOK P T) (k : TyOK P T t (.slice e u))
    (h0 : 0 ≤ m) (h1 : m ≤ 1099511627776) :
    ∃ g' v w', (Instr.makeSlice t (.int kl m) (.int kc m)).run P w = .ok v w' ∧ St n w0 W g' (upd get d (.val false [.rt e u (d * 16 + 1) false true false (List.replicate m.toNat u.dflt)])) (a.put (some d) v) w' ∧ g'.al = g.al := by
  obtain ⟨hu, hte, hz⟩ := k.und
  obtain ⟨i, i1, i2, i3, i4⟩ := (hT _ _ hte).info
  have hb : (i.bytes : Int) * m ≤ 281474976710656 := by
    have : (i.bytes : Int) * m ≤ 64 * 1099511627776 := Int.mul_le_mul (by omega) h1 h0 (by omega)
    omega
  have hcells : madeCells (zv u).cells (m.toNat * i.size) = (List.replicate m.toNat (zc u)).flatten.toArray := by
    apply Array.ext'
    have hs : (zv u).cells.size = i.size := by rw [zv_cells]; simp [zc_length, i2]
    have := range_mod (zv u).cells m.toNat (by rw [hs, i2]; exact hz)
    rw [hs] at this
    unfold madeCells; rw [hs, this, zv_cells]
  refine ⟨g.new d w.heap.size (.mu (d * 16 + 1)) (d * 16 + 1) (fun _ => .slice (some ⟨w.heap.size, 0, none⟩) m.toNat m.toNat), .slice (some ⟨w.heap.size, 0, none⟩) m.toNat m.toNat,
    w.alloc (.cells (List.replicate m.toNat (zc u)).flatten.toArray e), ?_, st.alloc hd (fun s _ => clean s) _ (fun q => by cases q) _ _ _ _ ?_, rfl⟩
  · rw [run_make w t e i (zv u) hu i1 i3 kl kc m m h0 (Int.le_refl _) hb (by omega), hcells]
  · have hz2 : (List.replicate m.toNat (zc u)).flatten.length = m.toNat * u.size := zc_length (.arr m.toNat u)
    have hr := RdL.replicate (R := Rd (w.alloc (.cells (List.replicate m.toNat (zc u)).flatten.toArray e)).heap u) (zc_length u) (zero_rd _ u) m.toNat []
    obtain ⟨blk, hs, hb⟩ := SlR.mk (e := e) (n := u.size) (R := Rd (w.alloc (.cells (List.replicate m.toNat (zc u)).flatten.toArray e)).heap u) (h := (w.alloc (.cells (List.replicate m.toNat (zc u)).flatten.toArray e)).heap) (c := (List.replicate m.toNat (zc u)).flatten.toArray) (l := List.replicate m.toNat u.dflt) (hd := .slice (some ⟨w.heap.size, 0, none⟩) m.toNat m.toNat) (b := w.heap.size) (o := 0) (cap := m.toNat) (by simp) (by simp) (alloc_at w _) (by rw [List.size_toArray, hz2]; omega) (by simpa using hr)
    have hl : LeafB (g.new d w.heap.size (.mu (d * 16 + 1)) (d * 16 + 1) (fun _ => .slice (some ⟨w.heap.size, 0, none⟩) m.toNat m.toNat))
        (w.alloc (.cells (List.replicate m.toNat (zc u)).flatten.toArray e)).heap (.rt e u (d * 16 + 1) false true false (List.replicate m.toNat u.dflt)) [.slice (some ⟨w.heap.size, 0, none⟩) m.toNat m.toNat] (blk.toList ++ []) := by
      refine ⟨_, blk, [], rfl, rfl, fun _ => by simp [Gh.new, tagAt_self (d := d) (j := 0) (by omega)], fun hh => (by cases hh), hs, by simp, fun b hb' => ?_, fun _ => ⟨by simp, by simp⟩⟩
      have := hb b hb'
      subst this
      exact ⟨by simp [Gh.new], by simp [Gh.new], _, _, alloc_at _ _⟩
    exact hl.val1 rfl d
end
section
variable {P : Program} {T : TTab} {n : NS} {w0 w : World} {W : Nat → Prop} {g : Gh} {get : Nat → Ent} {a : Act} {d : Nat}
theorem opE_at {x : Operand} {e : Ent} (clean : ∀ s, (get s).at d = false) (hx : opE get x = some e) : e.at d = false := by
  unfold opE at hx
  split at hx
  · injection hx with hx; rw [← hx]; exact clean _
  · rename_i k m; cases hk : kwf k m with
    | false => rw [hk] at hx; cases hx
    | true => rw [hk] at hx; injection hx with hx; rw [← hx]; simp [intE, Ent.at, Leaf.at, tagAt]
  · injection hx with hx; rw [← hx]; simp [boolE, Ent.at, Leaf.at, tagAt]
  · injection hx with hx; rw [← hx]; rfl
  · cases hx
def PR (g : Gh) (h : Mem) (d : Nat) : List (Nat × Value) → List (Nat × Ent) → Prop
  | [], [] => True
  | (i, v) :: r, (j, e) :: r' => i = j ∧ (∃ s, EntR g h s e v) ∧ e.at d = false ∧ PR g h d r r'
  | _, _ => False
theorem partEs_PR {ps : List (Nat × Operand)} : ∀ {es : List (Nat × Ent)}, (∀ s, EntR g w.heap s (get s) (a.tmps.getD s undef)) → (∀ s, (get s).at d = false) → partEs get ps = some es →
    PR g w.heap d (ps.map fun p => (p.1, a.eval p.2)) es := by
  induction ps with
  | nil => intro es _ _ h; simp only [partEs, Option.some.injEq] at h; subst h; trivial
  | cons p ps ih =>
    intro es hg clean h
    obtain ⟨i, x⟩ := p
    simp only [partEs] at h
    split at h
    · rename_i e l he hl
      injection h with h; subst h
      obtain ⟨s, h1, _⟩ := opE_sound hg he
      exact ⟨rfl, ⟨s, h1⟩, opE_at clean he, ih hg clean hl⟩
    · cases h
theorem PR.length {h : Mem} : ∀ {vs : List (Nat × Value)} {es : List (Nat × Ent)}, PR g h d vs es → vs.length = es.length
  | [], [], _ => rfl
  | (i, v) :: r, (j, e) :: r', ⟨_, _, _, h⟩ => by simp [PR.length h]
  | [], _ :: _, h => h.elim
  | (_, _) :: _, [], h => h.elim
theorem listOf_idx {h : Mem} {t : Ty} : ∀ {vs : List (Nat × Value)} {es : List (Nat × Ent)} {j : Nat} {l : List t.den}, PR g h d vs es → listOf t j es = some l →
    vs = ((vs.map (·.2)).zipIdx j).map (fun x => (x.2, x.1)) ∧ l.length = vs.length ∧ ∃ bs, RdL (Rd h t) t.size l (vs.flatMap fun v => v.2.cells.toList) bs ∧ (∀ v ∈ vs, v.2.cells.size = t.size)
  | [], [], j, l, _, hl => by simp only [listOf, Option.some.injEq] at hl; subst hl; exact ⟨rfl, rfl, [], rfl, by simp⟩
  | (i, v) :: r, (i', e) :: r', j, l, ⟨hii, ⟨s, he⟩, _, hp⟩, hl => by
    subst hii
    simp only [listOf] at hl
    split at hl
    · rename_i agg xs
      cases hj : Nat.beq i j with
      | false => rw [hj] at hl; cases hl
      | true =>
        rw [hj] at hl; simp only [cond_true] at hl
        have := Nat.eq_of_beq_eq_true hj; subst this
        split at hl
        · rename_i y l' hy hl'
          injection hl with hl; subst hl
          obtain ⟨q1, q2, bs, q3, q4⟩ := listOf_idx hp hl'
          obtain ⟨b1, hb⟩ := ValR.cells he
          have hr := valAs_rd hy hb
          have hlen := hr.length
          refine ⟨by simp only [List.map_cons, List.zipIdx_cons]; rw [← q1], by simp [q2], b1 ++ bs, ⟨b1, bs, ?_, ?_, rfl⟩, ?_⟩
          · simp only [List.flatMap_cons]; rw [List.take_append_of_le_length (by rw [hlen]; exact Nat.le_refl _), List.take_of_length_le (by rw [hlen]; exact Nat.le_refl _)]; exact hr
          · simp only [List.flatMap_cons]; rw [List.drop_append_of_le_length (by rw [hlen]; exact Nat.le_refl _), List.drop_of_length_le (by rw [hlen]; exact Nat.le_refl _), List.nil_append]; exact q3
          · intro u hu; rcases List.mem_cons.1 hu with rfl | hu
            · simpa using hlen
            · exact q4 u hu
        · cases hl
    · cases hl
  | [], _ :: _, _, _, h, _ => h.elim
  | (_, _) :: _, [], _, _, h, _ => h.elim
theorem partsOf_B {h : Mem} {t : Ty} : ∀ {vs : List (Nat × Value)} {es : List (Nat × Ent)} {j : Nat} {pp : List (List Leaf)} {l : List t.den}, PR g h d vs es → listOf t j es = some l → partsOf j es = some pp →
    (∃ bs, PartsB g h t.size pp (vs.flatMap fun v => v.2.cells.toList) bs) ∧ (pp.any fun ls => ls.any (Leaf.at d)) = false ∧ pp.length = vs.length
  | [], [], j, pp, l, _, _, hl => by simp only [partsOf, Option.some.injEq] at hl; subst hl; exact ⟨⟨[], rfl, rfl⟩, rfl, rfl⟩
  | (i, v) :: r, (i', e) :: r', j, pp, l, ⟨hii, ⟨s, he⟩, hd, hp⟩, hl, hq => by
    subst hii
    simp only [partsOf] at hq
    split at hq
    · rename_i agg xs
      simp only [listOf] at hl
      cases hj : Nat.beq i j with
      | false => rw [hj] at hl; cases hl
      | true =>
        rw [hj] at hl hq; simp only [cond_true] at hl hq
        split at hl
        · rename_i y l' hy hl'
          split at hq
          · rename_i pp' hq'
            injection hq with hq; subst hq
            obtain ⟨⟨b2, q1⟩, q2, q3⟩ := partsOf_B hp hl' hq'
            obtain ⟨b1, hb⟩ := ValR.cells he
            have hlen := (valAs_rd hy hb).length
            refine ⟨⟨b1 ++ b2, b1, b2, ?_, ?_, rfl⟩, ?_, by simp [q3]⟩
            · simp only [List.flatMap_cons]; rw [List.take_append_of_le_length (by rw [hlen]; exact Nat.le_refl _), List.take_of_length_le (by rw [hlen]; exact Nat.le_refl _)]; exact hb
            · simp only [List.flatMap_cons]; rw [List.drop_append_of_le_length (by rw [hlen]; exact Nat.le_refl _), List.drop_of_length_le (by rw [hlen]; exact Nat.le_refl _), List.nil_append]; exact q1
            · simp only [List.any_cons, q2, Bool.or_false]; exact hd
          · cases hq
        · cases hl
    · cases hq
  | [], _ :: _, _, _, _, h, _, _ => h.elim
  | (_, _) :: _, [], _, _, _, h, _, _ => h.elim
theorem ok_buildSlice {t : TypeId} {ty : Ty} {len : Nat} {ps : Array (Nat × Operand)} {es : List (Nat × Ent)} {e : Ent} (st : St n w0 W g get a w) (hd : n.has d) (clean : ∀ s, (get s).at d = false) (hT : TOK P T)
    (k : TyOK P T t ty) (hp : partEs get ps.toList = some es) (hr : buildSliceE d ty len es = some e) :
    ∃ g' v w', (Instr.buildSlice t len (ps.map fun (i, x) => (i, a.eval x))).run P w = .ok v w' ∧ St n w0 W g' (upd get d e) (a.put (some d) v) w' ∧ g'.al = g.al := by
  cases ty with
  | slice el u =>
    obtain ⟨hu, hte, hz⟩ := k.und
    obtain ⟨i, i1, i2, i3, i4⟩ := (hT _ _ hte).info
    have pr := partEs_PR (d := d) st.ent clean hp
    simp only [buildSliceE] at hr
    cases hc : (Nat.beq len es.length && Nat.blt (len * u.size) 16777216) with
    | false => rw [hc] at hr; cases hr
    | true =>
      rw [hc] at hr; simp only [cond_true] at hr
      simp only [Bool.and_eq_true] at hc
      have hlen := Nat.eq_of_beq_eq_true hc.1
      have hsm : len * u.size < 16777216 := by simpa using hc.2
      split at hr
      · rename_i l hl
        generalize hvs : (ps.toList.map fun p => (p.1, a.eval p.2)) = vs at pr
        obtain ⟨q1, q2, bs, q3, q4⟩ := listOf_idx pr hl
        have hvl : vs.length = len := by rw [pr.length, hlen]
        have hmap : (ps.map fun (i, x) => (i, a.eval x)).toList = vs := by rw [← hvs]; simp
        -- the code
        have code : (Instr.buildSlice t len (ps.map fun (i, x) => (i, a.eval x))).run P w = .ok (.slice (some ⟨w.heap.size, 0, none⟩) len len) (w.alloc (.cells (vs.flatMap fun v => v.2.cells.toList).toArray el)) := by
          by_cases h0 : len = 0
          · have : vs = [] := List.eq_nil_of_length_eq_zero (by omega)
            subst h0; subst this
            obtain rfl : ps = #[] := by
              have : ps.toList = [] := by simpa using hvs
              exact Array.ext' this
            simp [Instr.buildSlice, run_underlying hu, run_sizeOf w i1, hmap, Instr.fill, newRow, Result.andThen, Array.range_zero']
          · have hz' : (zv u).cells.size = i.size := by rw [zv_cells]; simp [zc_length, i2]
            refine run_buildSlice w t el len _ _ i (zv u) hu i1 i3 (by rw [i2]; omega) (by rw [i2]; exact fun h => by rcases Nat.mul_eq_zero.1 h with h | h <;> omega) ?_
            rw [hmap, q1]
            have := Great.fill_whole (s := i.size) (by rw [i2]; omega) (vs.map (·.2)) ((Array.range (len * i.size)).map ((zv u).cells[· % (zv u).cells.size]!)) (by intro v hv; obtain ⟨p, hp1, rfl⟩ := List.mem_map.1 hv; rw [i2]; exact q4 p hp1) (by simp [hvl])
            rw [this]; congr 2; rw [← q1]; rw [List.flatMap_map]
        have hsz : (vs.flatMap fun v => v.2.cells.toList).length = len * u.size := by
          have : ∀ vs : List (Nat × Value), (∀ v ∈ vs, v.2.cells.size = u.size) → (vs.flatMap fun v => v.2.cells.toList).length = vs.length * u.size := by
            intro vs
            induction vs with
            | nil => intro _; simp
            | cons v vs ih => intro h; simp only [List.flatMap_cons, List.length_append, List.length_cons]; rw [ih (fun x hx => h x (by simp [hx]))]; have := h v (by simp); simp [this, Nat.succ_mul]; omega
          rw [this vs q4, hvl]
        refine ⟨g.new d w.heap.size (.mu (d * 16 + 1)) (d * 16 + 1) (fun _ => .slice (some ⟨w.heap.size, 0, none⟩) len len), .slice (some ⟨w.heap.size, 0, none⟩) len len, _, code, st.alloc hd (fun s _ => clean s) _ (fun q => by cases q) _ _ _ _ ?_, rfl⟩
        have ext := new_ext g w.heap d (.mu (d * 16 + 1)) (d * 16 + 1) (fun _ => .slice (some ⟨w.heap.size, 0, none⟩) len len) (.cells (vs.flatMap fun v => v.2.cells.toList).toArray el)
        cases hf : (u.flat || Nat.beq len 0) with
        | true =>
          rw [hf] at hr; injection hr with hr; subst hr
          have hbs : bs = [] := by
            rcases Bool.or_eq_true_iff.1 hf with h | h
            · exact q3.flat fun x cs b hx => hx.flat h
            · have : l = [] := List.eq_nil_of_length_eq_zero (by rw [q2, hvl]; exact Nat.eq_of_beq_eq_true h)
              rw [this] at q3; exact q3
          subst hbs
          obtain ⟨blk, hs, hbk⟩ := SlR.mk (e := el) (n := u.size) (R := Rd (w.alloc (.cells (vs.flatMap fun v => v.2.cells.toList).toArray el)).heap u) (l := l) (bs := []) (h := (w.alloc (.cells (vs.flatMap fun v => v.2.cells.toList).toArray el)).heap) (c := (vs.flatMap fun v => v.2.cells.toList).toArray) (hd := .slice (some ⟨w.heap.size, 0, none⟩) len len) (b := w.heap.size) (o := 0) (cap := len) (by rw [q2, hvl]) (by rw [q2, hvl]; exact Nat.le_refl _) (alloc_at w _) (by simp [hsz]) (by
            simp only [List.drop_zero, List.toList_toArray]
            exact q3.mono fun x cs b hm hx => hx.frame fun y hy => by cases hm y hy)
          have hl : LeafB (g.new d w.heap.size (.mu (d * 16 + 1)) (d * 16 + 1) (fun _ => .slice (some ⟨w.heap.size, 0, none⟩) len len))
              (w.alloc (.cells (vs.flatMap fun v => v.2.cells.toList).toArray el)).heap (.rt el u (d * 16 + 1) false true (Nat.blt 0 len) l) [.slice (some ⟨w.heap.size, 0, none⟩) len len] (blk.toList ++ []) := by
            refine ⟨_, blk, [], rfl, rfl, fun _ => by simp [Gh.new, tagAt_self (d := d) (j := 0) (by omega)], fun hh => ⟨fun h => (by cases h), fun h => ?_⟩, hs,
              by simp, fun b hb => ?_, fun _ => ⟨by simp, by simp⟩⟩
            · rw [h] at q2; simp at q2; simp at hh; omega
            · have := hbk b hb
              subst this
              exact ⟨by simp [Gh.new], by simp [Gh.new], _, _, alloc_at _ _⟩
          exact hl.val1 rfl d
        | false =>
          rw [hf] at hr; simp only [cond_false] at hr
          split at hr
          · rename_i pp hpp
            injection hr with hr; subst hr
            obtain ⟨⟨b2, r1⟩, r2, r3⟩ := partsOf_B pr hl hpp
            simp only [Bool.or_eq_false_iff] at hf
            have hpos : 0 < len := by have := nbeq_ne hf.2; omega
            refine ⟨w.heap.size, (vs.flatMap fun v => v.2.cells.toList).toArray, b2, by rw [r3, hvl], alloc_at _ _, by simp [hsz, r3, hvl], by simp [Gh.new], by simp [Gh.new], ?_, by omega⟩
            exact r1.ext ext r2
          · cases hr
      · cases hr
  | _ => simp [buildSliceE] at hr
end
def splice (cs : List Value) (o : Nat) (vs : List Value) : List Value := cs.take o ++ vs ++ cs.drop (o + vs.length)
theorem splice_get (cs : List Value) (o : Nat) (vs : List Value) (h : o + vs.length ≤ cs.length) (j : Nat) : (splice cs o vs)[j]? = if o ≤ j ∧ j < o + vs.length then vs[j - o]? else cs[j]? := by
  unfold splice
  have hl : (cs.take o).length = o := by simp; omega
  by_cases h1 : j < o
  · rw [if_neg (by omega), List.append_assoc, List.getElem?_append_left (by omega), List.getElem?_take_of_lt h1]
  · by_cases h2 : j < o + vs.length
    · rw [if_pos (by omega), List.append_assoc, List.getElem?_append_right (by omega), hl, List.getElem?_append_left (by omega)]
    · rw [if_neg (by omega), List.getElem?_append_right (by simp; omega)]
      simp only [List.length_append, hl, List.getElem?_drop]
      congr 1; omega
theorem fill_step (cs : Array Value) (o : Nat) (vs : Array Value) (h : o + vs.size ≤ cs.size) :
    (vs.zipIdx.foldl (fun cs (c, j) => cs.setIfInBounds (o + j) c) cs) = (splice cs.toList o vs.toList).toArray := by
  have key := Great.foldl_set o vs.toList 0 cs
  have e : (vs.zipIdx.foldl (fun cs (c, j) => cs.setIfInBounds (o + j) c) cs) = ((vs.toList.zipIdx 0).foldl (fun cs (x : Value × Nat) => cs.setIfInBounds (o + x.2) x.1) cs) := by
    rw [← Array.foldl_toList]; simp
  rw [e]
  apply Array.ext'
  apply List.ext_getElem?
  intro j
  rw [Array.getElem?_toList, key.2 j, List.toList_toArray, splice_get _ _ _ (by simpa using h)]
  simp only [Nat.add_zero]
  by_cases hj : o ≤ j ∧ j < o + vs.toList.length
  · rw [if_pos hj, if_pos ⟨hj.1, hj.2, by simp at hj; omega⟩]
  · rw [if_neg hj, if_neg (by omega)]; simp
section
variable {P : Program} {T : TTab} {n : NS} {w0 w : World} {W : Nat → Prop} {g : Gh} {get : Nat → Ent} {a : Act} {d : Nat}
theorem sizes_leafAt : ∀ {ls : List Leaf} {i o : Nat} {l : Leaf}, leafAt ls i = some (o, l) → o + l.ty.size ≤ sizes ls
  | [], _, _, _, h => by cases h
  | x :: r, 0, o, l, h => by simp only [leafAt, Option.some.injEq, Prod.mk.injEq] at h; obtain ⟨rfl, rfl⟩ := h; simp [sizes]
  | x :: r, i + 1, o, l, h => by
    simp only [leafAt] at h
    split at h
    · rename_i o' x' hl
      injection h with h; injection h with h1 h2; subst h1; subst h2
      have := sizes_leafAt hl; simp [sizes]; omega
    · cases h
theorem LeavesB.set {h : Mem} : ∀ {ls : List Leaf} {cs : List Value} {bs : List Nat} {i o : Nat} {l x : Leaf} {vs : List Value} {b : List Nat}, LeavesB g h ls cs bs → leafAt ls i = some (o, l) → x.ty = l.ty → LeafB g h x vs b →
    ∃ bs', LeavesB g h (ls.set i x) (splice cs o vs) bs'
  | [], _, _, _, _, _, _, _, _, _, h, _, _ => by cases h
  | y :: r, cs, bs, 0, o, l, x, vs, b, ⟨b1, b2, h1, h2, h3⟩, hl, hx, hb => by
    simp only [leafAt, Option.some.injEq, Prod.mk.injEq] at hl
    obtain ⟨rfl, rfl⟩ := hl
    have hv := hb.rd.length
    rw [hx] at hv
    refine ⟨b ++ b2, b, b2, ?_, ?_, rfl⟩
    · rw [hx]; unfold splice; simp only [List.take_zero, List.nil_append]
      rw [List.take_append_of_le_length (by omega), List.take_of_length_le (by omega)]; exact hb
    · rw [hx]; unfold splice; simp only [List.take_zero, List.nil_append, Nat.zero_add]
      rw [List.drop_append_of_le_length (by omega), List.drop_of_length_le (by omega), List.nil_append, hv]; exact h2
  | y :: r, cs, bs, i + 1, o, l, x, vs, b, ⟨b1, b2, h1, h2, h3⟩, hl, hx, hb => by
    simp only [leafAt] at hl
    split at hl
    · rename_i o' x' hl'
      injection hl with hl; injection hl with e1 e2; subst e1; subst e2
      obtain ⟨bs', q⟩ := LeavesB.set h2 hl' hx hb
      have len1 := h1.rd.length
      have len2 := LeavesB.length h2
      have hs := sizes_leafAt hl'
      have hv := hb.rd.length; rw [hx] at hv
      simp at len1 len2
      have gt := splice_get cs (y.ty.size + o') vs (by omega)
      refine ⟨b1 ++ bs', b1, bs', ?_, ?_, rfl⟩
      · have : (splice cs (y.ty.size + o') vs).take y.ty.size = cs.take y.ty.size := by
          apply List.ext_getElem?; intro j
          by_cases hj : j < y.ty.size
          · rw [List.getElem?_take_of_lt hj, List.getElem?_take_of_lt hj, gt, if_neg (by omega)]
          · rw [List.getElem?_eq_none (by simp; omega), List.getElem?_eq_none (by simp; omega)]
        rw [this]; exact h1
      · have : (splice cs (y.ty.size + o') vs).drop y.ty.size = splice (cs.drop y.ty.size) o' vs := by
          apply List.ext_getElem?; intro j
          rw [List.getElem?_drop, gt, splice_get _ _ _ (by simp; omega), List.getElem?_drop]
          by_cases hj : o' ≤ j ∧ j < o' + vs.length
          · rw [if_pos (by omega), if_pos hj]; congr 1; omega
          · rw [if_neg (by omega), if_neg hj]
        rw [this]; exact q
    · cases hl
theorem splice_length (cs : List Value) (o : Nat) (vs : List Value) (h : o + vs.length ≤ cs.length) : (splice cs o vs).length = cs.length := by
  unfold splice; simp; omega
def placesOf (fs : List Field) (sz : TypeId → Nat) : List (Nat × Nat) := fs.map fun f => (f.offset, sz f.type)
theorem fillS_ok {h : Mem} {place : Nat → Option (Nat × Nat)} : ∀ {vs : List (Nat × Value)} {es : List (Nat × Ent)} {ls ls' : List Leaf} {cs : Array Value} {bs : List Nat}, PR g h d vs es → fillS ls es = some ls' →
    (∀ i o l, leafAt ls i = some (o, l) → place i = some (o, l.ty.size)) → LeavesB g h ls cs.toList bs →
    ∃ cs' bs', Instr.fill place cs vs = some cs' ∧ LeavesB g h ls' cs'.toList bs'
  | [], [], ls, ls', cs, bs, _, hf, _, hl => by simp only [fillS, Option.some.injEq] at hf; subst hf; exact ⟨cs, bs, rfl, hl⟩
  | (i, v) :: r, (i', e) :: r', ls, ls', cs, bs, ⟨hii, ⟨s, he⟩, _, hp⟩, hf, hpl, hl => by
    subst hii
    simp only [fillS] at hf
    split at hf
    · rename_i agg xs
      split at hf
      · rename_i o l hla
        obtain ⟨b1, hb⟩ := ValR.cells he
        -- the new part
        have step : ∀ x : Leaf, x.ty = l.ty → (∃ b, LeafB g h x v.cells.toList b) → fillS (ls.set i x) r' = some ls' → ∃ cs' bs', Instr.fill place cs ((i, v) :: r) = some cs' ∧ LeavesB g h ls' cs'.toList bs' := by
          rintro x hx ⟨b, hxb⟩ hf
          obtain ⟨bs2, q⟩ := hl.set hla hx hxb
          have hv : v.cells.size = l.ty.size := by rw [← hx]; simpa using hxb.rd.length
          have hcs := hl.length
          have hle := sizes_leafAt hla
          simp at hcs
          have hfit : o + v.cells.size ≤ cs.size := by omega
          have hfill : Instr.fill place cs ((i, v) :: r) = Instr.fill place (splice cs.toList o v.cells.toList).toArray r := by
            simp only [Instr.fill, hpl i o l hla]
            rw [if_neg (by simp [hv]; omega), fill_step cs o v.cells hfit]
          rw [hfill]
          refine fillS_ok (bs := bs2) hp hf (fun j o' l' hj => ?_) (by simpa using q)
          -- the places stay
          have : ∀ {ls : List Leaf} {i : Nat} {x l : Leaf} {o : Nat}, leafAt ls i = some (o, l) → x.ty = l.ty → ∀ {j o' : Nat} {l' : Leaf}, leafAt (ls.set i x) j = some (o', l') → ∃ l2, leafAt ls j = some (o', l2) ∧ l2.ty = l'.ty := by
            intro ls
            induction ls with
            | nil => intro i x l o h; cases h
            | cons y ys ih =>
              intro i x l o h hx j o' l' hj
              cases i with
              | zero =>
                simp only [leafAt, Option.some.injEq, Prod.mk.injEq] at h; obtain ⟨rfl, rfl⟩ := h
                cases j with
                | zero => simp only [List.set_cons_zero, leafAt, Option.some.injEq, Prod.mk.injEq] at hj; obtain ⟨rfl, rfl⟩ := hj; exact ⟨y, rfl, hx.symm⟩
                | succ j =>
                  simp only [List.set_cons_zero, leafAt] at hj ⊢
                  split at hj
                  · rename_i o2 x2 h2; injection hj with hj; injection hj with e1 e2; subst e1; subst e2; exact ⟨x2, by rw [hx], rfl⟩
                  · cases hj
              | succ i =>
                simp only [leafAt] at h
                split at h
                · rename_i o1 x1 h1
                  injection h with h; injection h with e1 e2; subst e1; subst e2
                  cases j with
                  | zero => simp only [List.set_cons_succ, leafAt, Option.some.injEq, Prod.mk.injEq] at hj; obtain ⟨rfl, rfl⟩ := hj; exact ⟨y, rfl, rfl⟩
                  | succ j =>
                    simp only [List.set_cons_succ, leafAt] at hj ⊢
                    split at hj
                    · rename_i o2 x2 h2; injection hj with hj; injection hj with e1 e2; subst e1; subst e2
                      obtain ⟨l2, r1, r2⟩ := ih h1 hx h2
                      exact ⟨l2, by rw [r1], r2⟩
                    · cases hj
                · cases h
          obtain ⟨l2, r1, r2⟩ := this hla hx hj
          rw [← r2]; exact hpl _ _ _ r1
        split at hf
        · rename_i x
          cases hq : x.ty.eqb l.ty with
          | false => rw [hq] at hf; cases hf
          | true => rw [hq] at hf; exact step x (eqb_eq hq) ⟨_, hb.one⟩ hf
        · cases hq : l.ty.flat with
          | false => rw [hq] at hf; cases hf
          | true =>
            rw [hq] at hf; simp only [cond_true] at hf
            split at hf
            · rename_i y hy; exact step (.fz l.ty 0 false y) rfl ⟨_, flat_B hq (valAs_rd hy hb)⟩ hf
            · cases hf
      · cases hf
    · cases hf
  | [], _ :: _, _, _, _, _, h, _, _, _ => h.elim
  | (_, _) :: _, [], _, _, _, _, h, _, _, _ => h.elim
theorem fillA_ok {h : Mem} {m : Nat} {t : Ty} (hf : t.flat = true) : ∀ {vs : List (Nat × Value)} {es : List (Nat × Ent)} {x x' : Tup t.den m} {cs : Array Value}, PR g h d vs es → fillA m t x es = some x' →
    Rd h (.arr m t) x cs.toList [] → ∃ cs', Instr.fill (fun i => some (i * t.size, t.size)) cs vs = some cs' ∧ Rd h (.arr m t) x' cs'.toList []
  | [], [], x, x', cs, _, hl, hr => by simp only [fillA, Option.some.injEq] at hl; subst hl; exact ⟨cs, rfl, hr⟩
  | (i, v) :: r, (i', e) :: r', x, x', cs, ⟨hii, ⟨s, he⟩, _, hp⟩, hl, hr => by
    subst hii
    simp only [fillA] at hl
    split at hl
    · rename_i agg xs
      cases hi : Nat.blt i m with
      | false => rw [hi] at hl; cases hl
      | true =>
        rw [hi] at hl; simp only [cond_true] at hl
        have hi' : i < m := by simpa using hi
        split at hl
        · rename_i y hy
          obtain ⟨b1, hb⟩ := ValR.cells he
          have hry := valAs_rd hy hb
          have := hry.flat hf; subst this
          have hv : v.cells.size = t.size := by simpa using hry.length
          obtain ⟨hcl, hrl⟩ := hr
          have hfit : i * t.size + v.cells.size ≤ cs.size := by
            have : (i + 1) * t.size ≤ m * t.size := Nat.mul_le_mul_right _ hi'
            rw [Nat.succ_mul] at this; simp at hcl; omega
          obtain ⟨bs', q1, q2, _⟩ := RdL.set (x := y) (new := v.cells.toList) (by simpa using hv) (cs' := splice cs.toList (i * t.size) v.cells.toList) hrl (by rw [tlist_length]; exact hi') hry (fun j => by
            rw [splice_get _ _ _ (by simpa using hfit)]; simp [hv])
          have : bs' = [] := by rcases bs' with _ | ⟨b, bs'⟩; rfl; have := q2 b (by simp); simp at this
          subst this
          have hfill : Instr.fill (fun i => some (i * t.size, t.size)) cs ((i, v) :: r) = Instr.fill (fun i => some (i * t.size, t.size)) (splice cs.toList (i * t.size) v.cells.toList).toArray r := by
            simp only [Instr.fill]
            rw [if_neg (by simp [hv]; omega), fill_step cs _ v.cells hfit]
          rw [hfill]
          refine fillA_ok hf hp hl ⟨?_, ?_⟩
          · simp only [List.toList_toArray]; rw [splice_length _ _ _ (by simpa using hfit)]; exact hcl
          · rw [tlist_set]; simpa using q1
        · cases hl
    · cases hl
  | [], _ :: _, _, _, _, h, _, _ => h.elim
  | (_, _) :: _, [], _, _, _, h, _, _ => h.elim
theorem places_of {fs : List Field} : ∀ {ty : Ty} {off : Nat}, TOK P T → FsOK P T fs ty off → fs.mapM (fun f => (P.info? f.type).map fun i => (f.offset, i.size)) = some (placesOf fs P.cellsOf) ∧
    ∀ j u, tyP ty [.fld j] = some u → (placesOf fs P.cellsOf)[j]? = some (off + poff ty [.fld j], u.size) := by
  induction fs with
  | nil =>
    intro ty off _ hf
    refine ⟨rfl, fun j u hu => ?_⟩
    cases ty <;> first | exact hf.elim | (cases j <;> simp [tyP] at hu)
  | cons f fs ih =>
    intro ty off hT hf
    cases ty with
    | pair a b =>
      obtain ⟨h1, h2, h3, h4, h5⟩ := hf
      obtain ⟨i, i1, i2, _⟩ := (hT _ _ h2).info
      obtain ⟨q1, q2⟩ := ih hT h5
      have hc : P.cellsOf f.type = a.size := by simp [Program.cellsOf, i1, i2]
      refine ⟨?_, fun j u hu => ?_⟩
      · simp only [List.mapM_cons, i1, Option.map_some, q1]; simp [placesOf, hc, i2]
      · cases j with
        | zero =>
          have e1 : tyP a [] = some a := by cases a <;> rfl
          have e0 : poff a [] = 0 := by cases a <;> rfl
          simp only [tyP, e1, Option.some.injEq] at hu; subst hu
          simp only [placesOf, List.map_cons, List.getElem?_cons_zero, poff, e0, hc, h1]; rfl
        | succ j =>
          have := q2 j u hu
          simp only [placesOf, List.map_cons, List.getElem?_cons_succ, poff] at this ⊢
          rw [this]; congr 2; omega
    | _ => exact hf.elim
theorem explodeNew_many : ∀ {t : Ty} {tag : Nat} {st : Bool} {v : t.den} {ls : List Leaf}, explodeNew tag st t v = some ls → (valMany t ls).isSome = true := by
  intro t
  induction t with
  | unit => intro tag st v ls h; simp only [explodeNew, Option.some.injEq] at h; subst h; rfl
  | pair a b _ ihb =>
    intro tag st v ls h
    have self : ∀ (a : Ty) (x : a.den), Ty.cast a x = some x := by
      intro a x
      have e : a.eqb a = true := by
        clear x; induction a with
        | int k => exact kEq_self k
        | pair _ _ h1 h2 => simp [Ty.eqb, h1, h2]
        | arr _ _ h => simp [Ty.eqb, h]
        | slice _ _ h => simp [Ty.eqb, h]
        | _ => rfl
      unfold Ty.cast; rw [dif_pos e]
    have fc : ∀ (a' : Ty) (x : a'.den), a' = a → (bif a'.flat then (match explodeNew (tag + 1) st b v.2 with | some r => some (Leaf.fz a' 0 false x :: r) | none => none) else none) = some ls → (valMany (.pair a b) ls).isSome = true := by
      intro a' x ea h
      subst ea
      cases hf : a'.flat with
      | false => rw [hf] at h; cases h
      | true =>
        rw [hf] at h; simp only [cond_true] at h
        split at h
        · rename_i r hr; injection h with h; subst h
          have := ihb hr
          obtain ⟨y, hy⟩ := Option.isSome_iff_exists.1 this
          simp only [valMany, self, hy]; rfl
        · cases h
    cases a with
    | slice e u =>
      simp only [explodeNew] at h
      split at h
      · rename_i r hr; injection h with h; subst h
        obtain ⟨y, hy⟩ := Option.isSome_iff_exists.1 (ihb hr)
        simp only [valMany, hy]
        have : (Ty.cast (.slice e u) (Leaf.rt e u tag false true st v.1).val) = some v.1 := self (.slice e u) v.1
        rw [this]; rfl
      · cases h
    | int k => exact fc _ _ rfl h
    | bool => exact fc _ _ rfl h
    | unit => exact fc _ _ rfl h
    | pair _ _ => exact fc _ _ rfl h
    | arr _ _ => exact fc _ _ rfl h
  | _ => intro tag st v ls h; cases h
theorem ok_build {t : TypeId} {ty : Ty} {ps : Array (Nat × Operand)} {es : List (Nat × Ent)} {e : Ent} (st : St n w0 W g get a w) (hd : n.has d) (clean : ∀ s, (get s).at d = false) (hT : TOK P T)
    (k : TyOK P T t ty) (hroom : tagRoom [ty] = true) (hp : partEs get ps.toList = some es) (hr : buildE d ty es = some e) :
    ∃ g' v w', (Instr.build t (ps.map fun (i, x) => (i, a.eval x))).run P w = .ok v w' ∧ St n w0 W g' (upd get d e) (a.put (some d) v) w' ∧ g'.al = g.al := by
  have pr := partEs_PR (d := d) st.ent clean hp
  generalize hvs : (ps.toList.map fun p => (p.1, a.eval p.2)) = vs at pr
  have hmap : (ps.map fun (i, x) => (i, a.eval x)).toList = vs := by rw [← hvs]; simp
  obtain ⟨it, t1, t2, t3, t4⟩ := k.info
  cases ty with
  | arr m u =>
    obtain ⟨el, hu, hte, hz, _⟩ := k.und
    obtain ⟨i, i1, i2, i3, i4⟩ := (hT _ _ hte).info
    simp only [buildE] at hr
    cases hf : u.flat with
    | false => rw [hf] at hr; cases hr
    | true =>
      rw [hf] at hr; simp only [cond_true] at hr
      split at hr
      · rename_i x hx
        injection hr with hr; subst hr
        obtain ⟨cs', q1, q2⟩ := fillA_ok (cs := (zv (.arr m u)).cells) hf pr hx (by rw [zv_cells]; exact zero_rd w.heap (.arr m u))
        refine ⟨g, .agg cs', w, run_build w t _ cs' ?_, st.putA hd ?_, rfl⟩
        · unfold Program.built; rw [t1, hu]; simp only [t3, i1, i2, hmap]; exact q1
        · have hl : LeafB g w.heap (.fz (.arr m u) 0 false x) cs'.toList [] := ⟨q2, by simp, by simp, by simp⟩
          have := hl.valR
          simp only [Leaf.ty, Ty.agg, cond_true, Array.toArray_toList] at this
          exact this
      · cases hr
  | pair b c =>
    obtain ⟨fs, hu, _, hfs⟩ := k.und
    simp only [buildE] at hr
    split at hr
    · rename_i ls hls
      split at hr
      · rename_i ls' hls'
        injection hr with hr; subst hr
        have hw : tagRoom.width (.pair b c) ≤ 14 := by simpa [tagRoom] using hroom
        -- the regions of the zero value's slices
        have ext := head_ext g w.heap d (fun _ => nilv)
        have hz : LeavesB (g.head d (fun _ => nilv)) w.heap ls (zv (.pair b c)).cells.toList [] := by
          rw [zv_cells]; exact explodeNew_zero hls fun i hi => by simp [Gh.head, tagAt_self (show i < 15 by omega)]
        have pr' : PR (g.head d (fun _ => nilv)) w.heap d vs es := by
          have : ∀ {vs : List (Nat × Value)} {es : List (Nat × Ent)}, PR g w.heap d vs es → (∀ q ∈ es, ∀ agg ls, q.2 = .val agg ls ∨ True) → PR (g.head d (fun _ => nilv)) w.heap d vs es := by
            intro vs
            induction vs with
            | nil => intro es h _; cases es with | nil => trivial | cons _ _ => exact h.elim
            | cons v vs ih =>
              intro es h hh
              obtain ⟨i, v⟩ := v
              cases es with
              | nil => exact h.elim
              | cons e es =>
                obtain ⟨i', e⟩ := e
                obtain ⟨h1, ⟨s, h2⟩, h3, h4⟩ := h
                refine ⟨h1, ?_, h3, ih h4 (fun _ _ _ _ => .inr trivial)⟩
                -- an entry of another slot
                by_cases hs : s = d
                · cases e with
                  | dead => exact ⟨s, trivial⟩
                  | val agg ls => exact ⟨s, ValR.ext ext h2 h3⟩
                  | lit e t pp =>
                    obtain ⟨b, c, bs, r1, r2, r3, r4, r5, r6, r7⟩ := h2
                    exact ⟨s, b, c, bs, r1, r2, r3, r4, r5, r6.ext ext h3, r7⟩
                  | box ro ls =>
                    obtain ⟨b, c, e, fr, bs, r1, r2, r3, r4, r5, r6⟩ := h2
                    exact ⟨s, b, c, e, fr, bs, r1, r2, r3.ext ext h3, r4, r5, r6⟩
                  | ref s' base t p => exact ⟨s, h2⟩
                  | eref l i p =>
                    obtain ⟨bs, b, o, m, cap, r1, r2⟩ := h2
                    exact ⟨s, bs, b, o, m, cap, r1.ext ext h3, r2⟩
                  | fn f caps => exact ⟨s, h2⟩
                  | tup ls => obtain ⟨vs, r1, r2⟩ := h2; exact ⟨s, vs, r1, r2.ext ext h3⟩
                  | mp _ _ _ _ => exact ⟨s, h2⟩
                  | ment _ _ _ _ => exact ⟨s, h2⟩
                  | stamp _ _ _ _ => exact ⟨s, h2⟩
                  | it _ _ => exact ⟨s, h2⟩
                · exact ⟨s, h2.ext ext hs h3⟩
          exact this pr (fun _ _ _ _ => .inr trivial)
        obtain ⟨hplaces, hpl⟩ := places_of hT hfs
        obtain ⟨y, hy⟩ := Option.isSome_iff_exists.1 (explodeNew_many hls)
        obtain ⟨cs', bs', q1, q2⟩ := fillS_ok (place := ((placesOf fs.toList P.cellsOf).toArray[·]?)) pr' hls' (fun i o l hl => by
          obtain ⟨r1, r2⟩ := leafAt_of hy hl
          have := hpl i l.ty r1
          rw [r2, Nat.zero_add] at this
          simpa using this) hz
        refine ⟨g.head d (fun _ => nilv), .agg cs', w, run_build w t _ cs' ?_, st.head hd (fun s _ => clean s) _ ?_, rfl⟩
        · unfold Program.built; rw [t1, hu]; simp only [t3, hplaces, hmap]; exact q1
        · exact ⟨cs'.toList, bs', by simp, fun h => (by cases h), q2⟩
      · cases hr
    · cases hr
  | _ => simp [buildE] at hr
end
end Go.Proofs.YtmdpmnjnpnjppaaEv
