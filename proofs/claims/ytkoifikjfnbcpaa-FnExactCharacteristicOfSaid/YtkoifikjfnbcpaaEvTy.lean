/- Plain data for the program's values: their types, and what it is for cells of memory to read as such data. -/
import Derived.Below
import Derived.Laws.Cells
import Derived.KernelRfl
set_option linter.unusedVariables false
set_option linter.unusedSimpArgs false
namespace Go.Proofs.YtkoifikjfnbcpaaEv
open Go Go.RowKit

inductive Ty where
  | int (k : IntKind)
  | bool
  | unit
  | pair (a b : Ty)
  | arr (n : Nat) (t : Ty)
  | slice (e : TypeId) (t : Ty)

abbrev Tup (α : Type) : Nat → Type
  | 0 => Unit
  | n + 1 => α × Tup α n

abbrev Ty.den : Ty → Type
  | .int _ => Int
  | .bool => Bool
  | .unit => Unit
  | .pair a b => a.den × b.den
  | .arr n t => Tup t.den n
  | .slice _ t => List t.den

def Ty.size : Ty → Nat
  | .int _ | .bool | .slice _ _ => 1
  | .unit => 0
  | .pair a b => a.size + b.size
  | .arr n t => n * t.size

def Ty.flat : Ty → Bool
  | .slice _ _ => false
  | .pair a b => a.flat && b.flat
  | .arr _ t => t.flat
  | _ => true

/-- Whether a value of the type is told by an aggregate. -/
def Ty.agg : Ty → Bool
  | .unit | .pair _ _ | .arr _ _ => true
  | _ => false

def tup (α : Type) (x : α) : (n : Nat) → Tup α n
  | 0 => ()
  | n + 1 => (x, tup α x n)

def Ty.dflt : (t : Ty) → t.den
  | .int _ => (0 : Int)
  | .bool => false
  | .unit => ()
  | .pair a b => (a.dflt, b.dflt)
  | .arr n t => tup t.den t.dflt n
  | .slice _ _ => []

def tget {α : Type} (d : α) : (n : Nat) → Tup α n → Nat → α
  | 0, _, _ => d
  | _ + 1, v, 0 => v.1
  | n + 1, v, i + 1 => tget d n v.2 i
def tset {α : Type} (x : α) : (n : Nat) → Tup α n → Nat → Tup α n
  | 0, v, _ => v
  | _ + 1, v, 0 => (x, v.2)
  | n + 1, v, i + 1 => (v.1, tset x n v.2 i)
def tlist {α : Type} : (n : Nat) → Tup α n → List α
  | 0, _ => []
  | n + 1, v => v.1 :: tlist n v.2

theorem tlist_length {α : Type} : ∀ (n : Nat) (v : Tup α n), (tlist n v).length = n
  | 0, _ => rfl
  | n + 1, v => by simp [tlist, tlist_length n v.2]
theorem tlist_get {α : Type} (d : α) : ∀ (n : Nat) (v : Tup α n) (i : Nat), i < n → (tlist n v)[i]? = some (tget d n v i)
  | 0, _, _, h => by omega
  | n + 1, v, 0, _ => rfl
  | n + 1, v, i + 1, h => by simp only [tlist, List.getElem?_cons_succ, tget]; exact tlist_get d n v.2 i (by omega)
theorem tlist_set {α : Type} (x : α) : ∀ (n : Nat) (v : Tup α n) (i : Nat), tlist n (tset x n v i) = (tlist n v).set i x
  | 0, _, _ => rfl
  | n + 1, v, 0 => rfl
  | n + 1, v, i + 1 => by simp only [tlist, tset, List.set_cons_succ]; rw [tlist_set x n v.2 i]
theorem tlist_tup {α : Type} (x : α) : ∀ n, tlist n (tup α x n) = List.replicate n x
  | 0 => rfl
  | n + 1 => by simp [tlist, tup, List.replicate_succ, tlist_tup x n]

def kEq : IntKind → IntKind → Bool
  | .i8, .i8 | .i16, .i16 | .i32, .i32 | .i64, .i64 | .u8, .u8 | .u16, .u16 | .u32, .u32 | .u64, .u64 => true
  | _, _ => false
theorem kEq_eq : ∀ {a b : IntKind}, kEq a b = true → a = b := by intro a b; cases a <;> cases b <;> simp [kEq]

def Ty.eqb : Ty → Ty → Bool
  | .int k, .int k' => kEq k k'
  | .bool, .bool => true
  | .unit, .unit => true
  | .pair a b, .pair c d => a.eqb c && b.eqb d
  | .arr n a, .arr m b => Nat.beq n m && a.eqb b
  | .slice e a, .slice f b => Nat.beq e f && a.eqb b
  | _, _ => false
theorem Ty.eq_of_eqb : ∀ {a b : Ty}, a.eqb b = true → a = b := by
  intro a
  induction a with
  | int k => intro b h; cases b <;> simp [Ty.eqb] at h; rw [kEq_eq h]
  | bool => intro b h; cases b <;> simp [Ty.eqb] at h; rfl
  | unit => intro b h; cases b <;> simp [Ty.eqb] at h; rfl
  | pair a c iha ihc => intro b h; cases b <;> simp [Ty.eqb] at h; rw [iha h.1, ihc h.2]
  | arr n t ih => intro b h; cases b <;> simp [Ty.eqb] at h; rw [h.1, ih h.2]
  | slice e t ih => intro b h; cases b <;> simp [Ty.eqb] at h; rw [h.1, ih h.2]

/-- The same data under an equal type. -/
def Ty.cast {a : Ty} (b : Ty) (x : a.den) : Option b.den :=
  if h : a.eqb b = true then some (Ty.eq_of_eqb h ▸ x) else none
theorem Ty.cast_eq {a b : Ty} {x : a.den} {y : b.den} (h : Ty.cast b x = some y) : ∃ e : a = b, e ▸ x = y := by
  unfold Ty.cast at h
  split at h
  · rename_i h'; exact ⟨Ty.eq_of_eqb h', by injection h⟩
  · cases h

abbrev Mem := Array Obj

def RdL {α : Type} (R : α → List Value → List Nat → Prop) (n : Nat) : List α → List Value → List Nat → Prop
  | [], _, bs => bs = []
  | x :: xs, cs, bs => ∃ b1 b2, R x (cs.take n) b1 ∧ RdL R n xs (cs.drop n) b2 ∧ bs = b1 ++ b2

/-- A slice's value 'hd' reads as the list l; 'blk' is its block, 'bs' are the blocks of what its elements lead to. -/
def SlR {α : Type} (h : Mem) (e : TypeId) (n : Nat) (R : α → List Value → List Nat → Prop) (l : List α) (hd : Value) (blk : Option Nat) (bs : List Nat) : Prop :=
  (hd = .slice none 0 0 ∧ l = [] ∧ blk = none ∧ bs = []) ∨
  ∃ b o cap c fr, hd = .slice (some ⟨b, o, none⟩) l.length cap ∧ blk = some b ∧ l.length ≤ cap ∧ h[b]? = some (.cells c e fr) ∧ o + cap * n ≤ c.size ∧
    RdL R n l (c.toList.drop o) bs

def Rd (h : Mem) : (t : Ty) → t.den → List Value → List Nat → Prop
  | .int k, x, cs, bs => cs = [.int k x] ∧ (Lit.int k x).wf = true ∧ bs = []
  | .bool, x, cs, bs => cs = [.bool x] ∧ bs = []
  | .unit, _, cs, bs => cs = [] ∧ bs = []
  | .pair a b, x, cs, bs => ∃ b1 b2, Rd h a x.1 (cs.take a.size) b1 ∧ Rd h b x.2 (cs.drop a.size) b2 ∧ bs = b1 ++ b2
  | .arr n t, x, cs, bs => cs.length = n * t.size ∧ RdL (Rd h t) t.size (tlist n x) cs bs
  | .slice e t, x, cs, bs => ∃ hd blk bs', cs = [hd] ∧ SlR h e t.size (Rd h t) x hd blk bs' ∧ bs = blk.toList ++ bs'

theorem RdL.mono {α : Type} {R R' : α → List Value → List Nat → Prop} {n : Nat} : ∀ {l : List α} {cs : List Value} {bs : List Nat}, RdL R n l cs bs →
    (∀ x cs b, (∀ y ∈ b, y ∈ bs) → R x cs b → R' x cs b) → RdL R' n l cs bs
  | [], _, _, h, _ => h
  | x :: xs, cs, bs, ⟨b1, b2, h1, h2, h3⟩, hR => by
    subst h3
    exact ⟨b1, b2, hR _ _ _ (fun y hy => List.mem_append_left _ hy) h1, RdL.mono h2 (fun x cs b hb => hR x cs b (fun y hy => List.mem_append_right _ (hb y hy))), rfl⟩

theorem Rd.frame {h h' : Mem} : ∀ {t : Ty} {x : t.den} {cs : List Value} {bs : List Nat}, Rd h t x cs bs → (∀ b ∈ bs, h'[b]? = h[b]?) → Rd h' t x cs bs := by
  intro t
  induction t with
  | int k => intro x cs bs hr _; exact hr
  | bool => intro x cs bs hr _; exact hr
  | unit => intro x cs bs hr _; exact hr
  | pair a b iha ihb =>
    rintro x cs bs ⟨b1, b2, h1, h2, rfl⟩ hb
    exact ⟨b1, b2, iha h1 (fun y hy => hb y (List.mem_append_left _ hy)), ihb h2 (fun y hy => hb y (List.mem_append_right _ hy)), rfl⟩
  | arr n t ih =>
    rintro x cs bs ⟨hl, hr⟩ hb
    exact ⟨hl, hr.mono fun x cs b hm hx => ih hx fun y hy => hb y (hm y hy)⟩
  | slice e t ih =>
    rintro x cs bs ⟨hd, blk, bs', rfl, hs, rfl⟩ hb
    refine ⟨hd, blk, bs', rfl, ?_, rfl⟩
    rcases hs with hs | ⟨b, o, cap, c, fr, e1, e2, e3, e4, e5, e6⟩
    · exact .inl hs
    · subst e2
      refine .inr ⟨b, o, cap, c, fr, e1, rfl, e3, by rw [hb b (by simp)]; exact e4, e5, ?_⟩
      exact e6.mono fun x cs b hm hx => ih hx fun y hy => hb y (List.mem_append_right _ (hm y hy))

theorem SlR.frame {h h' : Mem} {e : TypeId} {t : Ty} {l : List t.den} {hd : Value} {blk : Option Nat} {bs : List Nat} (hs : SlR h e t.size (Rd h t) l hd blk bs)
    (hb : ∀ b ∈ bs, h'[b]? = h[b]?) (hk : ∀ b, blk = some b → h'[b]? = h[b]?) : SlR h' e t.size (Rd h' t) l hd blk bs := by
  rcases hs with hs | ⟨b, o, cap, c, fr, e1, e2, e3, e4, e5, e6⟩
  · exact .inl hs
  · subst e2
    exact .inr ⟨b, o, cap, c, fr, e1, rfl, e3, by rw [hk b rfl]; exact e4, e5, e6.mono fun x cs b hm hx => hx.frame fun y hy => hb y (hm y hy)⟩

theorem RdL.lt {α : Type} {N : Nat} {R : α → List Value → List Nat → Prop} (hR : ∀ x cs b, R x cs b → ∀ y ∈ b, y < N) {n : Nat} : ∀ {l : List α} {cs : List Value} {bs : List Nat}, RdL R n l cs bs → ∀ y ∈ bs, y < N
  | [], _, _, h => by rw [show _ = [] from h]; intro y hy; cases hy
  | x :: xs, cs, bs, ⟨b1, b2, h1, h2, h3⟩ => by
    subst h3; intro y hy
    rcases List.mem_append.1 hy with hy | hy
    · exact hR _ _ _ h1 y hy
    · exact RdL.lt hR h2 y hy

theorem Rd.lt {h : Mem} : ∀ {t : Ty} {x : t.den} {cs : List Value} {bs : List Nat}, Rd h t x cs bs → ∀ b ∈ bs, b < h.size := by
  intro t
  induction t with
  | int k => rintro x cs bs ⟨_, _, rfl⟩ b hb; cases hb
  | bool => rintro x cs bs ⟨_, rfl⟩ b hb; cases hb
  | unit => rintro x cs bs ⟨_, rfl⟩ b hb; cases hb
  | pair a b iha ihb =>
    rintro x cs bs ⟨b1, b2, h1, h2, rfl⟩ y hy
    rcases List.mem_append.1 hy with hy | hy
    · exact iha h1 y hy
    · exact ihb h2 y hy
  | arr n t ih => rintro x cs bs ⟨hl, hr⟩; exact hr.lt fun x cs b hx => ih hx
  | slice e t ih =>
    rintro x cs bs ⟨hd, blk, bs', rfl, hs, rfl⟩ y hy
    rcases hs with ⟨_, _, rfl, rfl⟩ | ⟨b, o, cap, c, fr, e1, e2, e3, e4, e5, e6⟩
    · cases hy
    · subst e2
      rcases List.mem_append.1 hy with hy | hy
      · simp at hy; subst hy
        rcases Nat.lt_or_ge y h.size with hlt | hge
        · exact hlt
        · rw [Array.getElem?_eq_none hge] at e4; cases e4
      · exact e6.lt (fun x cs b hx => ih hx) y hy

theorem RdL.flat {α : Type} {R : α → List Value → List Nat → Prop} (hR : ∀ x cs b, R x cs b → b = []) {n : Nat} : ∀ {l : List α} {cs : List Value} {bs : List Nat}, RdL R n l cs bs → bs = []
  | [], _, _, h => h
  | x :: xs, cs, bs, ⟨b1, b2, h1, h2, h3⟩ => by rw [h3, hR _ _ _ h1, RdL.flat hR h2]; rfl

theorem Rd.flat {h : Mem} : ∀ {t : Ty}, t.flat = true → ∀ {x : t.den} {cs : List Value} {bs : List Nat}, Rd h t x cs bs → bs = [] := by
  intro t
  induction t with
  | int k => rintro _ x cs bs ⟨_, _, rfl⟩; rfl
  | bool => rintro _ x cs bs ⟨_, rfl⟩; rfl
  | unit => rintro _ x cs bs ⟨_, rfl⟩; rfl
  | pair a b iha ihb =>
    intro hf; simp [Ty.flat] at hf
    rintro x cs bs ⟨b1, b2, h1, h2, rfl⟩
    rw [iha hf.1 h1, ihb hf.2 h2]; rfl
  | arr n t ih => intro hf; simp [Ty.flat] at hf; rintro x cs bs ⟨hl, hr⟩; exact hr.flat fun x cs b hx => ih hf hx
  | slice e t ih => intro hf; simp [Ty.flat] at hf

theorem Rd.length {h : Mem} : ∀ {t : Ty} {x : t.den} {cs : List Value} {bs : List Nat}, Rd h t x cs bs → cs.length = t.size := by
  intro t
  induction t with
  | int k => rintro x cs bs ⟨rfl, _, _⟩; rfl
  | bool => rintro x cs bs ⟨rfl, _⟩; rfl
  | unit => rintro x cs bs ⟨rfl, _⟩; rfl
  | pair a b iha ihb =>
    rintro x cs bs ⟨b1, b2, h1, h2, rfl⟩
    have := iha h1; have := ihb h2; simp [Ty.size] at *; omega
  | arr n t ih => rintro x cs bs ⟨hl, hr⟩; exact hl
  | slice e t ih => rintro x cs bs ⟨hd, blk, bs', rfl, hs, rfl⟩; rfl

/-- The i-th element of a row. -/
theorem RdL.get {α : Type} {R : α → List Value → List Nat → Prop} {n : Nat} : ∀ {l : List α} {cs : List Value} {bs : List Nat}, RdL R n l cs bs → ∀ {i : Nat} {x : α}, l[i]? = some x →
    ∃ b, R x ((cs.drop (i * n)).take n) b ∧ b.Sublist bs
  | [], _, _, _, i, x, hx => by cases hx
  | y :: ys, cs, bs, ⟨b1, b2, h1, h2, h3⟩, 0, x, hx => by
    subst h3; cases hx; exact ⟨b1, by simpa using h1, List.sublist_append_left _ _⟩
  | y :: ys, cs, bs, ⟨b1, b2, h1, h2, h3⟩, i + 1, x, hx => by
    subst h3
    obtain ⟨b, hb, hs⟩ := RdL.get h2 (i := i) (x := x) (by simpa using hx)
    refine ⟨b, ?_, hs.trans (List.sublist_append_right _ _)⟩
    rw [List.drop_drop] at hb
    rw [Nat.succ_mul, Nat.add_comm]; exact hb

/-- Rows one behind the other. -/
theorem RdL.append {α : Type} {R : α → List Value → List Nat → Prop} {n : Nat} : ∀ {l l' : List α} {cs cs' : List Value} {bs bs' : List Nat}, RdL R n l cs bs → cs.length = l.length * n → RdL R n l' cs' bs' →
    RdL R n (l ++ l') (cs ++ cs') (bs ++ bs')
  | [], l', cs, cs', bs, bs', h, hl, h' => by
    obtain rfl : bs = [] := h
    obtain rfl : cs = [] := List.eq_nil_of_length_eq_zero (by simpa using hl)
    simpa using h'
  | x :: xs, l', cs, cs', bs, bs', ⟨b1, b2, h1, h2, h3⟩, hl, h' => by
    subst h3
    have hn : n ≤ cs.length := by rw [hl]; simp [Nat.succ_mul]
    refine ⟨b1, b2 ++ bs', by rw [List.take_append_of_le_length hn]; exact h1, ?_, by simp⟩
    rw [List.drop_append_of_le_length hn]
    exact RdL.append h2 (by simp [hl, Nat.succ_mul]) h'

theorem RdL.take {α : Type} {R : α → List Value → List Nat → Prop} {n : Nat} : ∀ {l : List α} {cs cs' : List Value} {bs : List Nat}, RdL R n l cs bs → (∀ j, j < l.length * n → cs'[j]? = cs[j]?) →
    RdL R n l cs' bs
  | [], cs, cs', bs, h, _ => h
  | x :: xs, cs, cs', bs, ⟨b1, b2, h1, h2, h3⟩, hc => by
    refine ⟨b1, b2, ?_, RdL.take h2 (fun j hj => ?_), h3⟩
    · have : cs'.take n = cs.take n := by
        apply List.ext_getElem?; intro j
        by_cases hj : j < n
        · rw [List.getElem?_take_of_lt hj, List.getElem?_take_of_lt hj]; exact hc j (by simp [Nat.succ_mul]; omega)
        · rw [List.getElem?_eq_none (by simp; omega), List.getElem?_eq_none (by simp; omega)]
      rw [this]; exact h1
    · simp only [List.getElem?_drop]; exact hc _ (by simp [Nat.succ_mul]; omega)

/-- One element turned. -/
theorem RdL.set {α : Type} {R : α → List Value → List Nat → Prop} {n : Nat} {x : α} {new : List Value} (hn : new.length = n) :
    ∀ {l : List α} {cs cs' : List Value} {bs b : List Nat} {i : Nat}, RdL R n l cs bs → i < l.length → R x new b →
    (∀ j, cs'[j]? = if i * n ≤ j ∧ j < i * n + n then new[j - i * n]? else cs[j]?) →
    ∃ bs', RdL R n (l.set i x) cs' bs' ∧ (∀ y ∈ bs', y ∈ bs ∨ y ∈ b) ∧ (bs.Nodup → b.Nodup → (∀ y ∈ b, y ∉ bs) → bs'.Nodup)
  | [], _, _, _, _, _, _, h, _, _ => by simp at h
  | y :: ys, cs, cs', bs, b, 0, ⟨b1, b2, h1, h2, h3⟩, _, hx, hc => by
    subst h3
    refine ⟨b ++ b2, ⟨b, b2, ?_, ?_, rfl⟩, ?_, ?_⟩
    · have : cs'.take n = new := by
        apply List.ext_getElem?; intro j
        by_cases hj : j < n
        · rw [List.getElem?_take_of_lt hj, hc, if_pos (by omega)]; simp
        · rw [List.getElem?_eq_none (by simp; omega), List.getElem?_eq_none (by omega)]
      rw [this]; exact hx
    · refine RdL.take h2 fun j hj => ?_
      simp only [List.getElem?_drop]; rw [hc, if_neg (by omega)]
    · intro z hz; rcases List.mem_append.1 hz with hz | hz
      · exact .inr hz
      · exact .inl (List.mem_append_right _ hz)
    · intro n1 n2 n3
      have n1' := List.nodup_append.1 n1
      refine List.nodup_append.2 ⟨n2, n1'.2.1, fun u hu v hv e => n3 u hu (List.mem_append_right _ (e ▸ hv))⟩
  | y :: ys, cs, cs', bs, b, i + 1, ⟨b1, b2, h1, h2, h3⟩, hi, hx, hc => by
    subst h3
    obtain ⟨bs', r1, r2, r3⟩ := RdL.set (x := x) hn (cs' := cs'.drop n) (i := i) h2 (by simpa using hi) hx (fun j => by
      simp only [List.getElem?_drop]; rw [hc]
      simp only [Nat.succ_mul]
      by_cases hj : i * n ≤ j ∧ j < i * n + n
      · rw [if_pos (by omega), if_pos hj]; congr 1; omega
      · rw [if_neg (by omega), if_neg hj])
    refine ⟨b1 ++ bs', ⟨b1, bs', ?_, r1, rfl⟩, ?_, ?_⟩
    · have : cs'.take n = cs.take n := by
        apply List.ext_getElem?; intro j
        by_cases hj : j < n
        · rw [List.getElem?_take_of_lt hj, List.getElem?_take_of_lt hj, hc, if_neg (by simp only [Nat.succ_mul]; omega)]
        · rw [List.getElem?_eq_none (by simp; omega), List.getElem?_eq_none (by simp; omega)]
      rw [this]; exact h1
    · intro z hz; rcases List.mem_append.1 hz with hz | hz
      · exact .inl (List.mem_append_left _ hz)
      · rcases r2 z hz with hz | hz
        · exact .inl (List.mem_append_right _ hz)
        · exact .inr hz
    · intro n1 n2 n3
      have n1' := List.nodup_append.1 n1
      refine List.nodup_append.2 ⟨n1'.1, r3 n1'.2.1 n2 (fun u hu hv => n3 u hu (List.mem_append_right _ hv)), fun u hu v hv e => ?_⟩
      subst e
      rcases r2 u hv with hv | hv
      · exact n1'.2.2 u hu u hv rfl
      · exact n3 u hv (List.mem_append_left _ hu)

end Go.Proofs.YtkoifikjfnbcpaaEv
