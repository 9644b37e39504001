/- A frame and the memory told as plain data: the relation, and that it stays where memory grows. -/
import Derived.Test.YtkoifikjfnbcpaaEvOp
set_option linter.unusedVariables false
set_option linter.unusedSimpArgs false
namespace Go.Proofs.YtkoifikjfnbcpaaEv
open Go Go.RowKit

/-- What becomes of a block: nobody writes it and the call may speak of it ('fz'), the call does not speak of it ('no'), it is the block of a slice that the call may write, or of a variable of the frame. -/
inductive BK where
  | fz
  | no
  | mu (tag : Nat)
  | bx (slot : Nat)

structure Gh where
  kd : Nat → BK
  own : Nat → Nat
  H : Nat → Value
  bx : Nat → Nat
  al : Nat → Prop

def LeafB (g : Gh) (h : Mem) : Leaf → List Value → List Nat → Prop
  | .fz t reg lin v, cs, bs => Rd h t v cs bs ∧ (∀ b ∈ bs, g.kd b = .fz) ∧ (reg ≠ 0 → ∀ b ∈ bs, g.own b = reg) ∧ (lin = true → bs.Nodup)
  | .rt e t tag sub lin st v, cs, bs => ∃ hd blk bs', cs = [hd] ∧ bs = blk.toList ++ bs' ∧ (sub = false → hd = g.H tag) ∧ (st = true → (hd = .slice none 0 0 ↔ v = [])) ∧
      SlR h e t.size (Rd h t) v hd blk bs' ∧ (∀ b ∈ bs', g.kd b = .fz) ∧ (∀ b, blk = some b → g.kd b = .mu tag ∧ g.own b = tag ∧ ∃ c, h[b]? = some (.cells c e (0, 0))) ∧
      (lin = true → (∀ b ∈ bs', g.own b = tag) ∧ bs'.Nodup)

def LeavesB (g : Gh) (h : Mem) : List Leaf → List Value → List Nat → Prop
  | [], cs, bs => cs = [] ∧ bs = []
  | l :: r, cs, bs => ∃ b1 b2, LeafB g h l (cs.take l.ty.size) b1 ∧ LeavesB g h r (cs.drop l.ty.size) b2 ∧ bs = b1 ++ b2

def PartsB (g : Gh) (h : Mem) (n : Nat) : List (List Leaf) → List Value → List Nat → Prop
  | [], cs, bs => cs = [] ∧ bs = []
  | ls :: r, cs, bs => ∃ b1 b2, LeavesB g h ls (cs.take n) b1 ∧ PartsB g h n r (cs.drop n) b2 ∧ bs = b1 ++ b2

def ValR (g : Gh) (h : Mem) (agg : Bool) (ls : List Leaf) (v : Value) : Prop :=
  ∃ cs bs, (v = bif agg then .agg cs.toArray else cs.headD undef) ∧ (agg = false → cs.length = 1 ∧ v.cells = #[v]) ∧ LeavesB g h ls cs bs

def ValsR (g : Gh) (h : Mem) : List (Bool × List Leaf) → List Value → Prop
  | [], vs => vs = []
  | (agg, ls) :: r, vs => ∃ v vs', vs = v :: vs' ∧ ValR g h agg ls v ∧ ValsR g h r vs'

def EntR (g : Gh) (h : Mem) (s : Nat) : Ent → Value → Prop
  | .dead, _ => True
  | .val agg ls, v => ValR g h agg ls v
  | .lit e t pp, v => ∃ b c bs, v = .slice (some ⟨b, 0, none⟩) pp.length pp.length ∧ h[b]? = some (.cells c e (0, 0)) ∧ c.size = pp.length * t.size ∧ g.kd b = .mu (s * 16 + 1) ∧ g.own b = s * 16 + 1 ∧
      PartsB g h t.size pp c.toList bs ∧ 0 < pp.length
  | .box ro ls, v => ∃ b c e fr bs, v = .pointer (some ⟨b, 0, none⟩) ∧ h[b]? = some (.cells c e fr) ∧ LeavesB g h ls c.toList bs ∧ g.bx s = b ∧
      (ro = false → g.kd b = .bx s ∧ fr = (0, 0)) ∧ (ro = true → g.kd b = .fz ∨ g.kd b = .no)
  | .ref s' base t p, v => pin t p ∧ v = .pointer (some ⟨g.bx s', base + poff t p, none⟩)
  | .eref l i p, v => ∃ bs b o n cap, LeafB g h l [.slice (some ⟨b, o, none⟩) n cap] bs ∧ lenL l = some n ∧ i < n ∧ pin (elemTy l) p ∧
      v = .pointer (some ⟨b, o + i * (elemTy l).size + poff (elemTy l) p, none⟩)
  | .fn f caps, v => v = .func (.func f) #[] (caps.map fun s => Value.pointer (some ⟨g.bx s, 0, none⟩)).toArray
  | .tup ls, v => ∃ vs, v = .tuple vs ∧ ValsR g h ls vs.toList

/-- What holds of the memory as a whole: 'h0' as it was when the call began, 'W' the elder blocks that the call may write. -/
structure Inv (g : Gh) (h0 h : Mem) (W : Nat → Prop) : Prop where
  size : h0.size ≤ h.size
  old : ∀ b, b < h0.size → ¬ W b → h[b]? = h0[b]?
  kd : ∀ b, g.kd b = .fz ∨ g.kd b = .no ∨ (b < h.size ∧ (h0.size ≤ b ∨ W b))
  no : ∀ b, g.kd b = .no → b < h0.size
  al : ∀ b, g.kd b = .fz → h0.size ≤ b ∨ g.al b
  own : ∀ b, g.own b ≠ 0 → b < h.size ∧ (h0.size ≤ b ∨ W b)
  wr : ∀ b, g.own b ≠ 0 → ∃ c e, h[b]? = some (.cells c e (0, 0))

/-- Whether a region's number is one of those that an operation with this slot gives. -/
def tagAt (d tag : Nat) : Bool := !(Nat.beq tag 0) && Nat.beq (tag / 16) d
def Leaf.at (d : Nat) : Leaf → Bool
  | .fz _ reg _ _ => tagAt d reg
  | .rt _ _ tag _ _ _ _ => tagAt d tag
/-- Whether a slot's data speak of the regions or of the variable of slot d. -/
def Ent.at (d : Nat) : Ent → Bool
  | .dead => false
  | .val _ ls => ls.any (Leaf.at d)
  | .lit _ _ pp => pp.any fun ls => ls.any (Leaf.at d)
  | .box _ ls => ls.any (Leaf.at d)
  | .ref s _ _ _ => Nat.beq s d
  | .eref l _ _ => l.at d
  | .fn _ caps => memN caps d
  | .tup ls => ls.any fun p => p.2.any (Leaf.at d)

/-- Memory has grown, and nothing is turned but what slot d speaks of. -/
structure Ext (d : Nat) (g : Gh) (h : Mem) (g' : Gh) (h' : Mem) : Prop where
  size : h.size ≤ h'.size
  blk : ∀ b, b < h.size → h'[b]? = h[b]?
  kd : ∀ b, b < h.size → g'.kd b = g.kd b
  own : ∀ b, b < h.size → g'.own b = g.own b
  H : ∀ t, tagAt d t = false → g'.H t = g.H t
  bx : ∀ s, s ≠ d → g'.bx s = g.bx s

theorem SlR.lt {h : Mem} {e : TypeId} {t : Ty} {l : List t.den} {hd : Value} {blk : Option Nat} {bs : List Nat} (hs : SlR h e t.size (Rd h t) l hd blk bs) :
    (∀ b, blk = some b → b < h.size) ∧ ∀ b ∈ bs, b < h.size := by
  have := Rd.lt (h := h) (t := .slice e t) (x := l) (cs := [hd]) (bs := blk.toList ++ bs) ⟨hd, blk, bs, rfl, hs, rfl⟩
  exact ⟨fun b hb => this b (by simp [hb]), fun b hb => this b (by simp [hb])⟩

theorem LeafB.lt {g : Gh} {h : Mem} {l : Leaf} {cs : List Value} {bs : List Nat} (hl : LeafB g h l cs bs) : ∀ b ∈ bs, b < h.size := by
  cases l with
  | fz t reg lin v => exact hl.1.lt
  | rt e t tag sub lin st v =>
    obtain ⟨hd, blk, bs', rfl, rfl, _, _, hs, _⟩ := hl
    intro b hb
    rcases List.mem_append.1 hb with hb | hb
    · exact hs.lt.1 b (by simpa using hb)
    · exact hs.lt.2 b hb

/-- What a part is, is the same where the blocks that it reads, and what is said of them, are. -/
theorem LeafB.same {g g' : Gh} {h h' : Mem} {l : Leaf} {cs : List Value} {bs : List Nat} (hl : LeafB g h l cs bs)
    (hb : ∀ b ∈ bs, h'[b]? = h[b]?) (hk : ∀ b ∈ bs, g'.kd b = g.kd b) (ho : ∀ b ∈ bs, g'.own b = g.own b)
    (hH : ∀ e t tag sub lin st v, l = .rt e t tag sub lin st v → sub = false → g'.H tag = g.H tag) : LeafB g' h' l cs bs := by
  cases l with
  | fz t reg lin v =>
    obtain ⟨h1, h2, h3, h4⟩ := hl
    exact ⟨h1.frame hb, fun b m => (hk b m).trans (h2 b m), fun r b m => (ho b m).trans (h3 r b m), h4⟩
  | rt e t tag sub lin st v =>
    obtain ⟨hd, blk, bs', rfl, rfl, h1, h2, h3, h4, h5, h6⟩ := hl
    have m1 : ∀ b, blk = some b → b ∈ blk.toList ++ bs' := fun b hb => by simp [hb]
    have m2 : ∀ b ∈ bs', b ∈ blk.toList ++ bs' := fun b hb => List.mem_append_right _ hb
    refine ⟨hd, blk, bs', rfl, rfl, fun hs => (h1 hs).trans (hH _ _ _ _ _ _ _ rfl hs).symm, h2, h3.frame (fun b m => hb b (m2 b m)) (fun b m => hb b (m1 b m)),
      fun b m => (hk b (m2 b m)).trans (h4 b m), fun b m => ?_, fun hlin => ⟨fun b m => (ho b (m2 b m)).trans ((h6 hlin).1 b m), (h6 hlin).2⟩⟩
    obtain ⟨q1, q2, c, q3⟩ := h5 b m
    exact ⟨(hk b (m1 b m)).trans q1, (ho b (m1 b m)).trans q2, c, (hb b (m1 b m)).trans q3⟩

theorem LeafB.ext {d : Nat} {g g' : Gh} {h h' : Mem} (x : Ext d g h g' h') {l : Leaf} {cs : List Value} {bs : List Nat} (hl : LeafB g h l cs bs) (hd : l.at d = false) : LeafB g' h' l cs bs :=
  hl.same (fun b m => x.blk b (hl.lt b m)) (fun b m => x.kd b (hl.lt b m)) (fun b m => x.own b (hl.lt b m)) (fun e t tag sub lin st v he _ => by subst he; exact x.H _ hd)

theorem LeavesB.ext {d : Nat} {g g' : Gh} {h h' : Mem} (x : Ext d g h g' h') : ∀ {ls : List Leaf} {cs : List Value} {bs : List Nat}, LeavesB g h ls cs bs → ls.any (Leaf.at d) = false → LeavesB g' h' ls cs bs
  | [], _, _, hl, _ => hl
  | l :: r, cs, bs, ⟨b1, b2, h1, h2, h3⟩, hd => by
    simp only [List.any_cons, Bool.or_eq_false_iff] at hd
    exact ⟨b1, b2, h1.ext x hd.1, LeavesB.ext x h2 hd.2, h3⟩

theorem PartsB.ext {d : Nat} {g g' : Gh} {h h' : Mem} (x : Ext d g h g' h') {n : Nat} : ∀ {ls : List (List Leaf)} {cs : List Value} {bs : List Nat}, PartsB g h n ls cs bs → (ls.any fun l => l.any (Leaf.at d)) = false → PartsB g' h' n ls cs bs
  | [], _, _, hl, _ => hl
  | l :: r, cs, bs, ⟨b1, b2, h1, h2, h3⟩, hd => by
    simp only [List.any_cons, Bool.or_eq_false_iff] at hd
    exact ⟨b1, b2, h1.ext x hd.1, PartsB.ext x h2 hd.2, h3⟩

theorem ValR.ext {d : Nat} {g g' : Gh} {h h' : Mem} (x : Ext d g h g' h') {agg : Bool} {ls : List Leaf} {v : Value} (hv : ValR g h agg ls v) (hd : ls.any (Leaf.at d) = false) : ValR g' h' agg ls v := by
  obtain ⟨cs, bs, h1, h2, h3⟩ := hv
  exact ⟨cs, bs, h1, h2, h3.ext x hd⟩

theorem ValsR.ext {d : Nat} {g g' : Gh} {h h' : Mem} (x : Ext d g h g' h') : ∀ {ls : List (Bool × List Leaf)} {vs : List Value}, ValsR g h ls vs → (ls.any fun p => p.2.any (Leaf.at d)) = false → ValsR g' h' ls vs
  | [], _, hl, _ => hl
  | (agg, ls) :: r, vs, ⟨v, vs', h1, h2, h3⟩, hd => by
    simp only [List.any_cons, Bool.or_eq_false_iff] at hd
    exact ⟨v, vs', h1, h2.ext x hd.1, ValsR.ext x h3 hd.2⟩

theorem nbeq_f {a b : Nat} (h : a ≠ b) : Nat.beq a b = false := by
  cases hb : Nat.beq a b
  · rfl
  · exact absurd (Nat.eq_of_beq_eq_true hb) h
theorem nbeq_ne {a b : Nat} (h : Nat.beq a b = false) : a ≠ b := Nat.ne_of_beq_eq_false h
theorem nblt_f {a b : Nat} (h : ¬ a < b) : Nat.blt a b = false := by
  cases hb : Nat.blt a b
  · rfl
  · exact absurd (by simpa using hb) h

theorem memN_of_mem : ∀ {l : List Nat} {i : Nat}, memN l i = false → ∀ j ∈ l, j ≠ i
  | [], _, _, j, hj => by cases hj
  | x :: r, i, h, j, hj => by
    simp only [memN, Bool.or_eq_false_iff] at h
    rcases List.mem_cons.1 hj with rfl | hj
    · intro e; subst e; simp at h
    · exact memN_of_mem h.2 j hj

theorem EntR.ext {d : Nat} {g g' : Gh} {h h' : Mem} (x : Ext d g h g' h') {s : Nat} (hs : s ≠ d) : ∀ {e : Ent} {v : Value}, EntR g h s e v → e.at d = false → EntR g' h' s e v := by
  intro e v he hd
  have lt : ∀ {b : Nat} {o : Obj}, h[b]? = some o → b < h.size := fun {b o} hb => by
    rcases Nat.lt_or_ge b h.size with hlt | hge
    · exact hlt
    · rw [Array.getElem?_eq_none hge] at hb; cases hb
  cases e with
  | dead => trivial
  | val agg ls => exact ValR.ext x he hd
  | lit e t pp =>
    obtain ⟨b, c, bs, h1, h2, h3, h4, h5, h6, h7⟩ := he
    exact ⟨b, c, bs, h1, by rw [x.blk b (lt h2)]; exact h2, h3, by rw [x.kd b (lt h2)]; exact h4, by rw [x.own b (lt h2)]; exact h5, h6.ext x hd, h7⟩
  | box ro ls =>
    obtain ⟨b, c, e, fr, bs, h1, h2, h3, h4, h5, h6⟩ := he
    exact ⟨b, c, e, fr, bs, h1, by rw [x.blk b (lt h2)]; exact h2, h3.ext x hd, by rw [x.bx s hs]; exact h4, by rw [x.kd b (lt h2)]; exact h5, by rw [x.kd b (lt h2)]; exact h6⟩
  | ref s' base t p =>
    obtain ⟨h1, h2⟩ := he
    have hne : s' ≠ d := nbeq_ne hd
    exact ⟨h1, by rw [x.bx s' hne]; exact h2⟩
  | eref l i p =>
    obtain ⟨bs, b, o, n, cap, h1, h2⟩ := he
    exact ⟨bs, b, o, n, cap, h1.ext x hd, h2⟩
  | fn f caps =>
    have hd' := memN_of_mem (l := caps) (i := d) hd
    simp only [EntR] at he ⊢
    rw [he]; congr 2
    apply List.map_congr_left; intro s' hs'
    rw [x.bx s' (hd' s' hs')]
  | tup ls =>
    obtain ⟨vs, h1, h2⟩ := he
    exact ⟨vs, h1, h2.ext x hd⟩

theorem Env.get_put (env : Env) (i : Nat) (e : Ent) (j : Nat) : (env.put i e).get j = if j = i then e else env.get j := by
  induction env with
  | nil =>
    by_cases h : j = i
    · subst h; simp [Env.put, Env.get]
    · simp only [Env.put, Env.get, nbeq_f (fun e => h e.symm), cond_false, if_neg h]
  | cons p r ih =>
    obtain ⟨k, x⟩ := p
    simp only [Env.put]
    by_cases hk : k = i
    · subst hk
      simp only [Nat.beq_refl, cond_true, Env.get]
      by_cases hj : j = k
      · subst hj; simp
      · simp only [nbeq_f (fun e => hj e.symm), cond_false, if_neg hj]
    · simp only [nbeq_f hk, cond_false]
      by_cases hlt : Nat.blt i k = true
      · simp only [hlt, cond_true, Env.get]
        by_cases hj : j = i
        · subst hj; simp
        · simp only [nbeq_f (fun e => hj e.symm), cond_false, if_neg hj]
      · have hlt' : Nat.blt i k = false := Bool.eq_false_iff.2 hlt
        simp only [hlt', cond_false, Env.get, ih]
        by_cases hj : j = k
        · subst hj; simp [hk]
        · simp only [nbeq_f (fun e => hj e.symm), cond_false]

end Go.Proofs.YtkoifikjfnbcpaaEv
