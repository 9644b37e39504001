/- A frame told in a given shape: at the head of a loop. -/
import Derived.Test.YtkoifikjfnbcpaaEvDrawE
set_option linter.unusedVariables false
set_option linter.unusedSimpArgs false
namespace Go.Proofs.YtkoifikjfnbcpaaEv
open Go Go.RowKit

inductive LSh where
  | fz (t : Ty) (reg : Nat) (lin : Bool)
  | rt (e : TypeId) (t : Ty) (tag : Nat) (sub lin st : Bool)
inductive Sh where
  | val (agg : Bool) (ls : List LSh)
  | box (ro : Bool) (ls : List LSh)
  | fn (f : Nat) (caps : List Nat)
abbrev Shape := List (Nat × Sh)

def impB (a b : Bool) : Bool := !a || b

/-- A part, told in less detail. -/
def castLeaf (s : LSh) (l : Leaf) : Option Leaf :=
  match s, l with
  | .fz t reg lin, .fz t' reg' lin' v => bif impB lin lin' then (match Ty.cast t v with | some v' => some (.fz t (bif Nat.beq reg 0 then 0 else reg') lin v') | none => none) else none
  | .rt e t _ sub lin st, .rt e' t' tag' sub' lin' st' v => bif impB sub' sub && impB lin lin' && impB st st' && Nat.beq e e' then (match Ty.cast (.slice e t) (Leaf.rt e' t' tag' sub' lin' st' v).val with | some v' => some (.rt e t tag' sub lin st v') | none => none) else none
  | _, _ => none
def castLs : List LSh → List Leaf → Option (List Leaf)
  | [], [] => some []
  | s :: r, l :: ls => (match castLeaf s l, castLs r ls with | some x, some y => some (x :: y) | _, _ => none)
  | _, _ => none
def allFz : List Leaf → Bool
  | [] => true
  | .fz _ _ _ _ :: r => allFz r
  | _ => false
def castM (ss : List LSh) (ls : List Leaf) : Option (List Leaf) :=
  match castLs ss ls with
  | some r => some r
  | none => (match ss with
    | [.fz t reg lin] => bif allFz ls && Nat.beq reg 0 && !lin then (match valAs t ls with | some v => some [.fz t 0 false v] | none => none) else none
    | _ => none)
def castEnt (s : Sh) (e : Ent) : Option Ent :=
  match s, e with
  | .val agg ss, .val agg' ls => bif (agg && agg') || (!agg && !agg') then (match castM ss ls with | some r => some (.val agg r) | none => none) else none
  | .box ro ss, .box ro' ls => bif (ro && ro') || (!ro && !ro') then (match castM ss ls with | some r => some (.box ro r) | none => none) else none
  | .fn f caps, .fn f' caps' => bif Nat.beq f f' && caps.length == caps'.length && (caps.zip caps').all (fun p => Nat.beq p.1 p.2) then some (.fn f' caps') else none
  | _, _ => none
def castAll : Shape → Env → Option Env
  | [], _ => some []
  | (s, sh) :: r, env => (match castEnt sh (env.get s), castAll r env with | some e, some env' => some ((s, e) :: env') | _, _ => none)

/-- The regions whose slices are written no more. -/
def frzLs : List LSh → List Leaf → List Nat
  | .fz _ _ _ :: ss, .rt _ _ tag _ _ _ _ :: ls => tag :: frzLs ss ls
  | _ :: ss, _ :: ls => frzLs ss ls
  | _, _ => []
def frzM (ss : List LSh) (ls : List Leaf) : List Nat :=
  bif ss.length == ls.length then frzLs ss ls else rtTags ls
def frzEnt (s : Sh) (e : Ent) : List Nat :=
  match s, e with
  | .val _ ss, .val _ ls => frzM ss ls
  | .box _ ss, .box _ ls => frzM ss ls
  | _, _ => []
def frzAll (sh : Shape) (env : Env) : List Nat := sh.flatMap fun p => frzEnt p.2 (env.get p.1)

/-- Which region is to be called what. -/
def namLs : List LSh → List Leaf → List (Nat × Nat)
  | .fz _ reg _ :: ss, .fz _ reg' _ _ :: ls => bif Nat.beq reg 0 || Nat.beq reg' 0 then namLs ss ls else (reg', reg) :: namLs ss ls
  | .rt _ _ tag _ _ _ :: ss, .rt _ _ tag' _ _ _ _ :: ls => (tag', tag) :: namLs ss ls
  | _ :: ss, _ :: ls => namLs ss ls
  | _, _ => []
def namEnt (s : Sh) (e : Ent) : List (Nat × Nat) :=
  match s, e with
  | .val _ ss, .val _ ls => namLs ss ls
  | .box _ ss, .box _ ls => namLs ss ls
  | _, _ => []
def namAll (sh : Shape) (env : Env) : List (Nat × Nat) := sh.flatMap fun p => namEnt p.2 (env.get p.1)
/-- Each once, and only where the name is another. -/
def uniq : List (Nat × Nat) → List (Nat × Nat) → List (Nat × Nat)
  | [], acc => acc.reverse
  | (m, k) :: r, acc => bif Nat.beq m k || acc.any (fun p => Nat.beq p.1 m) then uniq r acc else uniq r ((m, k) :: acc)

def envAny (p : Leaf → Bool) : Env → Bool
  | [] => false
  | (_, e) :: r => e.any p || envAny p r
def nameR (m k : Nat) (env : Env) : Option Env :=
  bif Nat.beq m 0 || Nat.beq k 0 || Nat.beq m k || envAny (Leaf.inReg k) env then none else some (env.map (nameE m k))
def names1 : List (Nat × Nat) → Nat → Env → Option Env
  | [], _, env => some env
  | (m, _) :: r, i, env => (match nameR m i env with | some e => names1 r (i + 1) e | none => none)
def names2 : List (Nat × Nat) → Nat → Env → Option Env
  | [], _, env => some env
  | (_, k) :: r, i, env => (match nameR i k env with | some e => names2 r (i + 1) e | none => none)
def bigReg : Nat := 1000000
def names (l : List (Nat × Nat)) (env : Env) : Option Env :=
  match names1 l bigReg env with
  | some e => names2 l bigReg e
  | none => none

def restr : Shape → Env → Env
  | [], _ => []
  | (s, _) :: r, env => (s, env.get s) :: restr r env

/-- The frame in the shape. -/
def fitE (sh : Shape) (env : Env) : Option Env :=
  match freezes (frzAll sh env) (restr sh env) with
  | some e => (match castAll sh e with
    | some e' => names (uniq (namAll sh e') []) e'
    | none => none)
  | none => none

/-! ### the values in a shape -/

abbrev LSh.den : LSh → Type
  | .fz t _ _ => t.den
  | .rt _ t _ _ _ _ => List t.den
def LSh.leaf : (s : LSh) → s.den → Leaf
  | .fz t reg lin, v => .fz t reg lin v
  | .rt e t tag sub lin st, v => .rt e t tag sub lin st v
abbrev LsVal : List LSh → Type
  | [] => Unit
  | s :: r => s.den × LsVal r
def lsOf : (ss : List LSh) → LsVal ss → List Leaf
  | [], _ => []
  | s :: r, v => s.leaf v.1 :: lsOf r v.2
abbrev Sh.den : Sh → Type
  | .val _ ss => LsVal ss
  | .box _ ss => LsVal ss
  | .fn _ _ => Unit
def Sh.ent : (s : Sh) → s.den → Ent
  | .val agg ss, v => .val agg (lsOf ss v)
  | .box ro ss, v => .box ro (lsOf ss v)
  | .fn f caps, _ => .fn f caps
abbrev ShVal : Shape → Type
  | [] => Unit
  | p :: r => p.2.den × ShVal r
def envOf : (sh : Shape) → ShVal sh → Env
  | [], _ => []
  | p :: r, v => (p.1, p.2.ent v.1) :: envOf r v.2

def bEq (a b : Bool) : Bool := (a && b) || (!a && !b)
theorem bEq_eq {a b : Bool} (h : bEq a b = true) : a = b := by cases a <;> cases b <;> simp [bEq] at h <;> rfl
def parseLeaf : (s : LSh) → Leaf → Option s.den
  | .fz t reg lin, .fz t' reg' lin' v => bif Nat.beq reg reg' && bEq lin lin' then Ty.cast t v else none
  | .rt e t tag sub lin st, .rt e' t' tag' sub' lin' st' v => bif Nat.beq e e' && Nat.beq tag tag' && bEq sub sub' && bEq lin lin' && bEq st st' then (Ty.cast (.slice e t) (Leaf.rt e' t' tag' sub' lin' st' v).val : Option (List t.den)) else none
  | _, _ => none
def parseLs : (ss : List LSh) → List Leaf → Option (LsVal ss)
  | [], [] => some ()
  | s :: r, l :: ls => (match parseLeaf s l, parseLs r ls with | some x, some y => some (x, y) | _, _ => none)
  | _, _ => none
def parseEnt : (s : Sh) → Ent → Option s.den
  | .val agg ss, .val agg' ls => bif bEq agg agg' then parseLs ss ls else none
  | .box ro ss, .box ro' ls => bif bEq ro ro' then parseLs ss ls else none
  | .fn f caps, .fn f' caps' => bif Nat.beq f f' && eqL caps caps' then some () else none
  | _, _ => none
where
  eqL : List Nat → List Nat → Bool
    | [], [] => true
    | a :: r, b :: r' => Nat.beq a b && eqL r r'
    | _, _ => false
def parse : (sh : Shape) → Env → Option (ShVal sh)
  | [], [] => some ()
  | p :: r, (s, e) :: env => bif Nat.beq p.1 s then (match parseEnt p.2 e, parse r env with | some x, some y => some (x, y) | _, _ => none) else none
  | _, _ => none

theorem parseLeaf_eq {s : LSh} {l : Leaf} {v : s.den} (h : parseLeaf s l = some v) : s.leaf v = l := by
  unfold parseLeaf at h
  split at h
  · rename_i t reg lin t' reg' lin' x
    cases hq : (Nat.beq reg reg' && bEq lin lin') with
    | false => rw [hq] at h; cases h
    | true =>
      rw [hq] at h; simp only [cond_true] at h
      simp only [Bool.and_eq_true] at hq
      obtain ⟨e, h⟩ := Ty.cast_eq h
      subst e
      have h : x = v := h
      subst h
      rw [Nat.eq_of_beq_eq_true hq.1, bEq_eq hq.2]; rfl
  · rename_i e t tg sub lin st e' t' tag' sub' lin' st' x
    cases hq : (Nat.beq e e' && Nat.beq tg tag' && bEq sub sub' && bEq lin lin' && bEq st st') with
    | false => rw [hq] at h; cases h
    | true =>
      rw [hq] at h; simp only [cond_true] at h
      simp only [Bool.and_eq_true] at hq
      obtain ⟨ee, h⟩ := Ty.cast_eq h
      injection ee with e1 e2
      subst e1; subst e2
      have h : x = v := h
      subst h
      obtain ⟨⟨⟨⟨q1, q2⟩, q3⟩, q4⟩, q5⟩ := hq
      rw [Nat.eq_of_beq_eq_true q2, bEq_eq q3, bEq_eq q4, bEq_eq q5]; rfl
  · cases h
theorem parseLs_eq : ∀ {ss : List LSh} {ls : List Leaf} {v : LsVal ss}, parseLs ss ls = some v → lsOf ss v = ls
  | [], [], _, _ => rfl
  | s :: r, l :: ls, v, h => by
    simp only [parseLs] at h
    split at h
    · rename_i x y h1 h2
      injection h with h; subst h
      simp only [lsOf, parseLeaf_eq h1, parseLs_eq h2]
    · cases h
  | [], _ :: _, _, h => by cases h
  | _ :: _, [], _, h => by cases h
theorem eqL_eq : ∀ {a b : List Nat}, parseEnt.eqL a b = true → a = b
  | [], [], _ => rfl
  | a :: r, b :: r', h => by
    simp only [parseEnt.eqL, Bool.and_eq_true] at h
    rw [Nat.eq_of_beq_eq_true h.1, eqL_eq h.2]
  | [], _ :: _, h => by cases h
  | _ :: _, [], h => by cases h
theorem parseEnt_eq {s : Sh} {e : Ent} {v : s.den} (h : parseEnt s e = some v) : s.ent v = e := by
  unfold parseEnt at h
  split at h
  · rename_i agg ss agg' ls
    cases hq : bEq agg agg' with
    | false => rw [hq] at h; cases h
    | true => rw [hq] at h; simp only [cond_true] at h; simp only [Sh.ent, parseLs_eq h, bEq_eq hq]
  · rename_i ro ss ro' ls
    cases hq : bEq ro ro' with
    | false => rw [hq] at h; cases h
    | true => rw [hq] at h; simp only [cond_true] at h; simp only [Sh.ent, parseLs_eq h, bEq_eq hq]
  · rename_i f caps f' caps'
    cases hq : (Nat.beq f f' && parseEnt.eqL caps caps') with
    | false => rw [hq] at h; cases h
    | true =>
      simp only [Bool.and_eq_true] at hq
      simp only [Sh.ent, Nat.eq_of_beq_eq_true hq.1, eqL_eq hq.2]
  · cases h
theorem parse_eq : ∀ {sh : Shape} {env : Env} {v : ShVal sh}, parse sh env = some v → envOf sh v = env
  | [], [], _, _ => rfl
  | p :: r, (s, e) :: env, v, h => by
    simp only [parse] at h
    cases hq : Nat.beq p.1 s with
    | false => rw [hq] at h; cases h
    | true =>
      rw [hq] at h; simp only [cond_true] at h
      split at h
      · rename_i x y h1 h2
        injection h with h; subst h
        simp only [envOf, parseEnt_eq h1, parse_eq h2, Nat.eq_of_beq_eq_true hq]
      · cases h
  | [], _ :: _, _, h => by cases h
  | _ :: _, [], _, h => by cases h

section
variable {P : Program} {T : TTab} {n : NS} {w0 w : World} {W : Nat → Prop} {g : Gh} {a : Act}

theorem restr_get : ∀ (sh : Shape) (env : Env) (s : Nat), (restr sh env).get s = env.get s ∨ (restr sh env).get s = .dead
  | [], env, s => .inr rfl
  | (j, _) :: r, env, s => by
    simp only [restr, Env.get]
    cases hq : Nat.beq j s with
    | true => rw [Nat.eq_of_beq_eq_true hq]; exact .inl rfl
    | false => exact restr_get r env s

theorem castLeaf_B {h : Mem} {s : LSh} {l l' : Leaf} {cs : List Value} {bs : List Nat} (hl : LeafB g h l cs bs) (hc : castLeaf s l = some l') : l'.ty = l.ty ∧ LeafB g h l' cs bs := by
  unfold castLeaf at hc
  split at hc
  · rename_i t reg lin t' reg' lin' v
    cases hi : impB lin lin' with
    | false => rw [hi] at hc; cases hc
    | true =>
      rw [hi] at hc; simp only [cond_true] at hc
      split at hc
      · rename_i v' hv
        injection hc with hc; subst hc
        obtain ⟨e, hv⟩ := Ty.cast_eq hv
        subst e
        have hv : v = v' := hv
        subst hv
        obtain ⟨h1, h2, h3, h4⟩ := hl
        refine ⟨rfl, h1, h2, fun hr => ?_, fun hlin => ?_⟩
        · cases hq : Nat.beq reg 0 with
          | true => rw [hq] at hr; exact absurd rfl hr
          | false => rw [hq] at hr; exact h3 hr
        · subst hlin; exact h4 (by simpa [impB] using hi)
      · cases hc
  · rename_i e t tg sub lin st e' t' tag' sub' lin' st' v
    cases hi : (impB sub' sub && impB lin lin' && impB st st' && Nat.beq e e') with
    | false => rw [hi] at hc; cases hc
    | true =>
      rw [hi] at hc; simp only [cond_true] at hc
      simp only [Bool.and_eq_true] at hi
      obtain ⟨⟨⟨i1, i2⟩, i3⟩, i4⟩ := hi
      split at hc
      · rename_i v' hv
        injection hc with hc; subst hc
        obtain ⟨ee, hv⟩ := Ty.cast_eq hv
        injection ee with e1 e2
        subst e1; subst e2
        have hv : v = v' := hv
        subst hv
        obtain ⟨hd, blk, bs', k1, k2, k3, k4, k5, k6, k7, k8⟩ := hl
        refine ⟨rfl, hd, blk, bs', k1, k2, fun hs => k3 ?_, fun hs => k4 ?_, k5, k6, k7, fun hs => k8 ?_⟩
        · subst hs; cases sub' with
          | false => rfl
          | true => simp [impB] at i1
        · subst hs; simpa [impB] using i3
        · subst hs; simpa [impB] using i2
      · cases hc
  · cases hc

theorem castLs_B {h : Mem} : ∀ {ss : List LSh} {ls ls' : List Leaf} {cs : List Value} {bs : List Nat}, LeavesB g h ls cs bs → castLs ss ls = some ls' → LeavesB g h ls' cs bs
  | [], [], ls', cs, bs, hl, hc => by injection hc with hc; subst hc; exact hl
  | s :: r, l :: ls, ls', cs, bs, ⟨b1, b2, h1, h2, h3⟩, hc => by
    simp only [castLs] at hc
    split at hc
    · rename_i x y hx hy
      injection hc with hc; subst hc
      obtain ⟨e, q⟩ := castLeaf_B h1 hx
      exact ⟨b1, b2, by rw [e]; exact q, by rw [e]; exact castLs_B h2 hy, h3⟩
    · cases hc
  | [], _ :: _, _, _, _, _, hc => by cases hc
  | _ :: _, [], _, _, _, _, hc => by cases hc

theorem allFz_kd {h : Mem} : ∀ {ls : List Leaf} {cs : List Value} {bs : List Nat}, LeavesB g h ls cs bs → allFz ls = true → ∀ b ∈ bs, g.kd b = .fz
  | [], cs, bs, ⟨_, h2⟩, _ => by subst h2; intro b hb; cases hb
  | .fz t reg lin v :: r, cs, bs, ⟨b1, b2, h1, h2, h3⟩, ha => by
    subst h3
    intro b hb
    rcases List.mem_append.1 hb with hb | hb
    · exact h1.2.1 b hb
    · exact allFz_kd h2 ha b hb
  | .rt _ _ _ _ _ _ _ :: r, cs, bs, _, ha => by cases ha

theorem castM_B {h : Mem} {ss : List LSh} {ls ls' : List Leaf} {cs : List Value} {bs : List Nat} (hl : LeavesB g h ls cs bs) (hc : castM ss ls = some ls') : LeavesB g h ls' cs bs := by
  unfold castM at hc
  split at hc
  · rename_i r hr; injection hc with hc; subst hc; exact castLs_B hl hr
  · split at hc
    · rename_i t reg lin _
      cases hi : (allFz ls && Nat.beq reg 0 && !lin) with
      | false => rw [hi] at hc; cases hc
      | true =>
        rw [hi] at hc; simp only [cond_true] at hc
        simp only [Bool.and_eq_true] at hi
        split at hc
        · rename_i v hv
          injection hc with hc; subst hc
          have hr := valAs_rd hv hl
          have hk := allFz_kd hl hi.1.1
          exact LeafB.many (l := .fz t 0 false v) ⟨hr, hk, fun h => absurd rfl h, fun h => by cases h⟩
        · cases hc
    · cases hc

theorem castEnt_R {h : Mem} {sh : Sh} {s : Nat} {e e' : Ent} {v : Value} (he : EntR g h s e v) (hc : castEnt sh e = some e') : EntR g h s e' v := by
  unfold castEnt at hc
  split at hc
  · rename_i agg ss agg' ls
    cases hi : ((agg && agg') || (!agg && !agg')) with
    | false => rw [hi] at hc; cases hc
    | true =>
      rw [hi] at hc; simp only [cond_true] at hc
      split at hc
      · rename_i r hr
        injection hc with hc; subst hc
        have : agg = agg' := by cases agg <;> cases agg' <;> simp at hi <;> rfl
        subst this
        obtain ⟨cs, bs, h1, h2, h3⟩ := he
        exact ⟨cs, bs, h1, h2, castM_B h3 hr⟩
      · cases hc
  · rename_i ro ss ro' ls
    cases hi : ((ro && ro') || (!ro && !ro')) with
    | false => rw [hi] at hc; cases hc
    | true =>
      rw [hi] at hc; simp only [cond_true] at hc
      split at hc
      · rename_i r hr
        injection hc with hc; subst hc
        have : ro = ro' := by cases ro <;> cases ro' <;> simp at hi <;> rfl
        subst this
        obtain ⟨b, c, e, fr, bs, h1, h2, h3, h4⟩ := he
        exact ⟨b, c, e, fr, bs, h1, h2, castM_B h3 hr, h4⟩
      · cases hc
  · rename_i f caps f' caps'
    cases hi : (Nat.beq f f' && caps.length == caps'.length && (caps.zip caps').all (fun p => Nat.beq p.1 p.2)) with
    | false => rw [hi] at hc; cases hc
    | true => rw [hi] at hc; injection hc with hc; subst hc; exact he
  · cases hc

theorem castAll_R {h : Mem} {tm : Nat → Value} : ∀ {sh : Shape} {env env' : Env}, (∀ s, EntR g h s (env.get s) (tm s)) → castAll sh env = some env' → ∀ s, EntR g h s (env'.get s) (tm s)
  | [], env, env', he, hc, s => by injection hc with hc; subst hc; trivial
  | (j, sh) :: r, env, env', he, hc, s => by
    simp only [castAll] at hc
    split at hc
    · rename_i e env2 h1 h2
      injection hc with hc; subst hc
      simp only [Env.get]
      cases hq : Nat.beq j s with
      | true => have := Nat.eq_of_beq_eq_true hq; subst this; exact castEnt_R (he j) h1
      | false => exact castAll_R he h2 s
    · cases hc

theorem envAny_get {p : Leaf → Bool} : ∀ {env : Env}, envAny p env = false → ∀ s, (env.get s).any p = false
  | [], _, s => rfl
  | (j, e) :: r, h, s => by
    simp only [envAny, Bool.or_eq_false_iff] at h
    simp only [Env.get]
    cases Nat.beq j s with
    | true => exact h.1
    | false => exact envAny_get h.2 s

theorem nameR_sound {m k : Nat} {env env' : Env} (st : St n w0 W g env.get a w) (h : nameR m k env = some env') : ∃ g', g'.al = g.al ∧ St n w0 W g' env'.get a w := by
  unfold nameR at h
  cases hq : (Nat.beq m 0 || Nat.beq k 0 || Nat.beq m k || envAny (Leaf.inReg k) env) with
  | true => rw [hq] at h; cases h
  | false =>
    rw [hq] at h; simp only [cond_false, Option.some.injEq] at h; subst h
    simp only [Bool.or_eq_false_iff] at hq
    obtain ⟨⟨⟨q1, q2⟩, q3⟩, q4⟩ := hq
    refine ⟨g.name m k, rfl, ?_⟩
    have := st.name (nbeq_ne q1) (nbeq_ne q2) (nbeq_ne q3) (envAny_get q4)
    refine this.get_eq ?_
    funext s
    rw [Env.get_map _ rfl]

theorem names1_sound : ∀ {l : List (Nat × Nat)} {i : Nat} {env env' : Env} {g : Gh}, St n w0 W g env.get a w → names1 l i env = some env' → ∃ g', g'.al = g.al ∧ St n w0 W g' env'.get a w
  | [], i, env, env', g, st, h => by injection h with h; subst h; exact ⟨g, rfl, st⟩
  | (m, k) :: r, i, env, env', g, st, h => by
    simp only [names1] at h
    split at h
    · rename_i e he
      obtain ⟨g1, q1, q2⟩ := nameR_sound st he
      obtain ⟨g2, q3, q4⟩ := names1_sound q2 h
      exact ⟨g2, q3.trans q1, q4⟩
    · cases h
theorem names2_sound : ∀ {l : List (Nat × Nat)} {i : Nat} {env env' : Env} {g : Gh}, St n w0 W g env.get a w → names2 l i env = some env' → ∃ g', g'.al = g.al ∧ St n w0 W g' env'.get a w
  | [], i, env, env', g, st, h => by injection h with h; subst h; exact ⟨g, rfl, st⟩
  | (m, k) :: r, i, env, env', g, st, h => by
    simp only [names2] at h
    split at h
    · rename_i e he
      obtain ⟨g1, q1, q2⟩ := nameR_sound st he
      obtain ⟨g2, q3, q4⟩ := names2_sound q2 h
      exact ⟨g2, q3.trans q1, q4⟩
    · cases h

theorem fitE_sound {sh : Shape} {env env' : Env} (hwal : ∀ b, W b → g.al b) (st : St n w0 W g env.get a w) (h : fitE sh env = some env') : ∃ g', g'.al = g.al ∧ St n w0 W g' env'.get a w := by
  unfold fitE at h
  split at h
  · rename_i e1 h1
    split at h
    · rename_i e2 h2
      have st0 : St n w0 W g (restr sh env).get a w := st.kill (restr_get sh env)
      obtain ⟨g1, q1, q2⟩ := freezes_sound hwal st0 h1
      have st2 : St n w0 W g1 e2.get a w := ⟨q2.inv, castAll_R q2.ent h2, q2.sz, q2.df, q2.os, q2.tape, q2.output⟩
      unfold names at h
      split at h
      · rename_i e3 h3
        obtain ⟨g2, q3, q4⟩ := names1_sound st2 h3
        obtain ⟨g3, q5, q6⟩ := names2_sound q4 h
        exact ⟨g3, q5.trans (q3.trans q1), q6⟩
      · cases h
    · cases h
  · cases h

end
end Go.Proofs.YtkoifikjfnbcpaaEv
