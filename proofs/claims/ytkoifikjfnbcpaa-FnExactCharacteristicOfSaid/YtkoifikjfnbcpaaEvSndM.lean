/- Calls, by what is known of the function called. -/
import Derived.Test.YtkoifikjfnbcpaaEvSndL
set_option linter.unusedVariables false
set_option linter.unusedSimpArgs false
namespace Go.Proofs.YtkoifikjfnbcpaaEv
open Go Go.RowKit

/-- A value reads as data. -/
def OneV (h : Mem) (t : Ty) (x : t.den) (v : Value) (bs : List Nat) : Prop :=
  Rd h t x v.cells.toList bs ∧ (t.agg = true → v = .agg v.cells) ∧ (t.agg = false → v.cells = #[v])

def ArgsV (h : Mem) : (ps : List PK) → Args ps → List Value → List Nat → Prop
  | [], _, vs, bs => vs = [] ∧ bs = []
  | .v t :: ps, x, vs, bs => ∃ v r b1 b2, vs = v :: r ∧ bs = b1 ++ b2 ∧ OneV h t x.1 v b1 ∧ ArgsV h ps x.2 r b2
  | .p t :: ps, x, vs, bs => ∃ b r c e fr b1 b2, vs = .pointer (some ⟨b, 0, none⟩) :: r ∧ bs = b1 ++ b2 ∧ h[b]? = some (.cells c e fr) ∧ Rd h t x.1 c.toList b1 ∧ ArgsV h ps x.2 r b2
  | .fn f :: ps, x, vs, bs => ∃ r, vs = .func (.func f) #[] #[] :: r ∧ ArgsV h ps x.2 r bs

def Strict : (t : Ty) → t.den → Value → Prop
  | .slice _ _, x, v => v = .slice none 0 0 ↔ x = []
  | _, _, _ => True

def ResV (h : Mem) (st : Bool) : (rs : List Ty) → Ress rs → List Value → List Nat → Prop
  | [], _, vs, bs => vs = [] ∧ bs = []
  | t :: rs, x, vs, bs => ∃ v r b1 b2, vs = v :: r ∧ OneV h t x.1 v b1 ∧ (st = true → Strict t x.1 v) ∧ ResV h st rs x.2 r b2 ∧ bs = b1 ++ b2

def retV (vs : List Value) : Value :=
  match vs with
  | [v] => v
  | vs => .tuple vs.toArray

/-- What a call leaves behind. -/
def After (C : Ctr) (y : Ress C.rs) (w : World) (ba : List Nat) : Ending → World → Prop := fun e w' =>
  ∃ rv bs, e = .returned (retV rv) ∧ ResV w'.heap C.st C.rs y rv bs ∧ Below w.heap.size w w' ∧ (∀ b ∈ bs, w.heap.size ≤ b ∨ b ∈ ba) ∧
    (C.fresh = true → bs.Nodup ∧ ∀ b ∈ bs, w.heap.size ≤ b ∧ ∃ c e, w'.heap[b]? = some (.cells c e (0, 0)))

def FnOK (P : Program) (k : Nat) (C : Ctr) : Prop :=
  ∀ (x : Args C.ps) (y : Ress C.rs), C.f x = some y → ∀ (w : World) (vs : List Value) (ba : List Nat), ArgsV w.heap C.ps x vs ba → Calls P k vs.toArray w (After C y w ba)

/-- What a call that turns its first argument in place leaves behind. -/
def AfterIn (C : Ctr) (y : Ress C.rs) (w : World) (vs : List Value) (ba : List Nat) : Ending → World → Prop := fun e w' =>
  ∃ v0 kv, vs.head? = some v0 ∧ e = .returned kv ∧ ResV w'.heap false C.rs y [v0, kv] ba ∧ w'.os = w.os ∧ w'.tape = w.tape ∧ w'.output = w.output ∧ w.heap.size ≤ w'.heap.size ∧
    (∀ b, b < w.heap.size → b ∉ ba → w'.heap[b]? = w.heap[b]?) ∧ ∀ b ∈ ba, ∃ c e, w'.heap[b]? = some (.cells c e (0, 0))

def InOK (P : Program) (k : Nat) (C : Ctr) : Prop :=
  ∀ (x : Args C.ps) (y : Ress C.rs), C.f x = some y → ∀ (w : World) (vs : List Value) (ba : List Nat), ArgsV w.heap C.ps x vs ba → ba.Nodup → (∀ b ∈ ba, ∃ c e, w.heap[b]? = some (.cells c e (0, 0))) →
    Calls P k vs.toArray w (AfterIn C y w vs ba)

structure KOne (P : Program) (k : Nat) (C : Ctr) : Prop where
  ok : C.inp = false → FnOK P k C
  inp : C.inp = true → InOK P k C
  fn : ∃ f, P.funcs[k]? = some f ∧ f.name ≠ "runtime.NumGoroutine" ∧ f.body.isNone = false

def KOK (P : Program) (K : CTab) : Prop := ∀ k C, ctr K k = some C → KOne P k C

theorem KOK.nil {P : Program} : KOK P [] := fun _ _ h => by cases h
theorem KOK.cons {P : Program} {k : Nat} {C : Ctr} {K : CTab} (h : KOne P k C) (hk : KOK P K) : KOK P ((k, C) :: K) := fun j D hj => by
  simp only [ctr] at hj
  cases hb : Nat.beq k j with
  | true => rw [hb] at hj; injection hj with hj; subst hj; rw [← Nat.eq_of_beq_eq_true hb]; exact h
  | false => rw [hb] at hj; exact hk _ _ hj

section
variable {P : Program} {T : TTab} {K : CTab} {n : NS} {w0 w : World} {W : Nat → Prop} {g : Gh} {get : Nat → Ent} {a : Act} {d : Nat}

theorem ValR.shape {h : Mem} {agg : Bool} {ls : List Leaf} {v : Value} (hv : ValR g h agg ls v) : (agg = true → v = .agg v.cells) ∧ (agg = false → v.cells = #[v]) := by
  obtain ⟨cs, bs, h1, h2, h3⟩ := hv
  cases agg with
  | true => simp only [cond_true] at h1; subst h1; exact ⟨fun _ => rfl, fun h => (by cases h)⟩
  | false => exact ⟨fun h => (by cases h), fun h => (h2 rfl).2⟩

theorem lit_rd {h : Mem} {t : Ty} : ∀ {pp : List (List Leaf)} {l : List t.den} {cs : List Value} {bs : List Nat}, PartsB g h t.size pp cs bs → argE.litVal t pp = some l → RdL (Rd h t) t.size l cs bs ∧ l.length = pp.length
  | [], l, cs, bs, h1, h2 => by simp only [argE.litVal, Option.some.injEq] at h2; subst h2; exact ⟨h1.2, rfl⟩
  | ls :: r, l, cs, bs, ⟨b1, b2, h1, h2, h3⟩, hl => by
    simp only [argE.litVal] at hl
    split at hl
    · rename_i x y hx hy
      injection hl with hl; subst hl
      obtain ⟨q1, q2⟩ := lit_rd h2 hy
      exact ⟨⟨b1, b2, valAs_rd hx h1, q1, h3⟩, by simp [q2]⟩
    · cases hl

/-- The entries that may be arguments, with their values. -/
def ER (g : Gh) (h : Mem) : List Ent → List Value → Prop
  | [], vs => vs = []
  | e :: r, vs => ∃ v vs' s, vs = v :: vs' ∧ EntR g h s e v ∧ ER g h r vs'

theorem operEs_ER {xs : List Operand} : ∀ {es : List Ent}, (∀ s, EntR g w.heap s (get s) (a.tmps.getD s undef)) → operEs get xs = some es → ER g w.heap es (xs.map a.eval) := by
  induction xs with
  | nil => intro es _ h; simp only [operEs, Option.some.injEq] at h; subst h; rfl
  | cons x xs ih =>
    intro es hg h
    simp only [operEs] at h
    split at h
    · rename_i e l he hl
      injection h with h; subst h
      obtain ⟨s, h1, _⟩ := opE_sound hg he
      exact ⟨_, _, s, rfl, h1, ih hg hl⟩
    · cases h

theorem ER.append {h : Mem} : ∀ {es es' : List Ent} {vs vs' : List Value}, ER g h es vs → ER g h es' vs' → ER g h (es ++ es') (vs ++ vs')
  | [], es', vs, vs', h1, h2 => by rw [show vs = [] from h1]; exact h2
  | e :: r, es', vs, vs', ⟨v, r', s, h1, h2, h3⟩, h4 => by subst h1; exact ⟨v, _, s, rfl, h2, h3.append h4⟩

theorem frozen_fz {h : Mem} : ∀ {ls : List Leaf} {cs : List Value} {bs : List Nat}, LeavesB g h ls cs bs → (ls.all fun l => match l with | .fz _ _ _ _ => true | _ => false) = true → ∀ b ∈ bs, g.kd b = .fz
  | [], cs, bs, ⟨_, h2⟩, _ => by subst h2; intro b hb; cases hb
  | l :: r, cs, bs, ⟨b1, b2, h1, h2, h3⟩, hf => by
    subst h3; intro b hb
    simp only [List.all_cons, Bool.and_eq_true] at hf
    rcases List.mem_append.1 hb with hb | hb
    · cases l with
      | fz t reg lin v => exact h1.2.1 b hb
      | rt _ _ _ _ _ _ _ => cases hf.1
    · exact frozen_fz h2 hf.2 b hb

theorem argE_V {h : Mem} : ∀ {ps : List PK} {es : List Ent} {x : Args ps} {vs : List Value}, argsE ps es = some x → ER g h es vs → ∃ ba, ArgsV h ps x vs ba ∧ (es.all frozenE = true → ∀ b ∈ ba, g.kd b = .fz)
  | [], [], x, vs, _, he => ⟨[], ⟨he, rfl⟩, fun _ b hb => by cases hb⟩
  | k :: ks, e :: es, x, vs, hx, ⟨v, vs', s, h1, h2, h3⟩ => by
    subst h1
    simp only [argsE] at hx
    split at hx
    · rename_i y z hy hz
      injection hx with hx; subst hx
      obtain ⟨ba, ih, ihf⟩ := argE_V hz h3
      have comb : ∀ (b1 : List Nat), (frozenE e = true → ∀ b ∈ b1, g.kd b = .fz) → ((e :: es).all frozenE = true → ∀ b ∈ b1 ++ ba, g.kd b = .fz) := by
        intro b1 hq hall b hb
        simp only [List.all_cons, Bool.and_eq_true] at hall
        rcases List.mem_append.1 hb with hb | hb
        · exact hq hall.1 b hb
        · exact ihf hall.2 b hb
      cases k with
      | v t =>
        cases e with
        | val agg ls =>
          have hy : (bif (agg && t.agg) || (!agg && !t.agg) then valAs t ls else none) = some y := by cases t <;> exact hy
          have hag : agg = t.agg := by
            cases agg <;> cases ht : t.agg <;> simp [ht] at hy <;> rfl
          have hy : valAs t ls = some y := by rw [hag] at hy; cases ht : t.agg <;> simpa [ht] using hy
          obtain ⟨bs, hb⟩ := ValR.cells h2
          have hs := ValR.shape h2
          rw [hag] at hs
          exact ⟨bs ++ ba, ⟨v, vs', bs, ba, rfl, rfl, ⟨valAs_rd hy hb, hs.1, hs.2⟩, ih⟩, comb bs (fun q => frozen_fz hb q)⟩
        | lit el u pp =>
          cases t with
          | slice el' u' =>
            simp only [argE] at hy
            cases hq : (Ty.slice el u).eqb (Ty.slice el' u') with
            | false => rw [hq] at hy; cases hy
            | true =>
              rw [hq] at hy; simp only [cond_true] at hy
              have := eqb_eq hq
              injection this with t1 t2; subst t1; subst t2
              obtain ⟨b, c, bs, e1, e2, e3, e4, e5, e6, e7⟩ := h2
              obtain ⟨q1, q2⟩ := lit_rd e6 hy
              refine ⟨(b :: bs) ++ ba, ⟨v, vs', b :: bs, ba, rfl, rfl, ⟨?_, fun h => (by cases h), fun _ => by rw [e1]; rfl⟩, ih⟩, comb _ (fun q => by cases q)⟩
              rw [e1]
              exact ⟨_, some b, bs, rfl, .inr ⟨b, 0, pp.length, c, (0, 0), by rw [q2], rfl, by rw [q2]; exact Nat.le_refl _, e2, by omega, by simpa using q1⟩, rfl⟩
          | _ => simp [argE] at hy
        | _ => cases t <;> simp [argE] at hy
      | p t =>
        cases e with
        | box ro ls =>
          simp only [argE] at hy
          obtain ⟨b, c, el, fr, bs, e1, e2, e3, _⟩ := h2
          exact ⟨bs ++ ba, ⟨b, vs', c, el, fr, bs, ba, by rw [e1], rfl, e2, valAs_rd hy e3, ih⟩, comb bs (fun q => frozen_fz e3 q)⟩
        | _ => simp [argE] at hy
      | fn f =>
        cases e with
        | fn f' caps =>
          cases caps with
          | nil =>
            simp only [argE] at hy
            cases hq : Nat.beq f f' with
            | false => rw [hq] at hy; cases hy
            | true =>
              have := Nat.eq_of_beq_eq_true hq; subst this
              exact ⟨ba, ⟨vs', by rw [show v = _ from h2]; rfl, ih⟩, comb [] (fun _ b hb => by cases hb)⟩
          | cons _ _ => simp [argE] at hy
        | _ => simp [argE] at hy
    · cases hx
  | [], _ :: _, x, vs, hx, _ => by simp [argsE] at hx
  | _ :: _, [], x, vs, hx, _ => by simp [argsE] at hx

/-- The places of new regions are told: nothing else is turned. -/
structure Claim (g g' : Gh) (bs : List Nat) (lo hi : Nat) : Prop where
  kd : ∀ b, b ∉ bs → g'.kd b = g.kd b
  own : ∀ b, b ∉ bs → g'.own b = g.own b
  H : ∀ t, (t < lo ∨ hi ≤ t) → g'.H t = g.H t
  bx : g'.bx = g.bx
  al : g'.al = g.al
  mine : ∀ b ∈ bs, g'.kd b = .fz ∨ ∃ t, g'.kd b = .mu t

theorem Claim.refl (g : Gh) (bs : List Nat) (lo hi : Nat) (hk : ∀ b ∈ bs, g.kd b = .fz) : Claim g g bs lo hi := ⟨fun _ _ => rfl, fun _ _ => rfl, fun _ _ => rfl, rfl, rfl, fun b hb => .inl (hk b hb)⟩

theorem LeafB.claim {g g' : Gh} {h : Mem} {bs' : List Nat} {lo hi : Nat} (x : Claim g g' bs' lo hi) {l : Leaf} {cs : List Value} {bs : List Nat} (hl : LeafB g h l cs bs) (hd : ∀ b ∈ bs, b ∉ bs')
    (ht : ∀ e t tag sub lin st v, l = .rt e t tag sub lin st v → tag < lo ∨ hi ≤ tag) : LeafB g' h l cs bs :=
  hl.same (fun _ _ => rfl) (fun b hb => x.kd b (hd b hb)) (fun b hb => x.own b (hd b hb)) (fun e t tag sub lin st v he _ => x.H tag (ht e t tag sub lin st v he))

theorem claim_slice {g : Gh} {h : Mem} {e : TypeId} {u : Ty} {tag : Nat} {st : Bool} {v : List u.den} {hd : Value} {bs : List Nat} (hr : Rd h (.slice e u) v [hd] bs) (hn : bs.Nodup) (hst : st = true → (hd = .slice none 0 0 ↔ v = []))
    (hw : ∀ b ∈ bs, g.kd b = .fz ∧ ∃ c e, h[b]? = some (.cells c e (0, 0))) : ∃ g', Claim g g' bs tag (tag + 1) ∧ LeafB g' h (.rt e u tag false true st v) [hd] bs ∧ ∀ b ∈ bs, g'.own b = tag := by
  obtain ⟨hd', blk, bs', h1, h2, h3⟩ := hr
  injection h1 with h1 _; subst h1; subst h3
  have hn' := List.nodup_append.1 hn
  refine ⟨{ kd := fun b => if blk = some b then .mu tag else g.kd b, own := fun b => if b ∈ blk.toList ++ bs' then tag else g.own b, H := fun t => if t = tag then hd else g.H t, bx := g.bx, al := g.al },
    ⟨fun b hb => if_neg (fun q => hb (by simp [q])), fun b hb => if_neg hb, fun t ht => if_neg (by omega), rfl, rfl, fun b hb => ?_⟩,
    ⟨hd, blk, bs', rfl, rfl, fun _ => by simp, hst, h2, fun b hb => ?_, fun b hb => ?_, fun _ => ⟨fun b hb => if_pos (List.mem_append_right _ hb), hn'.2.1⟩⟩, fun b hb => if_pos hb⟩
  · show (if blk = some b then BK.mu tag else g.kd b) = _ ∨ ∃ t, (if blk = some b then BK.mu tag else g.kd b) = _
    by_cases q : blk = some b
    · rw [if_pos q]; exact .inr ⟨tag, rfl⟩
    · rw [if_neg q]; exact .inl (hw b hb).1
  · have : blk ≠ some b := fun q => hn'.2.2 b (by simp [q]) b hb rfl
    show (if blk = some b then BK.mu tag else g.kd b) = _
    rw [if_neg this]; exact (hw b (List.mem_append_right _ hb)).1
  · refine ⟨if_pos hb, if_pos (by simp [hb]), ?_⟩
    obtain ⟨c, e', q⟩ := (hw b (by simp [hb])).2
    rcases h2 with ⟨_, _, q1, _⟩ | ⟨b2, o, cap, c2, fr, e1, e2, e3, e4, e5, e6⟩
    · rw [q1] at hb; cases hb
    · rw [e2] at hb; injection hb with hb; subst hb
      rw [e4] at q; injection q with q; injection q with q1 q2 q3
      subst q2; subst q3
      exact ⟨c2, e4⟩

theorem explode_claim {h : Mem} : ∀ {t : Ty} {tag : Nat} {st : Bool} {x : t.den} {ls : List Leaf} {cs : List Value} {bs : List Nat} {g : Gh}, explodeNew tag st t x = some ls → Rd h t x cs bs → bs.Nodup → st = false →
    (∀ b ∈ bs, g.kd b = .fz ∧ ∃ c e, h[b]? = some (.cells c e (0, 0))) → ∃ g', Claim g g' bs tag (tag + tagRoom.width t) ∧ LeavesB g' h ls cs bs ∧ ∀ b ∈ bs, tag ≤ g'.own b ∧ g'.own b < tag + tagRoom.width t := by
  intro t
  induction t with
  | unit =>
    intro tag st x ls cs bs g hl hr _ _ _
    simp only [explodeNew, Option.some.injEq] at hl; subst hl
    obtain ⟨rfl, rfl⟩ := hr
    exact ⟨g, Claim.refl _ _ _ _ (by simp), ⟨rfl, rfl⟩, by simp⟩
  | pair a b _ ihb =>
    intro tag st x ls cs bs g hl hr hn hs hw
    subst hs
    obtain ⟨b1, b2, r1, r2, rfl⟩ := hr
    have hn' := List.nodup_append.1 hn
    have hwd : tagRoom.width (.pair a b) = 1 + tagRoom.width b := rfl
    have fc : ∀ (a' : Ty) (x1 : a'.den), (∃ e : a' = a, e ▸ x1 = x.1) → (bif a'.flat then (match explodeNew (tag + 1) false b x.2 with | some r => some (Leaf.fz a' 0 false x1 :: r) | none => none) else none) = some ls →
        ∃ g', Claim g g' (b1 ++ b2) tag (tag + tagRoom.width (.pair a b)) ∧ LeavesB g' h ls cs (b1 ++ b2) ∧ ∀ y ∈ b1 ++ b2, tag ≤ g'.own y ∧ g'.own y < tag + tagRoom.width (.pair a b) := by
      rintro a' x1 ⟨rfl, hx1⟩ hl
      subst hx1
      cases hf : a'.flat with
      | false => rw [hf] at hl; cases hl
      | true =>
        rw [hf] at hl; simp only [cond_true] at hl
        split at hl
        · rename_i r hr
          injection hl with hl; subst hl
          have := r1.flat hf; subst this
          obtain ⟨g', q1, q2, q3⟩ := ihb hr r2 hn'.2.1 rfl (fun y hy => hw y (by simpa using hy))
          refine ⟨g', ⟨fun y hy => q1.kd y (by simpa using hy), fun y hy => q1.own y (by simpa using hy), fun t ht => q1.H t (by omega), q1.bx, q1.al, fun y hy => q1.mine y (by simpa using hy)⟩, ⟨[], b2, flat_B hf r1, q2, rfl⟩, fun y hy => ?_⟩
          have := q3 y (by simpa using hy); omega
        · cases hl
    cases a with
    | slice e u =>
      simp only [explodeNew] at hl
      split at hl
      · rename_i r hr
        injection hl with hl; subst hl
        obtain ⟨hd, blk, bs', e1, e2, e3⟩ := r1
        obtain ⟨g1, p1, p2, p3⟩ := claim_slice (g := g) (tag := tag) (st := false) (v := x.1) (hd := hd) (bs := b1) ⟨hd, blk, bs', rfl, e2, e3⟩ hn'.1 (fun q => by cases q) (fun y hy => hw y (List.mem_append_left _ hy))
        have dis : ∀ y ∈ b2, y ∉ b1 := fun y hy q => hn'.2.2 y q y hy rfl
        obtain ⟨g', q1, q2, q3⟩ := ihb (g := g1) hr r2 hn'.2.1 rfl (fun y hy => by rw [p1.kd y (dis y hy)]; exact hw y (List.mem_append_right _ hy))
        refine ⟨g', ⟨fun y hy => ?_, fun y hy => ?_, fun t ht => ?_, q1.bx.trans p1.bx, q1.al.trans p1.al, fun y hy => ?_⟩, ⟨b1, b2, ?_, q2, rfl⟩, fun y hy => ?_⟩
        · simp at hy; rw [q1.kd y hy.2, p1.kd y hy.1]
        · simp at hy; rw [q1.own y hy.2, p1.own y hy.1]
        · rw [q1.H t (by omega), p1.H t (by omega)]
        · rcases List.mem_append.1 hy with hy | hy
          · rw [q1.kd y (fun q => dis y q hy)]; exact p1.mine y hy
          · exact q1.mine y hy
        · show LeafB g' h _ (cs.take 1) b1
          rw [show (cs.take 1 : List Value) = [hd] from e1]
          exact p2.claim q1 (fun y hy q => dis y q hy) (fun _ _ _ _ _ _ _ he => by injection he with _ _ he; omega)
        · rcases List.mem_append.1 hy with hy | hy
          · rw [q1.own y (fun q => dis y q hy), p3 y hy]; omega
          · have := q3 y hy; omega
      · cases hl
    | int k => exact fc _ _ ⟨rfl, rfl⟩ hl
    | bool => exact fc _ _ ⟨rfl, rfl⟩ hl
    | unit => exact fc _ _ ⟨rfl, rfl⟩ hl
    | pair _ _ => exact fc _ _ ⟨rfl, rfl⟩ hl
    | arr _ _ => exact fc _ _ ⟨rfl, rfl⟩ hl
  | _ => intro tag st x ls cs bs g hl; cases hl

theorem mkfz_len (t : Ty) (v : t.den) {cs : List Value} {bs : List Nat} {h : Mem} (hr : Rd h t v cs bs) (hk : ∀ b ∈ bs, g.kd b = .fz) : LeavesB g h [mkfz t 0 false v] cs bs :=
  (mkfz_B hr hk (fun q => absurd rfl q) (fun q => by cases q)).many

theorem leaves_of {h : Mem} {ls : List Leaf} {v : Value} {t : Ty} {bs : List Nat} (hl : LeavesB g h ls v.cells.toList bs) (h1 : t.agg = true → v = .agg v.cells) (h2 : t.agg = false → v.cells = #[v]) : ValR g h t.agg ls v := by
  refine ⟨v.cells.toList, bs, ?_, fun ha => ?_, hl⟩
  · cases ht : t.agg with
    | true => simp only [cond_true, Array.toArray_toList]; exact h1 ht
    | false => rw [h2 ht]; rfl
  · rw [h2 ha]; exact ⟨rfl, rfl⟩

/-- The regions that a list of parts is told by. -/
def TagsLt (ls : List Leaf) (m : Nat) : Prop := ∀ l ∈ ls, ∀ e t tag sub lin st v, l = .rt e t tag sub lin st v → tag < m

theorem explodeNew_tags : ∀ {t : Ty} {tag : Nat} {st : Bool} {x : t.den} {ls : List Leaf}, explodeNew tag st t x = some ls → TagsLt ls (tag + tagRoom.width t) := by
  intro t
  induction t with
  | unit => intro tag st x ls hl; simp only [explodeNew, Option.some.injEq] at hl; subst hl; intro l hl; cases hl
  | pair a b _ ihb =>
    intro tag st x ls hl
    have hwd : tagRoom.width (.pair a b) = 1 + tagRoom.width b := rfl
    have later : ∀ {l0 : Leaf} {r : List Leaf}, explodeNew (tag + 1) st b x.2 = some r → (∀ e t tg sub lin st v, l0 = .rt e t tg sub lin st v → tg = tag) → TagsLt (l0 :: r) (tag + tagRoom.width (.pair a b)) := by
      intro l0 r hr h0 l hl e t tg sub lin st v he
      rcases List.mem_cons.1 hl with hl | hl
      · subst hl; have := h0 _ _ _ _ _ _ _ he; omega
      · have := ihb hr l hl e t tg sub lin st v he; omega
    have fc : ∀ (a' : Ty) (x1 : a'.den), (bif a'.flat then (match explodeNew (tag + 1) st b x.2 with | some r => some (Leaf.fz a' 0 false x1 :: r) | none => none) else none) = some ls → TagsLt ls (tag + tagRoom.width (.pair a b)) := by
      intro a' x1 hl
      cases hf : a'.flat with
      | false => rw [hf] at hl; cases hl
      | true =>
        rw [hf] at hl; simp only [cond_true] at hl
        split at hl
        · rename_i r hr; injection hl with hl; subst hl; exact later hr (fun _ _ _ _ _ _ _ h => by cases h)
        · cases hl
    cases a with
    | slice e u =>
      simp only [explodeNew] at hl
      split at hl
      · rename_i r hr; injection hl with hl; subst hl
        exact later hr (fun _ _ _ _ _ _ _ h => by injection h with _ _ h; exact h.symm)
      · cases hl
    | int k => exact fc _ _ hl
    | bool => exact fc _ _ hl
    | unit => exact fc _ _ hl
    | pair _ _ => exact fc _ _ hl
    | arr _ _ => exact fc _ _ hl
  | _ => intro tag st x ls hl; cases hl

theorem width_pos (t : Ty) : 0 < tagRoom.width t := by cases t <;> simp [tagRoom.width]; omega

/-- A result's parts, its memory told. -/
theorem res_claim {h : Mem} {fresh st : Bool} {tag : Nat} {t : Ty} {x : t.den} {v : Value} {bs : List Nat} (ho : OneV h t x v bs) (hst : st = true → Strict t x v) (hk : ∀ b ∈ bs, g.kd b = .fz)
    (hf : fresh = true → bs.Nodup ∧ ∀ b ∈ bs, ∃ c e, h[b]? = some (.cells c e (0, 0))) :
    ∃ g', Claim g g' bs tag (tag + tagRoom.width t) ∧ LeavesB g' h (resLeaves fresh st tag t x) v.cells.toList bs ∧ TagsLt (resLeaves fresh st tag t x) (tag + tagRoom.width t) ∧ (∀ b ∈ bs, g'.own b = g.own b ∨ (tag ≤ g'.own b ∧ fresh = true)) := by
  obtain ⟨h1, h2, h3⟩ := ho
  have notag : TagsLt [mkfz t 0 false x] (tag + tagRoom.width t) := by
    intro l hl e t' tg sub lin st v he
    simp at hl; subst hl
    unfold mkfz at he; cases hq : t.flat <;> rw [hq] at he <;> cases he
  have plain : ∃ g', Claim g g' bs tag (tag + tagRoom.width t) ∧ LeavesB g' h [mkfz t 0 false x] v.cells.toList bs ∧ TagsLt [mkfz t 0 false x] (tag + tagRoom.width t) ∧ (∀ b ∈ bs, g'.own b = g.own b ∨ (tag ≤ g'.own b ∧ fresh = true)) :=
    ⟨g, Claim.refl _ _ _ _ hk, mkfz_len t x h1 hk, notag, fun _ _ => .inl rfl⟩
  unfold resLeaves
  cases fresh with
  | false => exact plain
  | true =>
    obtain ⟨n1, n2⟩ := hf rfl
    rw [cond_true]
    have flatc : t.flat = true → ∀ ls, some [Leaf.fz t 0 false x] = some ls → ∃ g', Claim g g' bs tag (tag + tagRoom.width t) ∧ LeavesB g' h ls v.cells.toList bs ∧ TagsLt ls (tag + tagRoom.width t) ∧ (∀ b ∈ bs, g'.own b = g.own b ∨ (tag ≤ g'.own b ∧ true = true)) := by
      intro hfl ls hls
      injection hls with hls
      have e : mkfz t 0 false x = Leaf.fz t 0 false x := by unfold mkfz; rw [hfl]; rfl
      rw [e] at plain
      subst hls; exact plain
    split
    · rename_i ls hls
      cases t with
      | slice e u =>
        simp only [newLeaves, isSlice, Bool.and_true, Option.some.injEq] at hls; subst hls
        have hc := h3 rfl
        have h1' : Rd h (.slice e u) x [v] bs := by rw [hc] at h1; exact h1
        obtain ⟨g', q1, q2, q3⟩ := claim_slice (g := g) (tag := tag) (st := st) (v := x) (hd := v) (bs := bs) h1' n1 hst (fun b hb => ⟨hk b hb, n2 b hb⟩)
        refine ⟨g', q1, by rw [hc]; exact q2.many, fun l hl e t tg sub lin st v he => ?_, fun b hb => .inr ⟨by rw [q3 b hb]; exact Nat.le_refl _, rfl⟩⟩
        simp at hl; subst hl; injection he with _ _ he; simp [tagRoom.width]; omega
      | pair b c =>
        simp only [newLeaves, isSlice, Bool.and_false] at hls
        obtain ⟨g', q1, q2, q3⟩ := explode_claim (g := g) hls h1 n1 rfl (fun b hb => ⟨hk b hb, n2 b hb⟩)
        exact ⟨g', q1, q2, explodeNew_tags hls, fun b hb => .inr ⟨(q3 b hb).1, rfl⟩⟩
      | unit =>
        simp only [newLeaves, isSlice, Bool.and_false] at hls
        obtain ⟨g', q1, q2, q3⟩ := explode_claim (g := g) hls h1 n1 rfl (fun b hb => ⟨hk b hb, n2 b hb⟩)
        exact ⟨g', q1, q2, explodeNew_tags hls, fun b hb => .inr ⟨(q3 b hb).1, rfl⟩⟩
      | int k => exact flatc rfl ls hls
      | bool => exact flatc rfl ls hls
      | arr m u =>
        simp only [newLeaves] at hls
        cases hfl : (Ty.arr m u).flat with
        | false => rw [hfl] at hls; cases hls
        | true => rw [hfl] at hls; exact flatc hfl ls hls
    · exact plain

theorem LeavesB.claim {g g' : Gh} {h : Mem} {bs' : List Nat} {lo hi : Nat} (x : Claim g g' bs' lo hi) : ∀ {ls : List Leaf} {cs : List Value} {bs : List Nat}, LeavesB g h ls cs bs → (∀ b ∈ bs, b ∉ bs') → TagsLt ls lo → LeavesB g' h ls cs bs
  | [], _, _, hl, _, _ => hl
  | l :: r, cs, bs, ⟨b1, b2, h1, h2, h3⟩, hd, ht => by
    subst h3
    exact ⟨b1, b2, h1.claim x (fun b hb => hd b (List.mem_append_left _ hb)) (fun e t tag sub lin st v he => .inl (ht l (by simp) e t tag sub lin st v he)),
      LeavesB.claim x h2 (fun b hb => hd b (List.mem_append_right _ hb)) (fun l hl => ht l (by simp [hl])), rfl⟩

theorem tup_plain {h : Mem} {st : Bool} : ∀ {rs : List Ty} {tag : Nat} {x : Ress rs} {vs : List Value} {bs : List Nat}, ResV h st rs x vs bs → (∀ b ∈ bs, g.kd b = .fz) → ValsR g h (resTup false st tag rs x) vs := by
  intro rs
  induction rs with
  | nil => intro tag x vs bs hr _; exact hr.1
  | cons t rs ih =>
    rintro tag x vs bs ⟨v, r, c1, c2, e1, e2, e3, e4, e5⟩ hk
    subst e5
    exact ⟨v, r, e1, leaves_of (mkfz_len t x.1 e2.1 (fun b hb => hk b (List.mem_append_left _ hb))) e2.2.1 e2.2.2, ih e4 (fun b hb => hk b (List.mem_append_right _ hb))⟩

theorem resE_plain {h : Mem} {st : Bool} {tag : Nat} {rs : List Ty} {x : Ress rs} {vs : List Value} {bs : List Nat} (hr : ResV h st rs x vs bs) (hk : ∀ b ∈ bs, g.kd b = .fz) (s : Nat) : EntR g h s (resE false st tag rs x) (retV vs) := by
  match rs, x, hr with
  | [], x, hr => obtain ⟨rfl, rfl⟩ := hr; exact ⟨#[], rfl, rfl⟩
  | [t], x, hr =>
    obtain ⟨v, r, b1, b2, h1, h2, h3, ⟨h4, h4'⟩, h5⟩ := hr
    subst h4; subst h4'; subst h1; rw [List.append_nil] at h5; subst h5
    exact leaves_of (mkfz_len t x.1 h2.1 hk) h2.2.1 h2.2.2
  | t :: t' :: rs, x, hr =>
    have q := tup_plain (tag := tag) hr hk
    obtain ⟨v, r, b1, b2, h1, h2, h3, h4, h5⟩ := hr
    obtain ⟨v', r', b1', b2', h1', _⟩ := h4
    subst h1; subst h1'
    exact ⟨_, rfl, q⟩

/-- Several results. -/
theorem tup_claim {h : Mem} {fresh st : Bool} : ∀ {rs : List Ty} {tag : Nat} {x : Ress rs} {vs : List Value} {bs : List Nat} {g : Gh}, ResV h st rs x vs bs → (∀ b ∈ bs, g.kd b = .fz) →
    (fresh = true → bs.Nodup ∧ ∀ b ∈ bs, ∃ c e, h[b]? = some (.cells c e (0, 0))) → (rs.all fun t => Nat.ble (tagRoom.width t) 4) = true →
    ∃ g', Claim g g' bs tag (tag + 4 * rs.length) ∧ ValsR g' h (resTup fresh st tag rs x) vs ∧ ∀ b ∈ bs, g'.own b = g.own b ∨ (tag ≤ g'.own b ∧ fresh = true)
  | [], tag, x, vs, bs, g, ⟨h1, h2⟩, hk, _, _ => ⟨g, Claim.refl _ _ _ _ hk, h1, fun _ _ => .inl rfl⟩
  | t :: rs, tag, x, vs, bs, g, ⟨v, r, b1, b2, h1, h2, h3, h4, h5⟩, hk, hf, hw => by
    subst h1; subst h5
    simp only [List.all_cons, Bool.and_eq_true] at hw
    have hw1 : tagRoom.width t ≤ 4 := by simpa using hw.1
    obtain ⟨g1, p1, p2, p3, p4⟩ := res_claim (g := g) (fresh := fresh) (st := st) (tag := tag) h2 h3 (fun b hb => hk b (List.mem_append_left _ hb))
      (fun q => ⟨(List.nodup_append.1 (hf q).1).1, fun b hb => (hf q).2 b (List.mem_append_left _ hb)⟩)
    cases hfr : fresh with
    | false =>
      subst hfr
      exact ⟨g, Claim.refl _ _ _ _ hk, ⟨v, r, rfl, leaves_of (mkfz_len t x.1 h2.1 (fun b hb => hk b (List.mem_append_left _ hb))) h2.2.1 h2.2.2, tup_plain h4 (fun b hb => hk b (List.mem_append_right _ hb))⟩, fun _ _ => .inl rfl⟩
    | true =>
      subst hfr
      obtain ⟨n1, n2⟩ := hf rfl
      have dis : ∀ y ∈ b1, y ∉ b2 := fun y hy q => (List.nodup_append.1 n1).2.2 y hy y q rfl
      have dis' : ∀ y ∈ b2, y ∉ b1 := fun y hy q => dis y q hy
      obtain ⟨g', q1, q2, q3⟩ := tup_claim (tag := tag + 4) (g := g1) h4 (fun b hb => by rw [p1.kd b (dis' b hb)]; exact hk b (List.mem_append_right _ hb)) (fun q => ⟨(List.nodup_append.1 n1).2.1, fun b hb => n2 b (List.mem_append_right _ hb)⟩) hw.2
      refine ⟨g', ⟨fun y hy => ?_, fun y hy => ?_, fun t' ht => ?_, q1.bx.trans p1.bx, q1.al.trans p1.al, fun y hy => ?_⟩, ⟨v, r, rfl, leaves_of (p2.claim q1 dis (fun l hl e t tg sub lin st v he => by have := p3 l hl e t tg sub lin st v he; omega)) h2.2.1 h2.2.2, q2⟩, fun y hy => ?_⟩
      · simp at hy; rw [q1.kd y hy.2, p1.kd y hy.1]
      · simp at hy; rw [q1.own y hy.2, p1.own y hy.1]
      · simp only [List.length_cons] at ht; rw [q1.H t' (by omega), p1.H t' (by omega)]
      · rcases List.mem_append.1 hy with hy | hy
        · rw [q1.kd y (dis y hy)]; exact p1.mine y hy
        · exact q1.mine y hy
      · rcases List.mem_append.1 hy with hy | hy
        · rw [q1.own y (dis y hy)]; exact p4 y hy
        · rcases q3 y hy with q | q
          · rw [q, p1.own y (dis' y hy)]; exact .inl rfl
          · exact .inr ⟨by omega, rfl⟩

theorem ResV.lt {h : Mem} {st : Bool} : ∀ {rs : List Ty} {x : Ress rs} {vs : List Value} {bs : List Nat}, ResV h st rs x vs bs → ∀ b ∈ bs, b < h.size
  | [], x, vs, bs, ⟨_, h2⟩ => by subst h2; intro b hb; cases hb
  | t :: rs, x, vs, bs, ⟨v, r, b1, b2, h1, h2, h3, h4, h5⟩ => by
    subst h5; intro b hb
    rcases List.mem_append.1 hb with hb | hb
    · exact h2.1.lt b hb
    · exact ResV.lt h4 b hb

/-- The results of a call, as the caller's slot. -/
theorem resE_claim {h : Mem} {fresh st : Bool} {tag : Nat} {rs : List Ty} {x : Ress rs} {vs : List Value} {bs : List Nat} (hr : ResV h st rs x vs bs) (hk : ∀ b ∈ bs, g.kd b = .fz)
    (hf : fresh = true → bs.Nodup ∧ ∀ b ∈ bs, ∃ c e, h[b]? = some (.cells c e (0, 0))) (hw : tagRoom rs = true) :
    ∃ g', Claim g g' bs tag (tag + 14) ∧ (∀ s, EntR g' h s (resE fresh st tag rs x) (retV vs)) ∧ ∀ b ∈ bs, g'.own b = g.own b ∨ (tag ≤ g'.own b ∧ fresh = true) := by
  match rs, x, hr, hw with
  | [], x, hr, hw => obtain ⟨rfl, rfl⟩ := hr; exact ⟨g, Claim.refl _ _ _ _ hk, fun s => ⟨#[], rfl, rfl⟩, fun _ hb => by cases hb⟩
  | [t], x, hr, hw =>
    obtain ⟨v, r, b1, b2, h1, h2, h3, h4, h5⟩ := hr
    obtain ⟨h4, h4'⟩ := h4
    subst h4; subst h4'; subst h1; rw [List.append_nil] at h5; subst h5
    obtain ⟨g1, p1, p2, p3, p4⟩ := res_claim (g := g) (fresh := fresh) (st := st) (tag := tag) h2 h3 hk hf
    have hw1 : tagRoom.width t ≤ 14 := by simpa [tagRoom] using hw
    exact ⟨g1, ⟨p1.kd, p1.own, fun t ht => p1.H t (by omega), p1.bx, p1.al, p1.mine⟩, fun s => leaves_of p2 h2.2.1 h2.2.2, p4⟩
  | t :: t' :: rs, x, hr, hw =>
    simp only [tagRoom, Bool.and_eq_true] at hw
    have hl : (t :: t' :: rs).length ≤ 3 := by simpa using hw.1
    obtain ⟨g', q1, q2, q3⟩ := tup_claim (g := g) (tag := tag) (fresh := fresh) hr hk hf hw.2
    obtain ⟨v, r, b1, b2, h1, h2, h3, h4, h5⟩ := hr
    obtain ⟨v', r', b1', b2', h1', _⟩ := h4
    subst h1; subst h1'
    exact ⟨g', ⟨q1.kd, q1.own, fun t ht => q1.H t (by omega), q1.bx, q1.al, q1.mine⟩, fun s => ⟨_, rfl, q2⟩, q3⟩

end
end Go.Proofs.YtkoifikjfnbcpaaEv
