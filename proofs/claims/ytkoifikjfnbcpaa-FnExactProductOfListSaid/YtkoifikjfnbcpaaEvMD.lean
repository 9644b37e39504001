/- The program's operations on plain typed data, and that the machine does the same (part D). No condition. -/
import Derived.Test.YtkoifikjfnbcpaaEvMC
import Derived.Maps.RangeRun
import Derived.OpenShut
import Derived.ChangeArms
import Derived.WideShapes
import Derived.ChangeShapes
set_option linter.unusedVariables false
set_option linter.unusedSimpArgs false
namespace Go.Proofs.YtkoifikjfnbcpaaEv
open Go Go.RowKit

def boxInit (t : Ty) (x : t.den) : List Leaf :=
  match boxLeaves t [mkfz t 0 true x] with
  | some ls => ls
  | none => [mkfz t 0 true x]
/-- The slots when a function begins. -/
def initEnv : Nat → (ps : List PK) → Args ps → Env
  | _, [], _ => []
  | i, .v t :: r, x => (i, .val t.agg [mkfz t 0 true x.1]) :: initEnv (i + 1) r x.2
  | i, .p t :: r, x => (i, .box true (boxInit t x.1)) :: initEnv (i + 1) r x.2
  | i, .fn f :: r, x => (i, .fn f []) :: initEnv (i + 1) r x.2
  | i, .m _ _ :: r, x => (i, .dead) :: initEnv (i + 1) r x.2

def leavesOf (T : TTab) (env : Env) (rv : ResultVar) (t : Ty) : Option (List Leaf) :=
  match rv with
  | .tmp s => (match env.get s with
    | .val agg ls => bif (agg && t.agg) || (!agg && !t.agg) then some ls else none
    | _ => none)
  | .cell s ty => (match env.get s, tyOf T ty with
    | .box _ ls, some t' => bif t'.eqb t then some ls else none
    | _, _ => none)
def collect (T : TTab) (env : Env) : List ResultVar → (rs : List Ty) → Option (List (List Leaf) × Ress rs)
  | [], [] => some ([], ())
  | rv :: r, t :: ts => (match leavesOf T env rv t with
    | some ls => (match valAs t ls, collect T env r ts with
      | some x, some (lss, y) => some (ls :: lss, (x, y))
      | _, _ => none)
    | none => none)
  | _, _ => none

def regsOf : List Leaf → Option (List Nat)
  | [] => some []
  | .fz t reg lin _ :: r => bif t.flat then regsOf r else bif lin && !(Nat.beq reg 0) then (match regsOf r with | some l => some (reg :: l) | none => none) else none
  | .rt _ _ tag _ lin _ _ :: r => bif lin && !(Nat.beq tag 0) then (match regsOf r with | some l => some (tag :: l) | none => none) else none
def distinct : List Nat → Bool
  | [] => true
  | x :: r => !(memN r x) && distinct r
def freshOk (lss : List (List Leaf)) : Bool :=
  match regsOf lss.flatten with
  | some l => distinct l
  | none => false
def strictOk : List Ty → List (List Leaf) → Bool
  | .slice _ _ :: r, ls :: lss => (match ls with | [.rt _ _ _ _ _ true _] => true | [.rt _ _ _ _ _ false v] => !v.isEmpty | [.fz (.slice _ _) _ _ v] => !v.isEmpty | _ => false) && strictOk r lss
  | _ :: r, _ :: lss => strictOk r lss
  | _, _ => true

def litRes : List ResultVar → Env → Env
  | [], env => env
  | .tmp s :: r, env => litRes r (litArg env (.tmp s))
  | .cell _ _ :: r, env => litRes r env

def endK (T : TTab) (rvs : List ResultVar) (rs : List Ty) (fresh st : Bool) (env : Env) : Option (Ress rs) :=
  match collect T (litRes rvs env) rvs rs with
  | some (lss, y) => bif (!fresh || freshOk lss) && (!st || strictOk rs lss) then some y else none
  | none => none

/-- What a function's code comes to. -/
def fnK (T : TTab) (K : CTab) (H : List (Nat × List Nat)) (rs : List Ty) (LT : LTab (Ress rs)) (c : Code) (rvs : List ResultVar) (ps : List PK) (fresh st : Bool) (x : Args ps) : Option (Ress rs) :=
  evL T K H LT c (initEnv 0 ps x) (endK T rvs rs fresh st) (fun _ _ => none) (endK T rvs rs fresh st)

section
variable {P : Program} {T : TTab} {K : CTab} {n : NS} {w0 w : World} {W : Nat → Prop} {g : Gh} {a : Act}

theorem litRes_sound : ∀ {rvs : List ResultVar} {env : Env} {g : Gh}, (∀ b, W b → g.al b) → St n w0 W g env.get a w → ∃ g', g'.al = g.al ∧ St n w0 W g' (litRes rvs env).get a w
  | [], env, g, hw, st => ⟨g, rfl, st⟩
  | .tmp s :: r, env, g, hw, st => by
    obtain ⟨g1, q1, q2⟩ := litArg_sound (x := .tmp s) hw st
    obtain ⟨g2, q3, q4⟩ := litRes_sound (rvs := r) (fun b hb => by rw [q1]; exact hw b hb) q2
    exact ⟨g2, q3.trans q1, q4⟩
  | .cell s t :: r, env, g, hw, st => litRes_sound (rvs := r) hw st

def resOne (tmps : Array Value) : ResultVar → Sem Value
  | .tmp t => pure (tmps.getD t undef)
  | .cell a t => do loadVar t (← asAddr (tmps.getD a undef))

theorem leavesOf_sound {env : Env} {rv : ResultVar} {t : Ty} {ls : List Leaf} {y : t.den} (hT : TOK P T) (he : ∀ s, EntR g w.heap s (env.get s) (a.tmps.getD s undef)) (h : leavesOf T env rv t = some ls) (hy : valAs t ls = some y) :
    ∃ v, (resOne a.tmps rv).run P w = .ok v w ∧ ValR g w.heap t.agg ls v := by
  unfold leavesOf at h
  split at h
  · rename_i s
    split at h
    · rename_i agg ls' hg
      cases hq : ((agg && t.agg) || (!agg && !t.agg)) with
      | false => rw [hq] at h; cases h
      | true =>
        rw [hq] at h; injection h with h; subst h
        have e : agg = t.agg := by cases agg <;> cases ht : t.agg <;> simp [ht] at hq <;> rfl
        have := he s; rw [hg] at this
        exact ⟨_, rfl, by rw [← e]; exact this⟩
    · cases h
  · rename_i s ty
    split at h
    · rename_i ro ls' t' hg ht
      cases hq : t'.eqb t with
      | false => rw [hq] at h; cases h
      | true =>
        rw [hq] at h; injection h with h; subst h
        have := eqb_eq hq; subst this
        have hb := he s; rw [hg] at hb
        obtain ⟨b, c, e, fr, bs, h1, h2, h3, _⟩ := hb
        have k := hT _ _ ht
        have hl := h3.length
        have hz := valAs_size hy
        have hrd := valAs_rd hy h3
        have hsz : t'.size = c.toList.length := by omega
        refine ⟨_, ?_, ⟨c.toList, bs, rfl, fun ha => ?_, h3⟩⟩
        · simp only [resOne, h1]
          have ho : 0 + t'.size ≤ c.size := by rw [hsz]; simp
          have e1 : (asAddr (.pointer (some ⟨b, 0, none⟩))).run P w = .ok ⟨b, 0, none⟩ w := rfl
          simp only [Sem.run_bind, e1, Result.andThen_ok, run_loadVar k h2 ho]
          rw [List.drop_zero, hsz, List.take_length]
        · obtain ⟨v, hv1, hv2⟩ := hrd.one ha
          rw [hv1, ha]; exact ⟨rfl, hv2⟩
    · cases h

theorem valAs_shape {h : Mem} {t : Ty} {ls : List Leaf} {v : Value} {y : t.den} (hv : ValR g h t.agg ls v) (hy : valAs t ls = some y) : ∃ bs, LeavesB g h ls v.cells.toList bs ∧ OneV h t y v bs := by
  obtain ⟨bs, hl⟩ := ValR.cells hv
  exact ⟨bs, hl, valAs_rd hy hl, (ValR.shape hv).1, (ValR.shape hv).2⟩

theorem regs_append : ∀ {a b : List Leaf} {l : List Nat}, regsOf (a ++ b) = some l → ∃ l1 l2, regsOf a = some l1 ∧ regsOf b = some l2 ∧ l = l1 ++ l2
  | [], b, l, h => ⟨[], l, rfl, h, rfl⟩
  | .fz t reg lin v :: r, b, l, h => by
    simp only [List.cons_append, regsOf] at h ⊢
    cases hf : t.flat with
    | true => rw [hf] at h; exact regs_append h
    | false =>
      rw [hf] at h; simp only [cond_false] at h ⊢
      cases hq : (lin && !(Nat.beq reg 0)) with
      | false => rw [hq] at h; cases h
      | true =>
        rw [hq] at h; simp only [cond_true] at h ⊢
        split at h
        · rename_i l' hl
          injection h with h; subst h
          obtain ⟨l1, l2, q1, q2, q3⟩ := regs_append hl
          exact ⟨reg :: l1, l2, by rw [q1], q2, by rw [q3]; rfl⟩
        · cases h
  | .rt e t tag sub lin st v :: r, b, l, h => by
    simp only [List.cons_append, regsOf] at h ⊢
    cases hq : (lin && !(Nat.beq tag 0)) with
    | false => rw [hq] at h; cases h
    | true =>
      rw [hq] at h; simp only [cond_true] at h ⊢
      split at h
      · rename_i l' hl
        injection h with h; subst h
        obtain ⟨l1, l2, q1, q2, q3⟩ := regs_append hl
        exact ⟨tag :: l1, l2, by rw [q1], q2, by rw [q3]; rfl⟩
      · cases h

theorem distinct_nodup : ∀ {l : List Nat}, distinct l = true → l.Nodup
  | [], _ => List.nodup_nil
  | x :: r, h => by
    simp only [distinct, Bool.and_eq_true, Bool.not_eq_true'] at h
    refine List.nodup_cons.2 ⟨fun hm => ?_, distinct_nodup h.2⟩
    rw [memN_iff.2 hm] at h; cases h.1

theorem fresh_nodup {h : Mem} : ∀ {ls : List Leaf} {cs : List Value} {bs : List Nat} {l : List Nat}, LeavesB g h ls cs bs → regsOf ls = some l → l.Nodup → bs.Nodup ∧ ∀ b ∈ bs, g.own b ∈ l ∧ g.own b ≠ 0
  | [], cs, bs, l, ⟨_, h2⟩, _, _ => by subst h2; exact ⟨List.nodup_nil, fun b hb => (by cases hb)⟩
  | .fz t reg lin v :: r, cs, bs, l, ⟨b1, b2, h1, h2, h3⟩, hr, hn => by
    subst h3
    simp only [regsOf] at hr
    cases hf : t.flat with
    | true =>
      rw [hf] at hr
      have : b1 = [] := h1.1.flat hf
      subst this
      exact fresh_nodup h2 hr hn
    | false =>
      rw [hf] at hr; simp only [cond_false] at hr
      cases hq : (lin && !(Nat.beq reg 0)) with
      | false => rw [hq] at hr; cases hr
      | true =>
        rw [hq] at hr; simp only [cond_true] at hr
        simp only [Bool.and_eq_true, Bool.not_eq_true'] at hq
        split at hr
        · rename_i l' hl
          injection hr with hr; subst hr
          have hn' := List.nodup_cons.1 hn
          obtain ⟨p1, p2⟩ := fresh_nodup h2 hl hn'.2
          have o1 : ∀ b ∈ b1, g.own b = reg := h1.2.2.1 (nbeq_ne hq.2)
          refine ⟨List.nodup_append.2 ⟨(h1.2.2.2 hq.1).1 (nbeq_ne hq.2), p1, fun x hx z hz e => ?_⟩, fun b hb => ?_⟩
          · subst e; have := (p2 x hz).1; rw [o1 x hx] at this; exact hn'.1 this
          · rcases List.mem_append.1 hb with hb | hb
            · rw [o1 b hb]; exact ⟨by simp, nbeq_ne hq.2⟩
            · obtain ⟨z1, z2⟩ := p2 b hb; exact ⟨by simp [z1], z2⟩
        · cases hr
  | .rt e t tag sub lin st v :: r, cs, bs, l, ⟨b1, b2, h1, h2, h3⟩, hr, hn => by
    subst h3
    simp only [regsOf] at hr
    cases hq : (lin && !(Nat.beq tag 0)) with
    | false => rw [hq] at hr; cases hr
    | true =>
      rw [hq] at hr; simp only [cond_true] at hr
      simp only [Bool.and_eq_true, Bool.not_eq_true'] at hq
      split at hr
      · rename_i l' hl
        injection hr with hr; subst hr
        have hn' := List.nodup_cons.1 hn
        obtain ⟨p1, p2⟩ := fresh_nodup h2 hl hn'.2
        obtain ⟨hd, blk, bs', e1, e2, _, _, _, e5, e6, e7⟩ := h1
        subst e2
        obtain ⟨z1, z2⟩ := e7 hq.1
        have o1 : ∀ b ∈ blk.toList ++ bs', g.own b = tag := by
          intro b hb
          rcases List.mem_append.1 hb with hb | hb
          · exact (e6 b (by simpa using hb)).2.1
          · exact z1 b hb
        have nd1 : (blk.toList ++ bs').Nodup := by
          refine List.nodup_append.2 ⟨by cases blk <;> simp, z2, fun x hx y hy e => ?_⟩
          subst e
          have := (e6 x (by simpa using hx)).1
          rw [e5 x hy] at this; cases this
        refine ⟨List.nodup_append.2 ⟨nd1, p1, fun x hx z hz e => ?_⟩, fun b hb => ?_⟩
        · subst e; have := (p2 x hz).1; rw [o1 x hx] at this; exact hn'.1 this
        · rcases List.mem_append.1 hb with hb | hb
          · rw [o1 b hb]; exact ⟨by simp, nbeq_ne hq.2⟩
          · obtain ⟨z1, z2⟩ := p2 b hb; exact ⟨by simp [z1], z2⟩
      · cases hr

theorem LeavesB.mine {h : Mem} : ∀ {ls : List Leaf} {cs : List Value} {bs : List Nat}, LeavesB g h ls cs bs → ∀ b ∈ bs, g.kd b = .fz ∨ ∃ t, g.kd b = .mu t
  | [], cs, bs, ⟨_, h2⟩ => by subst h2; intro b hb; cases hb
  | l :: r, cs, bs, ⟨b1, b2, h1, h2, h3⟩ => by
    subst h3; intro b hb
    rcases List.mem_append.1 hb with hb | hb
    · exact h1.mine b hb
    · exact LeavesB.mine h2 b hb

theorem strict_one {h : Mem} {e : TypeId} {u : Ty} {e' : TypeId} {u' : Ty} {tag : Nat} {sub lin : Bool} {x : List u'.den} {v : Value} {y : List u.den} {cs : List Value} {bs : List Nat} (hl : LeavesB g h [.rt e' u' tag sub lin true x] cs bs)
    (hy : valAs (.slice e u) [.rt e' u' tag sub lin true x] = some y) (hc : v.cells = #[v]) (hcs : cs = v.cells.toList) : v = .slice none 0 0 ↔ y = [] := by
  have hl := hl.one
  obtain ⟨hd, blk, bs', e1, e2, _, e4, _⟩ := hl
  rw [hcs, hc] at e1
  injection e1 with e1 _
  rw [e1, e4 rfl]
  unfold valAs at hy
  simp only at hy
  cases hq : (Leaf.rt e' u' tag sub lin true x).ty.eqb (.slice e u) with
  | false => rw [hq] at hy; simp [valMany] at hy
  | true =>
    rw [hq] at hy; simp only [cond_true] at hy
    obtain ⟨ee, hy⟩ := Ty.cast_eq hy
    injection ee with ee1 ee2
    subst ee1; subst ee2
    have hy : x = y := hy
    rw [hy]

theorem strict_ne {h : Mem} {e : TypeId} {u : Ty} {y : List u.den} {v : Value} {bs : List Nat} (ho : OneV h (.slice e u) y v bs) (hy : y ≠ []) : v = .slice none 0 0 ↔ y = [] := by
  constructor
  · intro hv
    obtain ⟨⟨hd, blk, bs', h1, h2, _⟩, _, h3⟩ := ho
    rw [h3 rfl] at h1
    injection h1 with h1 _
    rcases h2 with ⟨_, _, q, _⟩ | ⟨b, o, cap, c, fr, q, _⟩
    · exact q
    · rw [← h1, hv] at q; cases q
  · intro q; exact absurd q hy
theorem valAs_len {e : TypeId} {u : Ty} {l : Leaf} {y : List u.den} {m : Nat} (hy : valAs (.slice e u) [l] = some y) (hm : lenL l = some m) : y.length = m := by
  unfold valAs at hy
  simp only at hy
  cases hq : l.ty.eqb (.slice e u) with
  | false => rw [hq] at hy; simp [valMany] at hy
  | true =>
    rw [hq] at hy; simp only [cond_true] at hy
    obtain ⟨ee, hy⟩ := Ty.cast_eq hy
    cases l with
    | rt e' u' tag sub lin st x =>
      injection ee with ee1 ee2
      subst ee1; subst ee2
      have hy : x = y := hy
      subst hy
      simpa [lenL] using hm
    | fz t reg lin x =>
      have ee : t = .slice e u := ee
      subst ee
      have hy : x = y := hy
      subst hy
      simpa [lenL] using hm

theorem collect_sound {env : Env} {st : Bool} (hT : TOK P T) (he : ∀ s, EntR g w.heap s (env.get s) (a.tmps.getD s undef)) : ∀ {rvs : List ResultVar} {rs : List Ty} {lss : List (List Leaf)} {y : Ress rs}, collect T env rvs rs = some (lss, y) → (st = true → strictOk rs lss = true) →
    ∃ vs bs, (rvs.mapM (resOne a.tmps)).run P w = .ok vs w ∧ ResV w.heap st rs y vs bs ∧ (∀ b ∈ bs, g.kd b = .fz ∨ ∃ t, g.kd b = .mu t) ∧ ∃ cs, LeavesB g w.heap lss.flatten cs bs
  | [], [], lss, y, h, hs => by
    simp only [collect, Option.some.injEq, Prod.mk.injEq] at h
    obtain ⟨rfl, -⟩ := h
    exact ⟨[], [], rfl, ⟨rfl, rfl⟩, fun b hb => (by cases hb), [], rfl, rfl⟩
  | rv :: r, t :: ts, lss, y, h, hs => by
    simp only [collect] at h
    split at h
    · rename_i ls hls
      split at h
      · rename_i x lss' y' hx hr
        simp only [Option.some.injEq, Prod.mk.injEq] at h
        obtain ⟨rfl, rfl⟩ := h
        obtain ⟨v, q1, q2⟩ := leavesOf_sound hT he hls hx
        obtain ⟨b1, q3, q4⟩ := valAs_shape q2 hx
        have hs' : st = true → strictOk ts lss' = true := by
          intro hst
          have := hs hst
          cases t <;> simp only [strictOk, Bool.and_eq_true] at this <;> first | exact this.2 | exact this
        obtain ⟨vs, bs, z1, z2, z3, cs, z4⟩ := collect_sound (st := st) hT he hr hs'
        refine ⟨v :: vs, b1 ++ bs, ?_, ⟨v, vs, b1, bs, rfl, q4, fun hst => ?_, z2, rfl⟩, fun b hb => ?_, v.cells.toList ++ cs, ?_⟩
        · rw [List.mapM_cons]
          simp only [Sem.run_bind, q1, Result.andThen_ok, z1, Sem.run_pure]
        · have hh := hs hst
          cases t with
          | slice e u =>
            simp only [strictOk, Bool.and_eq_true] at hh
            obtain ⟨hh, _⟩ := hh
            split at hh
            · exact strict_one q3 hx (q4.2.2 rfl) rfl
            · refine strict_ne q4 fun hy => ?_
              have := valAs_len hx (m := _) rfl
              rw [show x = [] from hy] at this
              simp only [Bool.not_eq_true', List.isEmpty_eq_false_iff] at hh
              exact hh (List.eq_nil_of_length_eq_zero this.symm)
            · refine strict_ne q4 fun hy => ?_
              have := valAs_len hx (m := _) rfl
              rw [show x = [] from hy] at this
              simp only [Bool.not_eq_true', List.isEmpty_eq_false_iff] at hh
              exact hh (List.eq_nil_of_length_eq_zero this.symm)
            · cases hh
          | _ => trivial
        · rcases List.mem_append.1 hb with hb | hb
          · exact q3.mine b hb
          · exact z3 b hb
        · simp only [List.flatten_cons]
          have app : ∀ {ls rest : List Leaf} {cs cs' : List Value} {b1 b2 : List Nat}, LeavesB g w.heap ls cs b1 → LeavesB g w.heap rest cs' b2 → LeavesB g w.heap (ls ++ rest) (cs ++ cs') (b1 ++ b2) := by
            intro ls
            induction ls with
            | nil => rintro rest cs cs' b1 b2 ⟨rfl, rfl⟩ h; simpa using h
            | cons l ls ih =>
              rintro rest cs cs' b1 b2 ⟨c1, c2, k1, k2, rfl⟩ k3
              have hlen : l.ty.size ≤ cs.length := by have := k1.rd.length; simp at this; omega
              rw [List.append_assoc]
              refine ⟨c1, c2 ++ b2, ?_, ?_, rfl⟩
              · rw [List.take_append_of_le_length hlen]; exact k1
              · rw [List.drop_append_of_le_length hlen]; exact ih k2 k3
          exact app q3 z4
      · cases h
    · cases h
  | [], _ :: _, _, _, h, _ => by cases h
  | _ :: _, [], _, _, h, _ => by cases h

end
end Go.Proofs.YtkoifikjfnbcpaaEv
set_option linter.unusedVariables false
set_option linter.unusedSimpArgs false
namespace Go.Proofs.YtkoifikjfnbcpaaEv
open Go Go.RowKit

section
variable {P : Program} {T : TTab} {K : CTab} {H : List (Nat × List Nat)} {n : NS} {w0 w : World} {W : Nat → Prop} {g : Gh} {a : Act}

/-- The block of an argument that is the address of a variable. -/
def blkOf : Value → Nat
  | .pointer (some ⟨b, _, _⟩) => b
  | _ => 0

open Classical in
noncomputable def gh0 (w : World) (vs : List Value) (ba : List Nat) : Gh where
  kd b := if w.heap.size ≤ b ∨ b ∈ ba then .fz else .no
  own _ := 0
  H _ := undef
  bx s := blkOf (vs.getD s undef)
  al b := b ∈ ba
  mt _ := (.unit, .unit)

theorem mkfz_old {h : Mem} (t : Ty) (v : t.den) {cs : List Value} {bs : List Nat} (hr : Rd h t v cs bs) (hk : ∀ b ∈ bs, g.kd b = .fz) (ho : ∀ b ∈ bs, g.own b = 0) : LeavesB g h [mkfz t 0 true v] cs bs :=
  (mkfz_B hr hk (fun q => absurd rfl q) (fun _ => ⟨fun q => absurd rfl q, fun _ => ho⟩)).many
theorem boxInit_B {h : Mem} {t : Ty} {x : t.den} {cs : List Value} {bs : List Nat} (hr : Rd h t x cs bs) (hk : ∀ b ∈ bs, g.kd b = .fz) (ho : ∀ b ∈ bs, g.own b = 0) : LeavesB g h (boxInit t x) cs bs := by
  have h0 := mkfz_old t x hr hk ho
  unfold boxInit
  split
  · rename_i ls hls; exact (boxLeaves_B hls h0).1
  · exact h0

theorem ArgsV.blocks {h : Mem} : ∀ {ps : List PK} {x : Args ps} {vs : List Value} {ba : List Nat}, ArgsV h ps x vs ba → vs.length = ps.length
  | [], x, vs, ba, ⟨h1, _⟩ => by subst h1; rfl
  | .v t :: r, x, vs, ba, hh => by obtain ⟨v, vr, b1, b2, h1, _, _, h4⟩ := hh; subst h1; simp [ArgsV.blocks h4]
  | .p t :: r, x, vs, ba, hh => by obtain ⟨b, vr, c, e, fr, b1, b2, h1, _, _, _, h4⟩ := hh; subst h1; simp [ArgsV.blocks h4]
  | .fn f :: r, x, vs, ba, hh => by obtain ⟨vr, h1, h4⟩ := hh; subst h1; simp [ArgsV.blocks h4]
  | .m kt vt :: r, x, vs, ba, hh => by obtain ⟨b, vr, es, c, h1, _, _, h4⟩ := hh; subst h1; simp [ArgsV.blocks h4]

theorem init_ent {w : World} {all : List Value} {bal : List Nat} {tm : Nat → Value} : ∀ {ps : List PK} {x : Args ps} {vs : List Value} {ba : List Nat} {i : Nat}, ArgsV w.heap ps x vs ba → (∀ j, j < vs.length → tm (i + j) = vs.getD j undef) → (∀ j, all.getD (i + j) undef = vs.getD j undef) → (∀ b ∈ ba, b ∈ bal) →
    ∀ s, EntR (gh0 w all bal) w.heap s ((initEnv i ps x).get s) (tm s)
  | [], x, vs, ba, i, _, _, _, _, s => trivial
  | .v t :: r, x, vs, ba, i, hh, ht, ha, hb, s => by
    obtain ⟨v, vr, b1, b2, h1, h2, h3, h4⟩ := hh
    subst h1; subst h2
    simp only [initEnv, Env.get]
    cases hq : Nat.beq i s with
    | true =>
      have := Nat.eq_of_beq_eq_true hq; subst this
      have hv : tm i = v := by have := ht 0 (by simp); simpa using this
      rw [hv]
      refine leaves_of (mkfz_old t x.1 h3.1 (fun b hb' => ?_) (fun _ _ => rfl)) h3.2.1 h3.2.2
      simp only [gh0]; rw [if_pos (.inr (hb b (List.mem_append_left _ hb')))]
    | false =>
      refine init_ent (i := i + 1) h4 (fun j hj => ?_) (fun j => ?_) (fun b hb' => hb b (List.mem_append_right _ hb')) s
      · have := ht (j + 1) (by simpa using hj); rw [show i + 1 + j = i + (j + 1) by omega]; simpa using this
      · have := ha (j + 1); rw [show i + 1 + j = i + (j + 1) by omega]; simpa using this
  | .p t :: r, x, vs, ba, i, hh, ht, ha, hb, s => by
    obtain ⟨b, vr, c, e, fr, b1, b2, h1, h2, h3, h3', h4⟩ := hh
    subst h1; subst h2
    simp only [initEnv, Env.get]
    cases hq : Nat.beq i s with
    | true =>
      have := Nat.eq_of_beq_eq_true hq; subst this
      have hv : tm i = .pointer (some ⟨b, 0, none⟩) := by have := ht 0 (by simp); simpa using this
      rw [hv]
      refine ⟨b, c, e, fr, b1, rfl, h3, boxInit_B h3' (fun b hb' => ?_) (fun _ _ => rfl), ?_, fun q => (by cases q), fun _ => ?_⟩
      · simp only [gh0]; rw [if_pos (.inr (hb b (List.mem_append_left _ hb')))]
      · have := ha 0; simp only [Nat.add_zero] at this
        simp only [gh0, this]; rfl
      · simp only [gh0]
        split
        · exact .inl rfl
        · exact .inr rfl
    | false =>
      refine init_ent (i := i + 1) h4 (fun j hj => ?_) (fun j => ?_) (fun b hb' => hb b (List.mem_append_right _ hb')) s
      · have := ht (j + 1) (by simpa using hj); rw [show i + 1 + j = i + (j + 1) by omega]; simpa using this
      · have := ha (j + 1); rw [show i + 1 + j = i + (j + 1) by omega]; simpa using this
  | .fn f :: r, x, vs, ba, i, hh, ht, ha, hb, s => by
    obtain ⟨vr, h1, h4⟩ := hh
    subst h1
    simp only [initEnv, Env.get]
    cases hq : Nat.beq i s with
    | true =>
      have := Nat.eq_of_beq_eq_true hq; subst this
      have hv : tm i = .func (.func f) #[] #[] := by have := ht 0 (by simp); simpa using this
      rw [hv]; rfl
    | false =>
      refine init_ent (i := i + 1) h4 (fun j hj => ?_) (fun j => ?_) hb s
      · have := ht (j + 1) (by simpa using hj); rw [show i + 1 + j = i + (j + 1) by omega]; simpa using this
      · have := ha (j + 1); rw [show i + 1 + j = i + (j + 1) by omega]; simpa using this

  | .m kt vt :: r, x, vs, ba, i, hh, ht, ha, hb, s => by
    obtain ⟨b, vr, es, c, h1, _, _, h4⟩ := hh
    subst h1
    simp only [initEnv, Env.get]
    cases hq : Nat.beq i s with
    | true => trivial
    | false =>
      refine init_ent (i := i + 1) h4 (fun j hj => ?_) (fun j => ?_) hb s
      · have := ht (j + 1) (by simpa using hj); rw [show i + 1 + j = i + (j + 1) by omega]; simpa using this
      · have := ha (j + 1); rw [show i + 1 + j = i + (j + 1) by omega]; simpa using this

theorem init_St {w : World} {ps : List PK} {x : Args ps} {vs : List Value} {ba : List Nat} {n : Nat} (hv : ArgsV w.heap ps x vs ba) (hn : ps.length ≤ n) :
    St ⟨n, false, undef⟩ w (fun _ => False) (gh0 w vs ba) (initEnv 0 ps x).get { tmps := vs.toArray ++ Array.replicate (n - vs.toArray.size) undef, defers := [] } w where
  inv := by
    refine ⟨Nat.le_refl _, fun b _ _ => rfl, fun b => ?_, fun b hb => ?_, fun b hb => ?_, fun b hb => absurd rfl hb, fun b hb => absurd rfl hb⟩
    · simp only [gh0]
      split
      · exact .inl rfl
      · exact .inr (.inl rfl)
    · simp only [gh0] at hb
      split at hb
      · cases hb
      · rename_i h; exact Nat.lt_of_not_le fun q => h (.inl q)
    · simp only [gh0] at hb
      split at hb
      · rename_i h; exact h
      · cases hb
  ent := by
    refine init_ent hv (fun j hj => ?_) (fun j => by simp) (fun b hb => hb)
    simp only [Nat.zero_add]
    rw [Array.getD_eq_getD_getElem?, Array.getElem?_append_left (by simpa using hj), List.getElem?_toArray, List.getD_eq_getElem?_getD]
  sz := by
    have := ArgsV.blocks hv
    exact ⟨by simp; omega, fun h => (by cases h)⟩
  df := rfl
  os := rfl
  tape := Tp.refl
  output := rfl

theorem endK_inv {rvs : List ResultVar} {rs : List Ty} {fresh st : Bool} {env : Env} {y : Ress rs} (h : endK T rvs rs fresh st env = some y) : ∃ lss, collect T (litRes rvs env) rvs rs = some (lss, y) ∧ (fresh = true → freshOk lss = true) ∧ (st = true → strictOk rs lss = true) := by
  unfold endK at h
  split at h
  · rename_i lss y' hc
    cases hq : ((!fresh || freshOk lss) && (!st || strictOk rs lss)) with
    | false => rw [hq] at h; cases h
    | true =>
      rw [hq] at h; injection h with h; subst h
      simp only [Bool.and_eq_true, Bool.or_eq_true, Bool.not_eq_true'] at hq
      exact ⟨lss, hc, fun hf => hq.1.resolve_left (by rw [hf]; simp), fun hf => hq.2.resolve_left (by rw [hf]; simp)⟩
  · cases h

theorem retV_of (vs : List Value) : (if h : vs.toArray.size = 1 then vs.toArray[0] else .tuple vs.toArray) = retV vs := by
  match vs with
  | [] => rfl
  | [v] => rfl
  | v :: v' :: r => rfl

theorem results_run {fn : Func} {vs : List Value} (h : (fn.results.toList.mapM (resOne a.tmps)).run P w = .ok vs w) : (results fn a.tmps).run P w = .ok (retV vs) w := by
  have e : (results fn a.tmps) = (do let vs ← fn.results.mapM (resOne a.tmps); pure (if h : vs.size = 1 then vs[0] else .tuple vs)) := by
    unfold results
    have : ∀ rv, (match rv with | .tmp t => pure (a.tmps.getD t undef) | .cell b t => do loadVar t (← asAddr (a.tmps.getD b undef)) : Sem Value) = resOne a.tmps rv := by
      intro rv; cases rv <;> rfl
    congr 1
  rw [e, Array.mapM_eq_mapM_toList]
  simp only [Sem.run_bind, Sem.run_map, h, Result.andThen_ok, Sem.run_pure]
  rw [← retV_of vs]

theorem After_of {C : Ctr} {y : Ress C.rs} {w w1 : World} {ba : List Nat} {g1 : Gh} {a1 : Act} {fn : Func} {n : NS} {env : Env} (hT : TOK P T) (st : St n w (fun _ => False) g1 env.get a1 w1) (hA : g1.al = fun b => b ∈ ba)
    (h : endK T fn.results.toList C.rs C.fresh C.st env = some y) : a1.defers = [] ∧ ∃ v, (results fn a1.tmps).run P w1 = .ok v w1 ∧ After C y w ba (.returned v) w1 := by
  obtain ⟨lss, h1, h2, h3⟩ := endK_inv h
  obtain ⟨g2, q1, q2⟩ := litRes_sound (rvs := fn.results.toList) (fun b hb => by cases hb) st
  obtain ⟨vs, bs, z1, z2, z3, cs, z4⟩ := collect_sound (st := C.st) hT q2.ent h1 h3
  have blw : Below w.heap.size w w1 := ⟨st.os, st.tape.tape, st.output, st.inv.size, fun k hk => st.inv.old k hk (fun h => h)⟩
  have news : ∀ b, g2.own b ≠ 0 → w.heap.size ≤ b := fun b hb => by
    rcases (q2.inv.own b hb).2 with q | q
    · exact q
    · cases q
  refine ⟨st.df, retV vs, results_run z1, vs, bs, rfl, z2, blw, st.tape.dr, fun b hb => ?_, fun hf => ?_⟩
  · rcases z3 b hb with q | ⟨t, q⟩
    · rcases q2.inv.al b q with q | q
      · exact .inl q
      · rw [q1, hA] at q; exact .inr q
    · rcases q2.inv.kd b with r | r | r
      · rw [q] at r; cases r
      · rw [q] at r; cases r
      · rcases r.2 with r | r
        · exact .inl r
        · cases r
  · have hfr := h2 hf
    unfold freshOk at hfr
    split at hfr
    · rename_i l hl
      obtain ⟨p1, p2⟩ := fresh_nodup z4 hl (distinct_nodup hfr)
      exact ⟨p1, fun b hb => ⟨news b (p2 b hb).2, q2.inv.wr b (p2 b hb).2⟩⟩
    · cases hfr

theorem fn_ok {k : Nat} {C : Ctr} {fn : Func} {c : Code} (hm : P.follows .mixedOrders = true) (hT : TOK P T) (hK : KOK P K) (hf : P.funcs[k]? = some fn) (hb : fn.body = some c) (hc : okCode ⟨fn.ntmps, false, undef⟩ c = true) (hp : C.ps.length ≤ fn.ntmps)
    (h : ∀ (x : Args C.ps) (y : Ress C.rs), C.f x = some y → ∃ LT : LTab (Ress C.rs), LTOK P ⟨fn.ntmps, false, undef⟩ LT (endK T fn.results.toList C.rs C.fresh C.st) c ∧ fnK T K H C.rs LT c fn.results.toList C.ps C.fresh C.st x = some y) : FnOK P k C := by
  intro x y hxy w vs ba hv
  obtain ⟨LT, hL, hF⟩ := h x y hxy
  refine calls_of_wp hf hb ?_
  exact evL_sound (W := fun _ => False) (A := fun b => b ∈ ba) hm hT hK (fun b hb => (by cases hb)) hc hL hF (init_St hv hp) rfl (fun env' a' w' g' q1 q2 q3 => After_of hT q2 q3 q1) (fun id env' a' w' g' q1 => (by cases q1)) (fun env' a' w' g' q1 q2 q3 => After_of hT q2 q3 q1)

theorem fn_one {k : Nat} {C : Ctr} {fn : Func} {c : Code} (hi : C.inp = 0) (hm : P.follows .mixedOrders = true) (hT : TOK P T) (hK : KOK P K) (hf : P.funcs[k]? = some fn) (hb : fn.body = some c) (hc : okCode ⟨fn.ntmps, false, undef⟩ c = true) (hp : C.ps.length ≤ fn.ntmps) (hn : fn.name ≠ "runtime.NumGoroutine")
    (h : ∀ (x : Args C.ps) (y : Ress C.rs), C.f x = some y → ∃ LT : LTab (Ress C.rs), LTOK P ⟨fn.ntmps, false, undef⟩ LT (endK T fn.results.toList C.rs C.fresh C.st) c ∧ fnK T K H C.rs LT c fn.results.toList C.ps C.fresh C.st x = some y) : KOne P k C :=
  ⟨fun _ => fn_ok hm hT hK hf hb hc hp h, fun q => (by rw [hi] at q; cases q), fun q => (by rw [hi] at q; cases q), fn, hf, hn, by rw [hb]; rfl⟩

/-! ### the loops of a code -/

def loopsOf : Code → List Code
  | .seq a b => loopsOf a ++ loopsOf b
  | .cond _ a b => loopsOf a ++ loopsOf b
  | .block _ b => loopsOf b
  | .loop b => [b]
  | _ => []
def loopAt (id : Nat) : Code → Option Code
  | .seq a b => (match loopAt id a with | some c => some c | none => loopAt id b)
  | .cond _ a b => (match loopAt id a with | some c => some c | none => loopAt id b)
  | .block _ b => loopAt id b
  | .loop b => bif Nat.beq (headId b) id then some b else loopAt id b
  | _ => none
def bodyOf (f : Func) : Code := match f.body with | some c => c | none => .skip
def loopOf (f : Func) (id : Nat) : Code := match loopAt id (bodyOf f) with | some c => c | none => .skip

def LTs {α : Type} (P : Program) (n : NS) (LT : LTab α) (kr : Env → Option α) : List Code → Prop
  | [] => True
  | b :: r => (∀ ls, findN LT (headId b) = some ls → LSOK P n ls b kr) ∧ LTs P n LT kr r
theorem LTs_append {α : Type} {LT : LTab α} {kr : Env → Option α} : ∀ {a b : List Code}, LTs P n LT kr (a ++ b) → LTs P n LT kr a ∧ LTs P n LT kr b
  | [], b, h => ⟨trivial, h⟩
  | x :: a, b, h => ⟨⟨h.1, (LTs_append h.2).1⟩, (LTs_append h.2).2⟩
theorem LTOK_of {α : Type} {LT : LTab α} {kr : Env → Option α} : ∀ {c : Code}, LTs P n LT kr (loopsOf c) → LTOK P n LT kr c := by
  intro c
  induction c with
  | seq a b iha ihb => intro h; exact ⟨iha (LTs_append h).1, ihb (LTs_append h).2⟩
  | cond c a b iha ihb => intro h; exact ⟨iha (LTs_append h).1, ihb (LTs_append h).2⟩
  | block id b ih => intro h; exact ih h
  | loop b _ => intro h; exact h.1
  | _ => intro _; exact trivial
theorem LTOK_by {α : Type} {LT : LTab α} {kr : Env → Option α} {c : Code} {l : List Code} (e : loopsOf c = l) (h : LTs P n LT kr l) : LTOK P n LT kr c := LTOK_of (by rw [e]; exact h)
theorem ls_at {α : Type} {LT : LTab α} {kr : Env → Option α} {b : Code} {ls0 : LS α} (h : findN LT (headId b) = some ls0) (ok : LSOK P n ls0 b kr) : ∀ ls, findN LT (headId b) = some ls → LSOK P n ls b kr := by
  intro ls h'
  rw [h] at h'; injection h' with h'; rw [← h']; exact ok

end
end Go.Proofs.YtkoifikjfnbcpaaEv
set_option linter.unusedVariables false
set_option linter.unusedSimpArgs false
namespace Go.Proofs.YtkoifikjfnbcpaaEv
open Go Go.RowKit

def initM (e : TypeId) (u : Ty) (v : List u.den) (m : Int) : Env :=
  [(0, .val false [.rt e u 1 false true false v]), (1, intE .i64 m)]
def endM (e : TypeId) (u : Ty) (rvs : List ResultVar) (env : Env) : Option (Ress [.slice e u, .int .i64]) :=
  match rvs, env.get 0 with
  | [.tmp s], .val false [.rt e' u' tag false lin st v] => bif Nat.beq tag 1 then (match Ty.cast (.slice e u) (Leaf.rt e' u' tag false lin st v).val, asI (env.get s) with
    | some v, some (k, m) => bif kEq k .i64 then some (v, m, ()) else none
    | _, _ => none) else none
  | _, _ => none
/-- What a function's code comes to that turns its first argument. -/
def fnM (T : TTab) (K : CTab) (H : List (Nat × List Nat)) (e : TypeId) (u : Ty) (LT : LTab (Ress [.slice e u, .int .i64])) (c : Code) (rvs : List ResultVar) (x : Args [.v (.slice e u), .v (.int .i64)]) : Option (Ress [.slice e u, .int .i64]) :=
  evL T K H LT c (initM e u x.1 x.2.1) (endM e u rvs) (fun _ _ => none) (endM e u rvs)

section
variable {P : Program} {T : TTab} {K : CTab} {H : List (Nat × List Nat)}

open Classical in
noncomputable def ghM (w : World) (v0 : Value) (ba : List Nat) : Gh where
  kd b := if b ∈ ba then .mu 1 else if w.heap.size ≤ b then .fz else .no
  own b := if b ∈ ba then 1 else 0
  H _ := v0
  bx _ := 0
  al b := b ∈ ba
  mt _ := (.unit, .unit)

theorem initM_St {w : World} {e : TypeId} {u : Ty} {x : List u.den} {m : Int} {v0 v1 : Value} {ba : List Nat} {n : Nat} (hu : u.flat = true) (ho : OneV w.heap (.slice e u) x v0 ba) (h1 : v1 = .int .i64 m) (h2 : (Lit.int .i64 m).wf = true) (hn : 2 ≤ n)
    (hw : ∀ b ∈ ba, ∃ c e, w.heap[b]? = some (.cells c e (0, 0))) :
    St ⟨n, true, v0⟩ w (fun b => b ∈ ba) (ghM w v0 ba) (initM e u x m).get { tmps := [v0, v1].toArray ++ Array.replicate (n - [v0, v1].toArray.size) undef, defers := [] } w where
  inv := by
    have lt : ∀ b ∈ ba, b < w.heap.size := ho.1.lt
    refine ⟨Nat.le_refl _, fun b _ _ => rfl, fun b => ?_, fun b hb => ?_, fun b hb => ?_, fun b hb => ?_, fun b hb => ?_⟩
    · simp only [ghM]
      by_cases q : b ∈ ba
      · exact .inr (.inr ⟨lt b q, .inr q⟩)
      · rw [if_neg q]
        split
        · exact .inl rfl
        · exact .inr (.inl rfl)
    · simp only [ghM] at hb
      split at hb
      · cases hb
      · split at hb
        · cases hb
        · omega
    · simp only [ghM] at hb
      split at hb
      · cases hb
      · split at hb
        · rename_i q; exact .inl q
        · cases hb
    · simp only [ghM] at hb
      split at hb
      · rename_i q; exact ⟨lt b q, .inr q⟩
      · exact absurd rfl hb
    · simp only [ghM] at hb
      split at hb
      · rename_i q; exact hw b q
      · exact absurd rfl hb
  ent s := by
    simp only [initM, Env.get]
    cases q0 : Nat.beq 0 s with
    | true =>
      have := Nat.eq_of_beq_eq_true q0; subst this
      simp only [cond_true]
      have ev : ([v0, v1].toArray ++ Array.replicate (n - [v0, v1].toArray.size) undef).getD 0 undef = v0 := by rw [Array.getD_eq_getD_getElem?, Array.getElem?_append_left (by simp)]; rfl
      rw [ev]
      obtain ⟨⟨hd, blk, bs', z1, z2, z3⟩, _, z4⟩ := ho
      have hc := z4 rfl
      have eh : hd = v0 := by rw [hc] at z1; injection z1 with z1 _; exact z1.symm
      subst eh
      have eb := slR_flat hu z2
      subst eb
      rw [List.append_nil] at z3
      refine ⟨[hd], ba, rfl, fun _ => ⟨rfl, hc⟩, LeafB.many ⟨hd, blk, [], rfl, by rw [z3, List.append_nil], fun _ => rfl, fun q => (by cases q), z2, fun b hb => (by cases hb), fun b hb => ?_, fun _ => ⟨fun b hb => (by cases hb), List.nodup_nil⟩⟩⟩
      have hm : b ∈ ba := by rw [z3, hb]; simp
      refine ⟨by simp [ghM, hm], by simp [ghM, hm], ?_⟩
      rcases z2 with ⟨_, _, _, q, _⟩ | ⟨b', o, cap, c, fr, _, q1, _, q2, _⟩
      · rw [hb] at q; cases q
      · rw [hb] at q1; injection q1 with q1; subst q1
        obtain ⟨c', e', q3⟩ := hw b hm
        exact ⟨c', e', q3⟩
    | false =>
      simp only [cond_false]
      cases q1 : Nat.beq 1 s with
      | true =>
        have := Nat.eq_of_beq_eq_true q1; subst this
        simp only [cond_true]
        have ev : ([v0, v1].toArray ++ Array.replicate (n - [v0, v1].toArray.size) undef).getD 1 undef = v1 := by rw [Array.getD_eq_getD_getElem?, Array.getElem?_append_left (by simp)]; rfl
        rw [ev, h1]
        exact intE_sound h2
      | false => trivial
  sz := ⟨by simp; omega, fun _ => by rw [Array.getD_eq_getD_getElem?, Array.getElem?_append_left (by simp)]; rfl⟩
  df := rfl
  os := rfl
  tape := Tp.refl
  output := rfl

theorem AfterM_of {e : TypeId} {u : Ty} {x : List u.den} {C : Ctr} {w w1 : World} {ba : List Nat} {g1 : Gh} {a1 : Act} {fn : Func} {n : Nat} {env : Env} {v0 : Value} {r : List Value} {F : Args [.v (.slice e u), .v (.int .i64)] → Option (Ress [.slice e u, .int .i64])} {y : Ress [.slice e u, .int .i64]} (hu : u.flat = true) (ho : OneV w.heap (.slice e u) x v0 ba)
    (st : St ⟨n, true, v0⟩ w (fun b => b ∈ ba) g1 env.get a1 w1) (h : endM e u fn.results.toList env = some y) :
    a1.defers = [] ∧ ∃ v, (results fn a1.tmps).run P w1 = .ok v w1 ∧ AfterIn ⟨[.v (.slice e u), .v (.int .i64)], [.slice e u, .int .i64], false, false, 1, F⟩ y w (v0 :: r) ba (.returned v) w1 := by
  refine ⟨st.df, ?_⟩
  unfold endM at h
  split at h
  · rename_i s e' u' tag lin sst v hrv hg
    cases ht : Nat.beq tag 1 with
    | false => rw [ht] at h; cases h
    | true =>
      rw [ht] at h; simp only [cond_true] at h
      have := Nat.eq_of_beq_eq_true ht; subst this
      split at h
      · rename_i v' k m hc hi
        cases hk : kEq k .i64 with
        | false => rw [hk] at h; cases h
        | true =>
          rw [hk] at h; injection h with h; subst h
          have := kEq_eq hk; subst this
          obtain ⟨ee, hc⟩ := Ty.cast_eq hc
          injection ee with e1 e2
          subst e1; subst e2
          have hc : v = v' := hc
          subst hc
          have he := st.ent 0
          rw [hg] at he
          rw [st.sz.2 rfl] at he
          obtain ⟨bs, hl, hcc⟩ := val1 he
          obtain ⟨hd, blk, bs', y1, y2, _, _, y5, _, y7, _⟩ := hl
          injection y1 with y1 _
          have y1 : hd = v0 := y1.symm
          subst y1
          have eb := slR_flat hu y5
          subst eb
          have hw1 := asI_inv (st.ent s) hi
          obtain ⟨⟨hd2, blk2, bs2, z1, z2, z3⟩, _, z4⟩ := ho
          have eh : hd2 = hd := by rw [z4 rfl] at z1; injection z1 with z1 _; exact z1.symm
          subst eh
          have eb2 := slR_flat hu z2
          subst eb2
          have ebl := slR_blk z2 y5
          subst ebl
          have hba : ba = blk2.toList := by rw [z3, List.append_nil]
          refine ⟨a1.tmps.getD s undef, ?_, hd2, [a1.tmps.getD s undef], ba, rfl, rfl, ?_, ⟨by rw [hba]; cases blk2 <;> simp, fun _ h => h⟩, st.os, st.tape, st.output, st.inv.size, fun b hb hn => st.inv.old b hb hn, fun b hb => ?_⟩
          · have : (fn.results.toList.mapM (resOne a1.tmps)).run P w1 = .ok [a1.tmps.getD s undef] w1 := by rw [hrv]; rfl
            exact results_run this
          · refine ⟨hd2, [a1.tmps.getD s undef], ba, [], rfl, ⟨⟨hd2, blk2, [], by rw [hcc], y5, by rw [hba, List.append_nil]⟩, fun q => (by cases q), fun _ => hcc⟩, fun q => (by cases q), ?_, by simp⟩
            refine ⟨_, [], [], [], rfl, ?_, fun q => (by cases q), ⟨rfl, rfl⟩, rfl⟩
            rw [hw1.1]
            exact one_int hw1.2
          · obtain ⟨q1, q2, c, q3⟩ := y7 b (by rw [hba] at hb; simpa using hb)
            exact ⟨c, q3⟩
      · cases h
  · cases h

theorem fnM_one {k : Nat} {e : TypeId} {u : Ty} {fn : Func} {c : Code} {F : Args [.v (.slice e u), .v (.int .i64)] → Option (Ress [.slice e u, .int .i64])} (hu : u.flat = true) (hm : P.follows .mixedOrders = true) (hT : TOK P T) (hK : KOK P K) (hf : P.funcs[k]? = some fn) (hb : fn.body = some c) (hc : okCode ⟨fn.ntmps, true, undef⟩ c = true) (hp : 2 ≤ fn.ntmps) (hn : fn.name ≠ "runtime.NumGoroutine")
    (h : ∀ (x : Args [.v (.slice e u), .v (.int .i64)]) (y : Ress [.slice e u, .int .i64]), F x = some y → ∃ LT : LTab (Ress [.slice e u, .int .i64]), (∀ v0, LTOK P ⟨fn.ntmps, true, v0⟩ LT (endM e u fn.results.toList) c) ∧ fnM T K H e u LT c fn.results.toList x = some y) :
    KOne P k ⟨[.v (.slice e u), .v (.int .i64)], [.slice e u, .int .i64], false, false, 1, F⟩ := by
  refine ⟨fun q => (by cases q), fun _ => ?_, fun q => (by cases q), fn, hf, hn, by rw [hb]; rfl⟩
  intro x y hxy w vs ba hv hnd hw
  obtain ⟨LT, hL, hF⟩ := h x y hxy
  obtain ⟨v0, r1, b1, b2, rfl, rfl, o1, v1, r2, b3, b4, rfl, rfl, o2, rfl, rfl⟩ := hv
  have eb3 : b3 = [] := o2.1.flat rfl
  subst eb3
  simp only [List.append_nil] at *
  have hv1 : v1 = .int .i64 x.2.1 ∧ (Lit.int .i64 x.2.1).wf = true := by
    have c1 := o2.2.2 rfl
    have c2 := o2.1.1
    rw [c1] at c2
    simp only [List.cons.injEq, and_true] at c2
    exact ⟨c2, o2.1.2.1⟩
  refine calls_of_wp hf hb ?_
  have okc : okCode ⟨fn.ntmps, true, v0⟩ c = true := by
    have : ∀ c, okCode ⟨fn.ntmps, true, undef⟩ c = okCode ⟨fn.ntmps, true, v0⟩ c := by
      intro c
      induction c <;> simp_all [okCode]
    rw [← this]; exact hc
  exact evL_sound (W := fun b => b ∈ b1) (A := fun b => b ∈ b1) hm hT hK (fun b hb => hb) okc (hL v0) hF (initM_St hu o1 hv1.1 hv1.2 hp hw) rfl (fun env' a' w' g' q1 q2 q3 => AfterM_of (C := ⟨_, _, false, false, 1, F⟩) (x := x.1) hu o1 q2 q1) (fun id env' a' w' g' q1 => (by cases q1)) (fun env' a' w' g' q1 q2 q3 => AfterM_of (C := ⟨_, _, false, false, 1, F⟩) (x := x.1) hu o1 q2 q1)

end
end Go.Proofs.YtkoifikjfnbcpaaEv
set_option linter.unusedVariables false
set_option linter.unusedSimpArgs false
namespace Go.Proofs.YtkoifikjfnbcpaaEv
open Go Go.RowKit

def initX (i : IntKind) (e : TypeId) (u t : Ty) (p : Int) (l : List u.den) (r : t.den) : Env :=
  [(0, intE i p), (1, .val false [.rt e u 17 false true false l]), (2, .val t.agg [mkfz t 0 true r])]
/-- What a function's code comes to that is handed the memory of its second argument. -/
def fnX (T : TTab) (K : CTab) (H : List (Nat × List Nat)) (i : IntKind) (e : TypeId) (u t t' : Ty) (LT : LTab (Ress [t'])) (c : Code) (rvs : List ResultVar) (x : Args [.v (.int i), .v (.slice e u), .v t]) : Option (Ress [t']) :=
  evL T K H LT c (initX i e u t x.1 x.2.1 x.2.2.1) (endK T rvs [t'] true false) (fun _ _ => none) (endK T rvs [t'] true false)

section
variable {P : Program} {T : TTab} {K : CTab} {H : List (Nat × List Nat)}

open Classical in
noncomputable def ghX (w : World) (v1 : Value) (blk : Option Nat) (be br : List Nat) : Gh where
  kd b := if blk = some b then .mu 17 else if b ∈ be ∨ b ∈ br ∨ w.heap.size ≤ b then .fz else .no
  own b := if b ∈ be then 17 else 0
  H _ := v1
  bx _ := 0
  al b := b ∈ be ∨ b ∈ br
  mt _ := (.unit, .unit)

theorem initX_St {w : World} {i : IntKind} {e : TypeId} {u t : Ty} {p : Int} {l : List u.den} {r : t.den} {vl vr : Value} {be br : List Nat} {n : Nat} (h0 : (Lit.int i p).wf = true) (h1 : OneV w.heap (.slice e u) l vl be) (h2 : OneV w.heap t r vr br) (hn : 3 ≤ n)
    (hd : be.Nodup) (hw : ∀ b ∈ be, ∃ c e, w.heap[b]? = some (.cells c e (0, 0))) (hx : ∀ b ∈ br, b ∉ be) :
    ∃ g, g.al = (fun b => b ∈ be ∨ b ∈ br) ∧ St ⟨n, false, undef⟩ w (fun b => b ∈ be) g (initX i e u t p l r).get { tmps := [.int i p, vl, vr].toArray ++ Array.replicate (n - [Value.int i p, vl, vr].toArray.size) undef, defers := [] } w := by
  obtain ⟨⟨hd', blk, bs', z1, z2, z3⟩, _, z4⟩ := h1
  have hc := z4 rfl
  have eh : hd' = vl := by rw [hc] at z1; injection z1 with z1 _; exact z1.symm
  subst eh
  have lt : ∀ b ∈ be, b < w.heap.size := fun b hb => by
    obtain ⟨c, e, q⟩ := hw b hb
    rcases Nat.lt_or_ge b w.heap.size with k | k
    · exact k
    · rw [Array.getElem?_eq_none k] at q; cases q
  have nd := List.nodup_append.1 (z3 ▸ hd)
  have inb : ∀ b, blk = some b → b ∈ be := fun b hb => by rw [z3, hb]; simp
  refine ⟨ghX w hd' blk be br, rfl, ⟨⟨Nat.le_refl _, fun b _ _ => rfl, fun b => ?_, fun b hb => ?_, fun b hb => ?_, fun b hb => ?_, fun b hb => ?_⟩, fun s => ?_, ⟨by simp; omega, fun q => (by cases q)⟩, rfl, rfl, Tp.refl, rfl⟩⟩
  · simp only [ghX]
    by_cases q : blk = some b
    · rw [if_pos q]; exact .inr (.inr ⟨lt b (inb b q), .inr (inb b q)⟩)
    · rw [if_neg q]
      split
      · exact .inl rfl
      · exact .inr (.inl rfl)
  · simp only [ghX] at hb
    split at hb
    · cases hb
    · split at hb
      · cases hb
      · rename_i q; exact Nat.lt_of_not_le fun k => q (.inr (.inr k))
  · simp only [ghX] at hb ⊢
    split at hb
    · cases hb
    · split at hb
      · rename_i q
        rcases q with q | q | q
        · exact .inr (.inl q)
        · exact .inr (.inr q)
        · exact .inl q
      · cases hb
  · simp only [ghX] at hb
    split at hb
    · rename_i q; exact ⟨lt b q, .inr q⟩
    · exact absurd rfl hb
  · simp only [ghX] at hb
    split at hb
    · rename_i q; exact hw b q
    · exact absurd rfl hb
  · simp only [initX, Env.get]
    have ev : ∀ j, j < 3 → ([Value.int i p, hd', vr].toArray ++ Array.replicate (n - [Value.int i p, hd', vr].toArray.size) undef).getD j undef = [Value.int i p, hd', vr].getD j undef := by
      intro j hj
      rw [Array.getD_eq_getD_getElem?, Array.getElem?_append_left (by simpa using hj), List.getElem?_toArray, List.getD_eq_getElem?_getD]
    cases q0 : Nat.beq 0 s with
    | true =>
      have := Nat.eq_of_beq_eq_true q0; subst this
      simp only [cond_true]
      rw [ev 0 (by omega)]
      exact intE_sound h0
    | false =>
      simp only [cond_false]
      cases q1 : Nat.beq 1 s with
      | true =>
        have := Nat.eq_of_beq_eq_true q1; subst this
        simp only [cond_true]
        rw [ev 1 (by omega)]
        refine ⟨[hd'], be, rfl, fun _ => ⟨rfl, hc⟩, LeafB.many ⟨hd', blk, bs', rfl, z3, fun _ => rfl, fun q => (by cases q), z2, fun b hb => ?_, fun b hb => ⟨?_, ?_, ?_⟩, fun _ => ⟨fun b hb => ?_, nd.2.1⟩⟩⟩
        · simp only [ghX]
          rw [if_neg (fun q => nd.2.2 b (by rw [q]; simp) b hb rfl), if_pos (.inl (by rw [z3]; exact List.mem_append_right _ hb))]
        · simp only [ghX]; rw [if_pos hb]
        · simp only [ghX]; rw [if_pos (inb b hb)]
        · obtain ⟨c', e', q3⟩ := hw b (inb b hb)
          rcases z2 with ⟨_, _, _, q, _⟩ | ⟨b', o, cap, c, fr, _, q1, _, q2, _⟩
          · rw [hb] at q; cases q
          · rw [hb] at q1; injection q1 with q1; subst q1
            exact ⟨c', e', q3⟩
        · simp only [ghX]; rw [if_pos (by rw [z3]; exact List.mem_append_right _ hb)]
      | false =>
        simp only [cond_false]
        cases q2 : Nat.beq 2 s with
        | true =>
          have := Nat.eq_of_beq_eq_true q2; subst this
          simp only [cond_true]
          rw [ev 2 (by omega)]
          refine leaves_of (mkfz_old t r h2.1 (fun b hb => ?_) (fun b hb => ?_)) h2.2.1 h2.2.2
          · simp only [ghX]
            rw [if_neg (fun q => hx b hb (inb b q)), if_pos (.inr (.inl hb))]
          · simp only [ghX]; rw [if_neg (hx b hb)]
        | false => trivial

theorem fnX_one {k : Nat} {i : IntKind} {e : TypeId} {u t t' : Ty} {fn : Func} {c : Code} {F : Args [.v (.int i), .v (.slice e u), .v t] → Option (Ress [t'])} (hm : P.follows .mixedOrders = true) (hT : TOK P T) (hK : KOK P K) (hf : P.funcs[k]? = some fn) (hb : fn.body = some c) (hc : okCode ⟨fn.ntmps, false, undef⟩ c = true) (hp : 3 ≤ fn.ntmps) (hn : fn.name ≠ "runtime.NumGoroutine")
    (h : ∀ (x : Args [.v (.int i), .v (.slice e u), .v t]) (y : Ress [t']), F x = some y → ∃ LT : LTab (Ress [t']), LTOK P ⟨fn.ntmps, false, undef⟩ LT (endK T fn.results.toList [t'] true false) c ∧ fnX T K H i e u t t' LT c fn.results.toList x = some y) :
    KOne P k ⟨[.v (.int i), .v (.slice e u), .v t], [t'], true, false, 2, F⟩ := by
  refine ⟨fun q => (by cases q), fun q => (by cases q), fun _ => ?_, fn, hf, hn, by rw [hb]; rfl⟩
  intro p l r y hxy w vl vr be br h0 h1 h2 hd hw hx
  obtain ⟨LT, hL, hF⟩ := h (p, l, r, ()) y hxy
  obtain ⟨g0, al0, st0⟩ := initX_St (n := fn.ntmps) h0 h1 h2 hp hd hw hx
  refine calls_of_wp hf hb ?_
  have fin : ∀ (env : Env) (a1 : Act) (w1 : World) (g1 : Gh), endK T fn.results.toList [t'] true false env = some y → St ⟨fn.ntmps, false, undef⟩ w (fun b => b ∈ be) g1 env.get a1 w1 → g1.al = (fun b => b ∈ be ∨ b ∈ br) →
      a1.defers = [] ∧ ∃ v, (results fn a1.tmps).run P w1 = .ok v w1 ∧ ∃ rv bs, Ending.returned v = .returned rv ∧ OneV w1.heap t' y.1 rv bs ∧ w1.os = w.os ∧ Tp w1 w ∧ w1.output = w.output ∧ w.heap.size ≤ w1.heap.size ∧
        (∀ b, b < w.heap.size → b ∉ be → w1.heap[b]? = w.heap[b]?) ∧ bs.Nodup ∧ (∀ b ∈ bs, w.heap.size ≤ b ∨ b ∈ be) ∧ ∀ b ∈ bs, ∃ c e, w1.heap[b]? = some (.cells c e (0, 0)) := by
    intro env a1 w1 g1 hk st hA
    obtain ⟨lss, q1, q2, q3⟩ := endK_inv hk
    obtain ⟨g2, r1, r2⟩ := litRes_sound (rvs := fn.results.toList) (fun b hb => by rw [hA]; exact .inl hb) st
    obtain ⟨vs, bs, z1, z2, z3, cs, z4⟩ := collect_sound (st := false) hT r2.ent q1 q3
    obtain ⟨v, rr, b1, b2, e1, e2, _, ⟨e3, e4⟩, e5⟩ := z2
    subst e3; subst e4; subst e1
    rw [List.append_nil] at e5; subst e5
    have hfr := q2 rfl
    unfold freshOk at hfr
    split at hfr
    · rename_i ll hl
      obtain ⟨p1, p2⟩ := fresh_nodup z4 hl (distinct_nodup hfr)
      exact ⟨st.df, v, results_run z1, v, bs, rfl, e2, st.os, st.tape, st.output, st.inv.size, fun b hb hn => st.inv.old b hb hn, p1, fun b hb => (r2.inv.own b (p2 b hb).2).2, fun b hb => r2.inv.wr b (p2 b hb).2⟩
    · cases hfr
  exact evL_sound (W := fun b => b ∈ be) (A := fun b => b ∈ be ∨ b ∈ br) hm hT hK (fun b hb => .inl hb) hc hL hF st0 al0 (fun env' a' w' g' q1 q2 q3 => fin env' a' w' g' q1 q2 q3) (fun id env' a' w' g' q1 => (by cases q1)) (fun env' a' w' g' q1 q2 q3 => fin env' a' w' g' q1 q2 q3)

end
end Go.Proofs.YtkoifikjfnbcpaaEv
set_option linter.unusedVariables false
set_option linter.unusedSimpArgs false
namespace Go.Proofs.YtkoifikjfnbcpaaEv
open Go Go.RowKit

def initS (t : Ty) (x : t.den) (m : Int) : Env := [(0, .val t.agg (resLeaves true false 1 t x)), (1, intE .i64 m)]
def endS (t : Ty) (rvs : List ResultVar) (env : Env) : Option (Ress [t, .int .i64]) :=
  match rvs, env.get 0 with
  | [.tmp s], .val agg ls => (match oneRt ls, valAs t ls, asI (env.get s) with
    | some (_, u, _), some y, some (k, m) => bif u.flat && kEq k .i64 && bEq agg t.agg then some (y, m, ()) else none
    | _, _, _ => none)
  | _, _ => none
def fnS (T : TTab) (K : CTab) (H : List (Nat × List Nat)) (t : Ty) (LT : LTab (Ress [t, .int .i64])) (c : Code) (rvs : List ResultVar) (x : Args [.v t, .v (.int .i64)]) : Option (Ress [t, .int .i64]) :=
  evL T K H LT c (initS t x.1 x.2.1) (endS t rvs) (fun _ _ => none) (endS t rvs)

section
variable {P : Program} {T : TTab} {K : CTab} {H : List (Nat × List Nat)}

theorem initS_St {w : World} {t : Ty} {x : t.den} {m : Int} {v0 v1 : Value} {ba : List Nat} {n : Nat} (ho : OneV w.heap t x v0 ba) (h1 : v1 = .int .i64 m) (h2 : (Lit.int .i64 m).wf = true) (hn : 2 ≤ n) (hnd : ba.Nodup)
    (hw : ∀ b ∈ ba, ∃ c e, w.heap[b]? = some (.cells c e (0, 0))) :
    ∃ g, g.al = (fun b => b ∈ ba) ∧ St ⟨n, true, v0⟩ w (fun b => b ∈ ba) g (initS t x m).get { tmps := [v0, v1].toArray ++ Array.replicate (n - [v0, v1].toArray.size) undef, defers := [] } w := by
  classical
  let g0 : Gh := { kd := fun b => if b ∈ ba ∨ w.heap.size ≤ b then .fz else .no, own := fun _ => 0, H := fun _ => undef, bx := fun _ => 0, al := fun b => b ∈ ba, mt := fun _ => (.unit, .unit) }
  have lt : ∀ b ∈ ba, b < w.heap.size := ho.1.lt
  obtain ⟨g1, p1, p2, _, p4⟩ := res_claim (g := g0) (fresh := true) (st := false) (tag := 1) ho (fun q => (by cases q)) (fun b hb => if_pos (.inl hb)) (fun _ => ⟨hnd, hw⟩)
  have ownba : ∀ b, g1.own b ≠ 0 → b ∈ ba := fun b hb => by
    by_cases q : b ∈ ba
    · exact q
    · rw [p1.own b q] at hb; exact absurd rfl hb
  refine ⟨g1, p1.al, ⟨?_, fun s => ?_, ⟨by simp; omega, fun _ => by rw [Array.getD_eq_getD_getElem?, Array.getElem?_append_left (by simp)]; rfl⟩, rfl, rfl, Tp.refl, rfl⟩⟩
  · refine ⟨Nat.le_refl _, fun b _ _ => rfl, fun b => ?_, fun b hb => ?_, fun b hb => ?_, fun b hb => ?_, fun b hb => hw b (ownba b hb)⟩
    · by_cases q : b ∈ ba
      · rcases p1.mine b q with z | ⟨t', z⟩
        · exact .inl z
        · exact .inr (.inr ⟨lt b q, .inr q⟩)
      · rw [p1.kd b q]
        show (if _ then _ else _) = _ ∨ (if _ then _ else _) = _ ∨ _
        split
        · exact .inl rfl
        · exact .inr (.inl rfl)
    · by_cases q : b ∈ ba
      · exact lt b q
      · rw [p1.kd b q] at hb
        replace hb : (if b ∈ ba ∨ w.heap.size ≤ b then BK.fz else BK.no) = .no := hb
        split at hb
        · cases hb
        · rename_i z; exact Nat.lt_of_not_le fun q => z (.inr q)
    · by_cases q : b ∈ ba
      · exact .inr (by rw [p1.al]; exact q)
      · rw [p1.kd b q] at hb
        replace hb : (if b ∈ ba ∨ w.heap.size ≤ b then BK.fz else BK.no) = .fz := hb
        split at hb
        · rename_i z; exact .inl (z.resolve_left q)
        · cases hb
    · have q := ownba b hb; exact ⟨lt b q, .inr q⟩
  · simp only [initS, Env.get]
    cases q0 : Nat.beq 0 s with
    | true =>
      have := Nat.eq_of_beq_eq_true q0; subst this
      simp only [cond_true]
      have ev : ([v0, v1].toArray ++ Array.replicate (n - [v0, v1].toArray.size) undef).getD 0 undef = v0 := by rw [Array.getD_eq_getD_getElem?, Array.getElem?_append_left (by simp)]; rfl
      rw [ev]
      exact leaves_of p2 ho.2.1 ho.2.2
    | false =>
      simp only [cond_false]
      cases q1 : Nat.beq 1 s with
      | true =>
        have := Nat.eq_of_beq_eq_true q1; subst this
        simp only [cond_true]
        have ev : ([v0, v1].toArray ++ Array.replicate (n - [v0, v1].toArray.size) undef).getD 1 undef = v1 := by rw [Array.getD_eq_getD_getElem?, Array.getElem?_append_left (by simp)]; rfl
        rw [ev, h1]
        exact intE_sound h2
      | false => trivial

theorem AfterS_of {t : Ty} {x : t.den} {w w1 : World} {ba : List Nat} {g1 : Gh} {a1 : Act} {fn : Func} {n : Nat} {env : Env} {v0 : Value} {r : List Value} {F : Args [.v t, .v (.int .i64)] → Option (Ress [t, .int .i64])} {y : Ress [t, .int .i64]} (ho : OneV w.heap t x v0 ba) (hnd : ba.Nodup)
    (st : St ⟨n, true, v0⟩ w (fun b => b ∈ ba) g1 env.get a1 w1) (h : endS t fn.results.toList env = some y) :
    a1.defers = [] ∧ ∃ v, (results fn a1.tmps).run P w1 = .ok v w1 ∧ AfterIn ⟨[.v t, .v (.int .i64)], [t, .int .i64], false, false, 1, F⟩ y w (v0 :: r) ba (.returned v) w1 := by
  refine ⟨st.df, ?_⟩
  unfold endS at h
  split at h
  · rename_i s agg ls hrv hg
    split at h
    · rename_i e u tg y' k m h1 h2 h3
      cases hq : (u.flat && kEq k .i64 && bEq agg t.agg) with
      | false => rw [hq] at h; cases h
      | true =>
        rw [hq] at h; injection h with h; subst h
        simp only [Bool.and_eq_true] at hq
        obtain ⟨⟨hu, hk⟩, ha⟩ := hq
        have := kEq_eq hk; subst this
        have := bEq_eq ha; subst this
        have he := st.ent 0
        rw [hg, st.sz.2 rfl] at he
        obtain ⟨bs, l1, l2⟩ := valAs_one (t := t) he h2
        obtain ⟨p1, stt, vv, hd, p2, p3⟩ := oneRt_as (h' := w.heap) (y := x) h2 h1 l1 ho.1
        obtain ⟨p4, p5⟩ := leaf_nodup p2
        obtain ⟨hd', blk, bs', y1, y2, _, _, y5, _, y7, _⟩ := p2
        injection y1 with y1 _
        subst y1
        have eb := slR_flat hu y5
        subst eb
        obtain ⟨hd2, blk2, bs2, z1, z2, z3⟩ := p3
        injection z1 with z1 _
        subst z1
        have eb2 := slR_flat hu z2
        subst eb2
        have ebl := slR_blk z2 y5
        subst ebl
        have hb : bs = ba := by rw [y2, z3]
        subst hb
        have hw1 := asI_inv (st.ent s) h3
        refine ⟨a1.tmps.getD s undef, ?_, v0, [a1.tmps.getD s undef], bs, rfl, rfl, ?_, ⟨hnd, fun _ h => h⟩, st.os, st.tape, st.output, st.inv.size, fun b hb hn => st.inv.old b hb hn, fun b hb => ?_⟩
        · have : (fn.results.toList.mapM (resOne a1.tmps)).run P w1 = .ok [a1.tmps.getD s undef] w1 := by rw [hrv]; rfl
          exact results_run this
        · refine ⟨v0, [a1.tmps.getD s undef], bs, [], rfl, l2, fun q => (by cases q), ?_, by simp⟩
          refine ⟨_, [], [], [], rfl, ?_, fun q => (by cases q), ⟨rfl, rfl⟩, rfl⟩
          rw [hw1.1]
          exact one_int hw1.2
        · obtain ⟨q1, q2, c, q3⟩ := y7 b (by rw [y2] at hb; simpa using hb)
          exact ⟨c, q3⟩
    · cases h
  · cases h

theorem fnS_one {k : Nat} {t : Ty} {fn : Func} {c : Code} {F : Args [.v t, .v (.int .i64)] → Option (Ress [t, .int .i64])} (hm : P.follows .mixedOrders = true) (hT : TOK P T) (hK : KOK P K) (hf : P.funcs[k]? = some fn) (hb : fn.body = some c) (hc : okCode ⟨fn.ntmps, true, undef⟩ c = true) (hp : 2 ≤ fn.ntmps) (hn : fn.name ≠ "runtime.NumGoroutine")
    (h : ∀ (x : Args [.v t, .v (.int .i64)]) (y : Ress [t, .int .i64]), F x = some y → ∃ LT : LTab (Ress [t, .int .i64]), (∀ v0, LTOK P ⟨fn.ntmps, true, v0⟩ LT (endS t fn.results.toList) c) ∧ fnS T K H t LT c fn.results.toList x = some y) :
    KOne P k ⟨[.v t, .v (.int .i64)], [t, .int .i64], false, false, 1, F⟩ := by
  refine ⟨fun q => (by cases q), fun _ => ?_, fun q => (by cases q), fn, hf, hn, by rw [hb]; rfl⟩
  intro x y hxy w vs ba hv hnd hw
  obtain ⟨LT, hL, hF⟩ := h x y hxy
  obtain ⟨v0, r1, b1, b2, rfl, rfl, o1, v1, r2, b3, b4, rfl, rfl, o2, rfl, rfl⟩ := hv
  have eb3 : b3 = [] := o2.1.flat rfl
  subst eb3
  simp only [List.append_nil] at *
  have hv1 : v1 = .int .i64 x.2.1 ∧ (Lit.int .i64 x.2.1).wf = true := by
    have c1 := o2.2.2 rfl
    have c2 := o2.1.1
    rw [c1] at c2
    simp only [List.cons.injEq, and_true] at c2
    exact ⟨c2, o2.1.2.1⟩
  refine calls_of_wp hf hb ?_
  have okc : okCode ⟨fn.ntmps, true, v0⟩ c = true := by
    have : ∀ c, okCode ⟨fn.ntmps, true, undef⟩ c = okCode ⟨fn.ntmps, true, v0⟩ c := by
      intro c
      induction c <;> simp_all [okCode]
    rw [← this]; exact hc
  obtain ⟨g, hA, st⟩ := initS_St o1 hv1.1 hv1.2 hp hnd hw
  exact evL_sound (W := fun b => b ∈ b1) (A := fun b => b ∈ b1) hm hT hK (fun b hb => hb) okc (hL v0) hF st hA (fun env' a' w' g' q1 q2 q3 => AfterS_of (x := x.1) o1 hnd q2 q1) (fun id env' a' w' g' q1 => (by cases q1)) (fun env' a' w' g' q1 q2 q3 => AfterS_of (x := x.1) o1 hnd q2 q1)

end
end Go.Proofs.YtkoifikjfnbcpaaEv
set_option linter.unusedVariables false
set_option linter.unusedSimpArgs false
namespace Go.Proofs.YtkoifikjfnbcpaaEv
open Go Go.RowKit

def Ent.isIt : Ent → Bool
  | .it _ _ => true
  | _ => false
def envAt (p : Ent → Bool) : Env → Bool
  | [] => false
  | (_, e) :: r => p e || envAt p r
theorem envAt_get {p : Ent → Bool} (hp : p .dead = false) : ∀ {env : Env}, envAt p env = false → ∀ s, p (env.get s) = false
  | [], _, s => hp
  | (j, e) :: r, h, s => by
    simp only [envAt, Bool.or_eq_false_iff] at h
    simp only [Env.get]
    cases Nat.beq j s with
    | true => exact h.1
    | false => exact envAt_get hp h.2 s

section
variable {P : Program} {T : TTab} {K : CTab} {n : NS} {w0 w : World} {W : Nat → Prop} {g : Gh} {a : Act} {d : Nat}

theorem wpOps_cons {ops : Array Oper} {i : Nat} {rest : List Nat} {Q : Exit → Act → World → Prop} {o : Oper} (h : ops[i]? = some o) (hg : o.guard = none) (hw : o.wp P a w (wpOps P ops Q rest) Q) : wpOps P ops Q (i :: rest) a w := by
  simp only [wpOps, h]
  have : Region.wanted o (yielded ops a.tmps) = true := by simp [Region.wanted, hg]
  rw [this]
  exact .inl hw

theorem St.killed {env : Env} {v : Value} (st : St n w0 W g env.get a w) (hd : n.has d) : St n w0 W g (upd env.get d .dead) (a.put (some d) v) w := st.putA hd trivial
theorem St.passed {env : Env} {v : Value} (st : St n w0 W g env.get a w) (hd : n.has d) (he : env.get d = .dead) : St n w0 W g env.get (a.put (some d) v) w := by
  refine (st.putA (e := .dead) hd trivial).get_eq ?_
  funext s
  unfold upd
  split
  · rename_i h; subst h; exact he
  · rfl
theorem St.tmpAt {env : Nat → Ent} {v : Value} {s : Nat} (st : St n w0 W g env a w) (hd : d < n.n) : (a.put (some d) v).tmps.getD s Go.undef = if s = d then v else a.tmps.getD s Go.undef := put_getD (by rw [st.sz.1]; exact hd)

/-- An iterator made. -/
theorem St.iterNew {env : Env} {o : Obj} (st : St n w0 W g env.get a w) (hd : n.has d) (ho : ∃ m s l c, o = .mapIter m s l c) (hc : envAt (Ent.at d) env = false) :
    St n w0 W g (env.put d (.it w.heap.size o)).get (a.put (some d) (.pointer (some ⟨w.heap.size, 0, none⟩))) (w.alloc o) := by
  have hfz : g.kd w.heap.size = .fz := st.inv.fresh (Nat.le_refl _)
  have hown : g.own w.heap.size = 0 := by
    rcases Nat.eq_zero_or_pos (g.own w.heap.size) with q | q
    · exact q
    · have := (st.inv.own w.heap.size (by omega)).1; omega
  have grow : ∀ b, b < w.heap.size → (w.alloc o).heap[b]? = w.heap[b]? := fun b hb => by show (w.heap.push o)[b]? = _; rw [Array.getElem?_push, if_neg (by omega)]
  have hs : (w.alloc o).heap.size = w.heap.size + 1 := by show (w.heap.push o).size = _; simp
  have i := st.inv
  refine (st.put (g' := g) (w' := w.alloc o) (e := .it w.heap.size o) hd ⟨by omega, fun b hb => .inl (grow b hb), fun _ _ => rfl, fun _ _ => rfl, fun _ _ => rfl, fun _ _ => rfl, fun _ _ => rfl⟩
    ⟨by have := i.size; omega, fun b hb hw => by rw [grow b (by have := i.size; omega)]; exact i.old b hb hw, fun b => ?_, i.no, i.al, fun b hb => ?_, fun b hb => ?_⟩ rfl ⟨rfl, Nat.le_refl _⟩ rfl (fun s _ => envAt_get rfl hc s) ⟨rfl, ?_, ho, hfz, hown⟩).get_eq ?_
  · rcases i.kd b with q | q | q
    · exact .inl q
    · exact .inr (.inl q)
    · exact .inr (.inr ⟨by omega, q.2⟩)
  · have := i.own b hb; exact ⟨by omega, this.2⟩
  · rw [grow b (i.own b hb).1]; exact i.wr b hb
  · show (w.heap.push o)[w.heap.size]? = _; simp
  · funext s; rw [Env.get_put]; rfl

/-- An iterator moved on. -/
theorem St.iterSet {env : Env} {r : Nat} {o o' : Obj} {w1 : World} (st : St n w0 W g env.get a w) (hk : n.k = true → d ≠ 0) (hd : env.get d = .it r o) (ho : ∃ m s l c, o' = .mapIter m s l c) (hc : envAt (fun e => e.isIt) (env.put d .dead) = false) (hr : w0.heap.size ≤ r) (h1 : w1 = w ∨ w1 = w.drew) :
    St n w0 W g (env.put d (.it r o')).get a (ChangeMaps.setBlock w1 r o') := by
  have he := st.ent d
  rw [hd] at he
  obtain ⟨e0, e1, ⟨m1, s1, l1, c1, e2⟩, e3, e4⟩ := he
  have hh : w1.heap = w.heap := by rcases h1 with rfl | rfl <;> rfl
  have lt : r < w.heap.size := by
    rcases Nat.lt_or_ge r w.heap.size with hlt | hge
    · exact hlt
    · rw [Array.getElem?_eq_none hge] at e1; cases e1
  have hw : (ChangeMaps.setBlock w1 r o').heap = w.heap.setIfInBounds r o' := by rw [← hh]; rfl
  have oth : ∀ b, b ≠ r → (w.heap.setIfInBounds r o')[b]? = w.heap[b]? := fun b hb => by rw [Array.getElem?_setIfInBounds, if_neg (fun q => hb q.symm)]
  have kc : KeepC w.heap (w.heap.setIfInBounds r o') := fun b c e fr hq => oth b fun q => by subst q; rw [e1, e2] at hq; cases hq
  have km : ∀ (b : Nat) (es : Array MapEntry) (c : Nat), w.heap[b]? = some (Obj.map es c) → (w.heap.setIfInBounds r o')[b]? = w.heap[b]? := fun b es c hq => oth b fun q => by subst q; rw [e1, e2] at hq; cases hq
  have i := st.inv
  have hos : w1.os = w.os := by rcases h1 with rfl | rfl <;> rfl
  have hou : w1.output = w.output := by rcases h1 with rfl | rfl <;> rfl
  have htp : Tp w1 w := by
    rcases h1 with rfl | rfl
    · exact Tp.refl
    · exact ⟨rfl, Nat.le_succ _⟩
  refine ⟨?_, fun s => ?_, st.sz, st.df, hos.trans st.os, (⟨htp.1, htp.2⟩ : Tp (ChangeMaps.setBlock w1 r o') w).trans st.tape, hou.trans st.output⟩
  · rw [hw]
    refine ⟨by have := i.size; simp; omega, fun b hb hw => ?_, fun b => ?_, i.no, i.al, fun b q => ?_, fun b q => ?_⟩
    · rw [oth b (by omega)]; exact i.old b hb hw
    · rcases i.kd b with q | q | q
      · exact .inl q
      · exact .inr (.inl q)
      · exact .inr (.inr ⟨by simp; exact q.1, q.2⟩)
    · have := i.own b q; exact ⟨by simp; exact this.1, this.2⟩
    · obtain ⟨c2, e5, q1⟩ := i.wr b q
      exact ⟨c2, e5, by rw [kc _ _ _ _ q1]; exact q1⟩
  · rw [hw, Env.get_put]
    by_cases hs : s = d
    · subst hs
      rw [if_pos rfl]
      exact ⟨e0, by rw [Array.getElem?_setIfInBounds, if_pos rfl, if_pos lt], ho, e3, e4⟩
    · rw [if_neg hs]
      have hni : (env.get s).isIt = false := by
        have := envAt_get (p := fun e => e.isIt) rfl hc s
        rw [Env.get_put, if_neg hs] at this; exact this
      have he := st.ent s
      revert he hni
      generalize env.get s = e
      generalize a.tmps.getD s Go.undef = v
      intro hni he
      cases e with
      | dead => trivial
      | val agg ls => exact ValR.keepC kc he
      | lit e t pp =>
        obtain ⟨b, c1, bs, h1, h2, h3, h4, h5, h6, h7⟩ := he
        exact ⟨b, c1, bs, h1, by rw [kc _ _ _ _ h2]; exact h2, h3, h4, h5, h6.keepC kc, h7⟩
      | box ro ls =>
        obtain ⟨b, c1, e, fr, bs, h1, h2, h3, h4⟩ := he
        exact ⟨b, c1, e, fr, bs, h1, by rw [kc _ _ _ _ h2]; exact h2, h3.keepC kc, h4⟩
      | ref s' base t p => exact he
      | eref l i p => obtain ⟨bs, b, o, m, cap, h1, h2⟩ := he; exact ⟨bs, b, o, m, cap, h1.keepC kc, h2⟩
      | fn f caps => exact he
      | tup ls => obtain ⟨vs, h1, h2⟩ := he; exact ⟨vs, h1, h2.keepC kc⟩
      | mp d' kt' vt' m => obtain ⟨h0, es, c, h1, h2⟩ := he; exact ⟨h0, es, c, by rw [km _ _ _ h1]; exact h1, h2⟩
      | ment d' kt' vt' k => obtain ⟨z, n, h0, es, c, e, h1, h2⟩ := he; exact ⟨z, n, h0, es, c, e, by rw [km _ _ _ h1]; exact h1, h2⟩
      | stamp d' kt' vt' k => obtain ⟨n, h0, es, c, e, h1, h2⟩ := he; exact ⟨n, h0, es, c, e, by rw [km _ _ _ h1]; exact h1, h2⟩
      | it b o => cases hni

/-- Data that lead nowhere, in a slot. -/
theorem vk_ent {t : Ty} {x : t.den} {v : Value} (h : Vk t x v) (h' : Mem) (s : Nat) : EntR g h' s (.val t.agg [.fz t 0 false x]) v :=
  leaves_of (LeafB.many ⟨h.1.frame (by simp), by simp, by simp, by simp⟩) h.2.1 h.2.2

/-- A piece of code without loops, by what is told of it. -/
theorem ev_wp {c : Code} {A : Nat → Prop} {env env1 : Env} {ks : List Nat} {Q : Exit → Act → World → Prop} (hm : P.follows .mixedOrders = true) (hT : TOK P T) (hK : KOK P K) (hwal : ∀ b, W b → A b) (hc : okCode n c = true) (hl : LTOK P n ([] : LTab Env) (fun _ => none) c)
    (h : evL T K [] [] c env (fun e => some (keepK ks e)) (fun _ _ => none) (fun _ => none) = some env1) (st : St n w0 W g env.get a w) (hA : g.al = A) (hk : ∀ a' w' g', St n w0 W g' env1.get a' w' → g'.al = A → Q .normal a' w') : c.wp P Q a w :=
  evL_sound (Q := Q) hm hT hK hwal hc hl h st hA (fun env' a' w' g' q1 q2 q3 => hk a' w' g' (by injection q1 with q1; rw [← q1]; exact q2.kill (keepK_get ks env')) q3) (fun _ _ _ _ _ q => (by cases q)) (fun _ _ _ _ q => (by cases q))

end
end Go.Proofs.YtkoifikjfnbcpaaEv
set_option linter.unusedVariables false
set_option linter.unusedSimpArgs false
namespace Go.Proofs.YtkoifikjfnbcpaaEv
open Go Go.RowKit Go.ChangeShapes Go.WideShapes

def onlyArr : Ty → Bool
  | .int _ => true
  | .arr _ t => onlyArr t
  | _ => false
/-- The numbers are numbers of their kinds. -/
def okV : (t : Ty) → t.den → Bool
  | .int k, x => kwf k x
  | .arr n t, x => okT (okV t) n x
  | .pair a b, x => okV a x.1 && okV b x.2
  | .slice _ t, x => decide (x.length ≤ 9223372036854775807) && x.all (okV t)
  | _, _ => true
where
  okT {α : Type} (f : α → Bool) : (n : Nat) → Tup α n → Bool
    | 0, _ => true
    | n + 1, x => f x.1 && okT f n x.2
def okA : (ps : List PK) → Args ps → Bool
  | [], _ => true
  | .v t :: r, x => okV t x.1 && okA r x.2
  | .p t :: r, x => okV t x.1 && okA r x.2
  | .fn _ :: r, x => okA r x.2
  | .m _ _ :: r, x => okA r x.2

theorem wf_kwf {k : IntKind} {n : Int} (h : (Lit.int k n).wf = true) : kwf k n = true := by
  simpa [Lit.wf, kwf] using h

section
variable {P : Program} {T : TTab} {H : Type} {enc : TypeId × Value → H} {w : World} {base : Nat} {spare : Nat → Bool} {held : Bool}

theorem mkTup {α : Type} {R : α → List Value → List Nat → Prop} {f : α → Bool} {s : Nat} : ∀ (n : Nat) (cs : List Value), cs.length = n * s → (∀ i, i < n → ∃ y, R y ((cs.drop (i * s)).take s) [] ∧ f y = true) → ∃ x : Tup α n, RdL R s (tlist n x) cs [] ∧ okV.okT f n x = true
  | 0, cs, hl, _ => ⟨(), by simp [RdL, tlist], rfl⟩
  | n + 1, cs, hl, h => by
    obtain ⟨y, h1, h2⟩ := h 0 (by omega)
    have hl2 : (cs.drop s).length = n * s := by rw [List.length_drop, hl, Nat.succ_mul]; omega
    obtain ⟨x, q1, q2⟩ := mkTup n (cs.drop s) hl2 (fun i hi => by
      obtain ⟨z, z1, z2⟩ := h (i + 1) (by omega)
      refine ⟨z, ?_, z2⟩
      rw [List.drop_drop]
      rw [show s + i * s = (i + 1) * s by rw [Nat.succ_mul]; omega]
      exact z1)
    refine ⟨(y, x), ⟨[], [], by simpa using h1, q1, rfl⟩, ?_⟩
    simp only [okV.okT, h2, q2, Bool.and_self]

theorem cells_size {t : TypeId} {ty : Ty} (k : TyOK P T t ty) : P.cellsOf t = ty.size := by
  obtain ⟨i, h1, h2, _⟩ := k.info
  simp [Program.cellsOf, h1, h2]

theorem open_flat (hT : TOK P T) : ∀ {ty : Ty} {t : TypeId} {fuel : Nat} {cs : List Value} {x : DataW H × List MemPlace}, onlyArr ty = true → TyOK P T t ty → DataW.trod enc P w base spare held fuel t cs = some x → ∃ y : ty.den, Rd w.heap ty y cs [] ∧ okV ty y = true := by
  intro ty
  induction ty with
  | int k =>
    intro t fuel cs x _ kk h
    obtain ⟨m, rfl, _, hw⟩ := DataW.trod_int kk.und h
    exact ⟨m, ⟨rfl, hw, rfl⟩, wf_kwf hw⟩
  | arr n u ih =>
    intro t fuel cs x hf kk h
    obtain ⟨e, u1, u2, _, _⟩ := kk.und
    obtain ⟨xs, m, _, _, hlen, hxl, hx⟩ := DataW.trod_array u1 h
    have ke := hT _ _ u2
    rw [cells_size kk] at hlen
    rw [cells_size ke] at hx
    obtain ⟨y, q1, q2⟩ := mkTup (R := Rd w.heap u) (f := okV u) n cs hlen (fun i hi => by
      have e0 := hx i hi
      rw [List.getElem?_eq_getElem (by omega)] at e0
      exact ih hf ke e0)
    exact ⟨y, ⟨hlen, q1⟩, q2⟩
  | _ => intro t fuel cs x hf; cases hf

theorem open_arg (hT : TOK P T) {ty : Ty} {t : TypeId} {r : Reach} {v : Value} {d : DataW H} {ps : List MemPlace} (hf : onlyArr ty = true) (ht : tyOf T t = some ty) {base2 : Nat} (hval : Value.okWide P w r base2 t v) (h : DataW.Trod enc P w base spare held t v d ps) :
    ∃ y : ty.den, OneV w.heap ty y v [] ∧ okV ty y = true := by
  obtain ⟨fuel, hx⟩ := h
  have k := hT _ _ ht
  obtain ⟨y, q1, q2⟩ := open_flat hT hf k hx
  refine ⟨y, ⟨q1, fun ha => ?_, fun ha => ?_⟩, q2⟩
  · cases ty with
    | arr n u =>
      obtain ⟨e, u1, _⟩ := k.und
      simp only [Value.okWide, u1] at hval
      obtain ⟨cs, h1, _⟩ := hval
      subst h1; rfl
    | int k => cases ha
    | _ => cases hf
  · cases ty with
    | int kk =>
      obtain ⟨m, rfl⟩ := okWide_int k.und hval
      rfl
    | arr n u => cases ha
    | _ => cases hf

end
end Go.Proofs.YtkoifikjfnbcpaaEv
set_option linter.unusedVariables false
set_option linter.unusedSimpArgs false
namespace Go.Proofs.YtkoifikjfnbcpaaEv
open Go Go.RowKit Go.ChangeShapes Go.WideShapes

section
variable {P : Program} {T : TTab} {H : Type} {enc : TypeId × Value → H} {w : World} {base : Nat} {spare : Nat → Bool} {held : Bool}

theorem mkTupB {α : Type} {R : α → List Value → List Nat → Prop} {f : α → Bool} {s : Nat} : ∀ (n : Nat) (cs : List Value), (∀ i, i < n → ∃ y b, R y ((cs.drop (i * s)).take s) b ∧ f y = true) → ∃ (x : Tup α n) (bs : List Nat), RdL R s (tlist n x) cs bs ∧ okV.okT f n x = true
  | 0, cs, _ => ⟨(), [], by simp [RdL, tlist], rfl⟩
  | n + 1, cs, h => by
    obtain ⟨y, b, h1, h2⟩ := h 0 (by omega)
    obtain ⟨x, bs, q1, q2⟩ := mkTupB n (cs.drop s) (fun i hi => by
      obtain ⟨z, b', z1, z2⟩ := h (i + 1) (by omega)
      refine ⟨z, b', ?_, z2⟩
      rw [List.drop_drop]
      rw [show s + i * s = (i + 1) * s by rw [Nat.succ_mul]; omega]
      exact z1)
    refine ⟨(y, x), b ++ bs, ⟨b, bs, by simpa using h1, q1, rfl⟩, ?_⟩
    simp only [okV.okT, h2, q2, Bool.and_self]

theorem mkLst {α : Type} {R : α → List Value → List Nat → Prop} {f : α → Bool} {s : Nat} : ∀ (n : Nat) (cs : List Value), (∀ i, i < n → ∃ y b, R y ((cs.drop (i * s)).take s) b ∧ f y = true) → ∃ (l : List α) (bs : List Nat), l.length = n ∧ RdL R s l cs bs ∧ l.all f = true
  | 0, cs, _ => ⟨[], [], rfl, rfl, rfl⟩
  | n + 1, cs, h => by
    obtain ⟨y, b, h1, h2⟩ := h 0 (by omega)
    obtain ⟨x, bs, q0, q1, q2⟩ := mkLst n (cs.drop s) (fun i hi => by
      obtain ⟨z, b', z1, z2⟩ := h (i + 1) (by omega)
      refine ⟨z, b', ?_, z2⟩
      rw [List.drop_drop]
      rw [show s + i * s = (i + 1) * s by rw [Nat.succ_mul]; omega]
      exact z1)
    refine ⟨y :: x, b ++ bs, by simp [q0], ⟨b, bs, by simpa using h1, q1, rfl⟩, ?_⟩
    simp only [List.all_cons, h2, q2, Bool.and_self]

theorem cell_at {a : Addr} {v : Value} (h : w.cell? a = some v) : a.spot = none ∧ ∃ c e fr, w.heap[a.block]? = some (.cells c e fr) ∧ c[a.off]? = some v := by
  unfold World.cell? at h
  split at h
  · rename_i c e fr hc
    split at h
    · cases h
    · rename_i hs
      exact ⟨by cases hq : a.spot <;> simp_all, c, e, fr, hc, h⟩
  · cases h

theorem cells_get {a : Addr} {n : Nat} {cs : List Value} (h : w.cells? base a n = some cs) : cs.length = n ∧ ∀ i, i < n → w.cell? (a.add i) = cs[i]? := by
  unfold World.cells? at h
  split at h
  · refine ⟨by simpa using mapM_some_length h, fun i hi => ?_⟩
    exact mapM_some_get h i i (by simp [hi])
  · cases h

theorem open_any (hT : TOK P T) : ∀ {ty : Ty},
    (∀ {t : TypeId} {fuel : Nat} {cs : List Value} {x : DataW H × List MemPlace}, TyOK P T t ty → DataW.trod enc P w base spare held fuel t cs = some x → (∀ b, spare b = true) → ∃ (y : ty.den) (bs : List Nat), Rd w.heap ty y cs bs ∧ okV ty y = true) ∧
    (∀ (fs : List Field) (off n : Nat) (cs : List Value), FsOK P T fs ty off → (cs.drop off).length = ty.size → (∀ b, spare b = true) →
      (∀ f, f ∈ fs → ∃ y, DataW.trod enc P w base spare held n f.type ((cs.drop f.offset).take (P.cellsOf f.type)) = some y) → ∃ (y : ty.den) (bs : List Nat), Rd w.heap ty y (cs.drop off) bs ∧ okV ty y = true) := by
  intro ty
  induction ty with
  | int k =>
    refine ⟨fun {t fuel cs x} kk h _ => ?_, fun fs off n cs h => by cases fs <;> exact h.elim⟩
    obtain ⟨m, rfl, _, hw⟩ := DataW.trod_int kk.und h
    exact ⟨m, [], ⟨rfl, hw, rfl⟩, wf_kwf hw⟩
  | bool =>
    refine ⟨fun {t fuel cs x} kk h _ => ?_, fun fs off n cs h => by cases fs <;> exact h.elim⟩
    obtain ⟨m, rfl, _⟩ := DataW.trod_bool kk.und h
    exact ⟨m, [], ⟨rfl, rfl⟩, rfl⟩
  | unit =>
    have F : ∀ (fs : List Field) (off n : Nat) (cs : List Value), FsOK P T fs .unit off → (cs.drop off).length = Ty.unit.size → (∀ b, spare b = true) →
      (∀ f, f ∈ fs → ∃ y, DataW.trod enc P w base spare held n f.type ((cs.drop f.offset).take (P.cellsOf f.type)) = some y) → ∃ (y : Ty.unit.den) (bs : List Nat), Rd w.heap .unit y (cs.drop off) bs ∧ okV .unit y = true :=
      fun fs off n cs _ hl _ _ => ⟨(), [], ⟨List.eq_nil_of_length_eq_zero hl, rfl⟩, rfl⟩
    refine ⟨fun {t fuel cs x} kk h hs => ?_, F⟩
    obtain ⟨fs, u1, _, u3⟩ := kk.und
    obtain ⟨xs, n, _, _, hlen, hxl, hx⟩ := DataW.trod_struct u1 h
    rw [cells_size kk] at hlen
    exact F fs.toList 0 n cs u3 hlen hs (fun f hf => by
      obtain ⟨i, hi, e⟩ := List.getElem_of_mem hf
      have hi' : i < xs.length := by rw [hxl]; simpa using hi
      exact ⟨xs[i], by rw [hx i f (by rw [Array.getElem?_eq_getElem (by simpa using hi)]; simpa using e), List.getElem?_eq_getElem hi']⟩)
  | pair a b iha ihb =>
    have F : ∀ (fs : List Field) (off n : Nat) (cs : List Value), FsOK P T fs (.pair a b) off → (cs.drop off).length = (Ty.pair a b).size → (∀ b, spare b = true) →
      (∀ f, f ∈ fs → ∃ y, DataW.trod enc P w base spare held n f.type ((cs.drop f.offset).take (P.cellsOf f.type)) = some y) → ∃ (y : (Ty.pair a b).den) (bs : List Nat), Rd w.heap (.pair a b) y (cs.drop off) bs ∧ okV (.pair a b) y = true := by
      intro fs off n cs hf hl hs hr
      cases fs with
      | nil => exact hf.elim
      | cons f fs =>
        obtain ⟨f1, f2, _, _, f3⟩ := hf
        have kf := hT _ _ f2
        obtain ⟨x, hx⟩ := hr f (.head _)
        rw [f1, cells_size kf] at hx
        obtain ⟨y1, b1, q1, q2⟩ := iha.1 kf hx hs
        have hl' : (cs.drop (off + a.size)).length = b.size := by
          have : (Ty.pair a b).size = a.size + b.size := rfl
          rw [this] at hl
          simp only [List.length_drop] at hl ⊢
          omega
        obtain ⟨y2, b2, q3, q4⟩ := ihb.2 fs (off + a.size) n cs f3 hl' hs (fun f' h' => hr f' (.tail _ h'))
        refine ⟨(y1, y2), b1 ++ b2, ⟨b1, b2, q1, ?_, rfl⟩, ?_⟩
        · rw [List.drop_drop]; exact q3
        · simp only [okV, q2, q4, Bool.and_self]
    refine ⟨fun {t fuel cs x} kk h hs => ?_, F⟩
    obtain ⟨fs, u1, _, u3⟩ := kk.und
    obtain ⟨xs, n, _, _, hlen, hxl, hx⟩ := DataW.trod_struct u1 h
    rw [cells_size kk] at hlen
    exact F fs.toList 0 n cs u3 hlen hs (fun f hf => by
      obtain ⟨i, hi, e⟩ := List.getElem_of_mem hf
      have hi' : i < xs.length := by rw [hxl]; simpa using hi
      exact ⟨xs[i], by rw [hx i f (by rw [Array.getElem?_eq_getElem (by simpa using hi)]; simpa using e), List.getElem?_eq_getElem hi']⟩)
  | arr n u ih =>
    refine ⟨fun {t fuel cs x} kk h hs => ?_, fun fs off n cs h => by cases fs <;> exact h.elim⟩
    obtain ⟨e, u1, u2, _, _⟩ := kk.und
    obtain ⟨xs, m, _, _, hlen, hxl, hx⟩ := DataW.trod_array u1 h
    have ke := hT _ _ u2
    rw [cells_size kk] at hlen
    rw [cells_size ke] at hx
    obtain ⟨y, bs, q1, q2⟩ := mkTupB (R := Rd w.heap u) (f := okV u) n cs (fun i hi => by
      have e0 := hx i hi
      rw [List.getElem?_eq_getElem (by omega)] at e0
      exact ih.1 ke e0 hs)
    exact ⟨y, bs, ⟨hlen, q1⟩, q2⟩
  | slice e u ih =>
    refine ⟨fun {t fuel cs x} kk h hs => ?_, fun fs off n cs h => by cases fs <;> exact h.elim⟩
    obtain ⟨u1, u2, u3⟩ := kk.und
    have ke := hT _ _ u2
    rcases DataW.trod_slice u1 h with ⟨rfl, _⟩ | ⟨a, len, cap, elems, rest, n, _, rfl, _, _, hlc, hmx, hel, he, hr, _⟩
    · exact ⟨[], [], ⟨_, none, [], rfl, .inl ⟨none, rfl, rfl, rfl, rfl⟩, rfl⟩, rfl⟩
    · obtain ⟨hrl, hr⟩ := hr (hs _)
      rw [cells_size ke] at he hr
      rcases Nat.eq_zero_or_pos cap with hc | hc
      · have hl0 : len = 0 := by omega
        subst hc; subst hl0
        exact ⟨[], [], ⟨_, none, [], rfl, .inl ⟨some a, rfl, rfl, rfl, rfl⟩, rfl⟩, rfl⟩
      · have hC : ∀ i, i < cap → ∃ cs', w.cells? base (a.add (i * u.size)) u.size = some cs' ∧ (i < len → ∃ y, DataW.trod enc P w base spare held n e cs' = some y) := by
          intro i hi
          by_cases q : i < len
          · have e0 := he i q
            rw [List.getElem?_eq_getElem (by omega)] at e0
            obtain ⟨cs', z1, z2⟩ := Option.bind_eq_some_iff.1 e0
            exact ⟨cs', z1, fun _ => ⟨_, z2⟩⟩
          · have e0 := hr (i - len) (by omega)
            rw [List.getElem?_eq_getElem (by omega), show len + (i - len) = i by omega] at e0
            obtain ⟨cs', z1, z2⟩ := Option.bind_eq_some_iff.1 e0
            exact ⟨cs', z1, fun h => absurd h q⟩
        have hus : 0 < u.size := Nat.pos_of_ne_zero u3
        have s1 : a.spot = none := by
          obtain ⟨cs0, z1, _⟩ := hC 0 hc
          obtain ⟨z2, z3⟩ := cells_get z1
          have z4 := z3 0 (by omega)
          rw [List.getElem?_eq_getElem (by omega)] at z4
          have e0 : (a.add (0 * u.size)).add 0 = a := by simp [Addr.add]
          rw [e0] at z4
          exact (cell_at z4).1
        obtain ⟨b0, o0, sp⟩ := a
        have s1 : sp = none := s1
        subst s1
        obtain ⟨csl, z1, _⟩ := hC (cap - 1) (by omega)
        obtain ⟨z2, z3⟩ := cells_get z1
        have z4 := z3 (u.size - 1) (by omega)
        rw [List.getElem?_eq_getElem (by omega)] at z4
        rw [addr_add, addr_add] at z4
        obtain ⟨_, c, e', fr, s2, s3⟩ := cell_at z4
        have s2 : w.heap[b0]? = some (.cells c e' fr) := s2
        have hsz : o0 + cap * u.size ≤ c.size := by
          have : o0 + (cap - 1) * u.size + (u.size - 1) < c.size := by
            rcases Nat.lt_or_ge (o0 + (cap - 1) * u.size + (u.size - 1)) c.size with q | q
            · exact q
            · have s3 : c[o0 + (cap - 1) * u.size + (u.size - 1)]? = some csl[u.size - 1] := s3
              rw [Array.getElem?_eq_none q] at s3; cases s3
          have e1 : cap * u.size = (cap - 1) * u.size + u.size := by
            rw [← Nat.succ_mul]; congr 1; omega
          omega
        obtain ⟨l, bs, q0, q1, q2⟩ := mkLst (R := Rd w.heap u) (f := okV u) len (c.toList.drop o0) (fun i hi => by
          obtain ⟨cs', y1, y2⟩ := hC i (by omega)
          obtain ⟨x', y2⟩ := y2 hi
          obtain ⟨y3, y4⟩ := cells_get y1
          have hi2 : (i + 1) * u.size ≤ cap * u.size := Nat.mul_le_mul_right _ (by omega)
          rw [Nat.succ_mul] at hi2
          have ecs : ((c.toList.drop o0).drop (i * u.size)).take u.size = cs' := by
            apply List.ext_getElem?
            intro j
            by_cases hj : j < u.size
            · rw [List.getElem?_take_of_lt hj, List.getElem?_drop, List.getElem?_drop, ← y4 j hj]
              have : w.cell? (((⟨b0, o0, none⟩ : Addr).add (i * u.size)).add j) = c[o0 + i * u.size + j]? := by
                rw [addr_add, addr_add]
                unfold World.cell?
                show (match w.heap[b0]? with | some (.cells c _ _) => if (none : Option Nat).isSome then none else c[o0 + i * u.size + j]? | _ => none) = _
                rw [s2]; rfl
              rw [this]; simp; congr 1; omega
            · rw [List.getElem?_eq_none (by simp; omega), List.getElem?_eq_none (by omega)]
          rw [ecs]
          exact ih.1 ke y2 hs)
        exact ⟨l, [b0] ++ bs, ⟨_, some b0, bs, rfl, .inr ⟨b0, o0, cap, c, fr, by rw [q0], rfl, ⟨by omega, hc⟩, ⟨e', s2⟩, hsz, q1⟩, rfl⟩, by
          have hmx : cap ≤ 9223372036854775807 := hmx
          have : decide (l.length ≤ 9223372036854775807) = true := decide_eq_true (by omega)
          show (decide (l.length ≤ 9223372036854775807) && l.all (okV u)) = true
          rw [this, q2]; rfl⟩

theorem open_val (hT : TOK P T) {ty : Ty} {t : TypeId} {r : Reach} {v : Value} {d : DataW H} {ps : List MemPlace} (ht : tyOf T t = some ty) {base2 : Nat} (hval : Value.okWide P w r base2 t v) (hs : ∀ b, spare b = true) (h : DataW.Trod enc P w base spare held t v d ps) :
    ∃ (y : ty.den) (bs : List Nat), OneV w.heap ty y v bs ∧ okV ty y = true := by
  obtain ⟨fuel, hx⟩ := h
  have k := hT _ _ ht
  obtain ⟨y, bs, q1, q2⟩ := (open_any hT).1 k hx hs
  refine ⟨y, bs, ⟨q1, fun ha => ?_, fun ha => ?_⟩, q2⟩
  · cases ty with
    | arr n u =>
      obtain ⟨e, u1, _⟩ := k.und
      simp only [Value.okWide, u1] at hval
      obtain ⟨cs, h1, _⟩ := hval
      subst h1; rfl
    | int k => cases ha
    | bool => cases ha
    | slice e u => cases ha
    | unit =>
      obtain ⟨fs, u1, _⟩ := k.und
      simp only [Value.okWide, u1] at hval
      obtain ⟨cs, h1, _⟩ := hval
      subst h1; rfl
    | pair a b =>
      obtain ⟨fs, u1, _⟩ := k.und
      simp only [Value.okWide, u1] at hval
      obtain ⟨cs, h1, _⟩ := hval
      subst h1; rfl
  · cases ty with
    | int kk =>
      obtain ⟨m, rfl⟩ := okWide_int k.und hval
      rfl
    | bool =>
      have u1 : P.underlying t = some .bool := k.und
      simp only [Value.okWide, Cell.okWide, Cell.ok, u1] at hval
      cases v <;> first | rfl | exact hval.elim
    | slice e u =>
      have u1 := k.und.1
      simp only [Value.okWide, Cell.okWide, Cell.ok, u1] at hval
      cases v <;> first | rfl | exact hval.elim
    | arr n u => cases ha
    | unit => cases ha
    | pair a b => cases ha

end
end Go.Proofs.YtkoifikjfnbcpaaEv
