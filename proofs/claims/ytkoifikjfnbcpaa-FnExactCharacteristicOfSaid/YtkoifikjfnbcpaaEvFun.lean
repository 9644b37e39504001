/- A function as a whole. -/
import Derived.Test.YtkoifikjfnbcpaaEvCode
set_option linter.unusedVariables false
set_option linter.unusedSimpArgs false
namespace Go.Proofs.YtkoifikjfnbcpaaEv
open Go Go.RowKit

def boxInit (t : Ty) (x : t.den) : List Leaf :=
  match boxLeaves t [mkfz t 0 false x] with
  | some ls => ls
  | none => [mkfz t 0 false x]
/-- The slots when a function begins. -/
def initEnv : Nat → (ps : List PK) → Args ps → Env
  | _, [], _ => []
  | i, .v t :: r, x => (i, .val t.agg [mkfz t 0 false x.1]) :: initEnv (i + 1) r x.2
  | i, .p t :: r, x => (i, .box true (boxInit t x.1)) :: initEnv (i + 1) r x.2
  | i, .fn f :: r, x => (i, .fn f []) :: initEnv (i + 1) r x.2

def leavesOf (T : TTab) (env : Env) (rv : ResultVar) (t : Ty) : Option (List Leaf) :=
  match rv with
  | .tmp s => (match env.get s with
    | .val agg ls => bif (agg && t.agg) || (!agg && !t.agg) then some ls else none
    | _ => none)
  | .cell s ty => (match env.get s, tyOf T ty with
    | .box _ ls, some t' => bif t'.eqb t then some ls else none
    | _, _ => none)
def collect (T : TTab) (env : Env) : List ResultVar → (rs : List Ty) → Option (List (List Leaf) × Ress rs)
  | [], [] => some ([], ())
  | rv :: r, t :: ts => (match leavesOf T env rv t with
    | some ls => (match valAs t ls, collect T env r ts with
      | some x, some (lss, y) => some (ls :: lss, (x, y))
      | _, _ => none)
    | none => none)
  | _, _ => none

def regsOf : List Leaf → Option (List Nat)
  | [] => some []
  | .fz t reg lin _ :: r => bif t.flat then regsOf r else bif lin && !(Nat.beq reg 0) then (match regsOf r with | some l => some (reg :: l) | none => none) else none
  | .rt _ _ tag _ lin _ _ :: r => bif lin && !(Nat.beq tag 0) then (match regsOf r with | some l => some (tag :: l) | none => none) else none
def distinct : List Nat → Bool
  | [] => true
  | x :: r => !(memN r x) && distinct r
def freshOk (lss : List (List Leaf)) : Bool :=
  match regsOf lss.flatten with
  | some l => distinct l
  | none => false
def strictOk : List Ty → List (List Leaf) → Bool
  | .slice _ _ :: r, ls :: lss => (match ls with | [.rt _ _ _ _ _ true _] => true | [.rt _ _ _ _ _ false v] => !v.isEmpty | [.fz (.slice _ _) _ _ v] => !v.isEmpty | _ => false) && strictOk r lss
  | _ :: r, _ :: lss => strictOk r lss
  | _, _ => true

def litRes : List ResultVar → Env → Env
  | [], env => env
  | .tmp s :: r, env => litRes r (litArg env (.tmp s))
  | .cell _ _ :: r, env => litRes r env

def endK (T : TTab) (rvs : List ResultVar) (rs : List Ty) (fresh st : Bool) (env : Env) : Option (Ress rs) :=
  match collect T (litRes rvs env) rvs rs with
  | some (lss, y) => bif (!fresh || freshOk lss) && (!st || strictOk rs lss) then some y else none
  | none => none

/-- What a function's code comes to. -/
def fnK (T : TTab) (K : CTab) (H : List (Nat × List Nat)) (rs : List Ty) (LT : LTab (Ress rs)) (c : Code) (rvs : List ResultVar) (ps : List PK) (fresh st : Bool) (x : Args ps) : Option (Ress rs) :=
  evL T K H LT c (initEnv 0 ps x) (endK T rvs rs fresh st) (fun _ _ => none) (endK T rvs rs fresh st)

section
variable {P : Program} {T : TTab} {K : CTab} {n : NS} {w0 w : World} {W : Nat → Prop} {g : Gh} {a : Act}

theorem litRes_sound : ∀ {rvs : List ResultVar} {env : Env} {g : Gh}, (∀ b, W b → g.al b) → St n w0 W g env.get a w → ∃ g', g'.al = g.al ∧ St n w0 W g' (litRes rvs env).get a w
  | [], env, g, hw, st => ⟨g, rfl, st⟩
  | .tmp s :: r, env, g, hw, st => by
    obtain ⟨g1, q1, q2⟩ := litArg_sound (x := .tmp s) hw st
    obtain ⟨g2, q3, q4⟩ := litRes_sound (rvs := r) (fun b hb => by rw [q1]; exact hw b hb) q2
    exact ⟨g2, q3.trans q1, q4⟩
  | .cell s t :: r, env, g, hw, st => litRes_sound (rvs := r) hw st

def resOne (tmps : Array Value) : ResultVar → Sem Value
  | .tmp t => pure (tmps.getD t undef)
  | .cell a t => do loadVar t (← asAddr (tmps.getD a undef))

theorem leavesOf_sound {env : Env} {rv : ResultVar} {t : Ty} {ls : List Leaf} {y : t.den} (hT : TOK P T) (he : ∀ s, EntR g w.heap s (env.get s) (a.tmps.getD s undef)) (h : leavesOf T env rv t = some ls) (hy : valAs t ls = some y) :
    ∃ v, (resOne a.tmps rv).run P w = .ok v w ∧ ValR g w.heap t.agg ls v := by
  unfold leavesOf at h
  split at h
  · rename_i s
    split at h
    · rename_i agg ls' hg
      cases hq : ((agg && t.agg) || (!agg && !t.agg)) with
      | false => rw [hq] at h; cases h
      | true =>
        rw [hq] at h; injection h with h; subst h
        have e : agg = t.agg := by cases agg <;> cases ht : t.agg <;> simp [ht] at hq <;> rfl
        have := he s; rw [hg] at this
        exact ⟨_, rfl, by rw [← e]; exact this⟩
    · cases h
  · rename_i s ty
    split at h
    · rename_i ro ls' t' hg ht
      cases hq : t'.eqb t with
      | false => rw [hq] at h; cases h
      | true =>
        rw [hq] at h; injection h with h; subst h
        have := eqb_eq hq; subst this
        have hb := he s; rw [hg] at hb
        obtain ⟨b, c, e, fr, bs, h1, h2, h3, _⟩ := hb
        have k := hT _ _ ht
        have hl := h3.length
        have hz := valAs_size hy
        have hrd := valAs_rd hy h3
        have hsz : t'.size = c.toList.length := by omega
        refine ⟨_, ?_, ⟨c.toList, bs, rfl, fun ha => ?_, h3⟩⟩
        · simp only [resOne, h1]
          have ho : 0 + t'.size ≤ c.size := by rw [hsz]; simp
          have e1 : (asAddr (.pointer (some ⟨b, 0, none⟩))).run P w = .ok ⟨b, 0, none⟩ w := rfl
          simp only [Sem.run_bind, e1, Result.andThen_ok, run_loadVar k h2 ho]
          rw [List.drop_zero, hsz, List.take_length]
        · obtain ⟨v, hv1, hv2⟩ := hrd.one ha
          rw [hv1, ha]; exact ⟨rfl, hv2⟩
    · cases h

theorem valAs_shape {h : Mem} {t : Ty} {ls : List Leaf} {v : Value} {y : t.den} (hv : ValR g h t.agg ls v) (hy : valAs t ls = some y) : ∃ bs, LeavesB g h ls v.cells.toList bs ∧ OneV h t y v bs := by
  obtain ⟨bs, hl⟩ := ValR.cells hv
  exact ⟨bs, hl, valAs_rd hy hl, (ValR.shape hv).1, (ValR.shape hv).2⟩

theorem regs_append : ∀ {a b : List Leaf} {l : List Nat}, regsOf (a ++ b) = some l → ∃ l1 l2, regsOf a = some l1 ∧ regsOf b = some l2 ∧ l = l1 ++ l2
  | [], b, l, h => ⟨[], l, rfl, h, rfl⟩
  | .fz t reg lin v :: r, b, l, h => by
    simp only [List.cons_append, regsOf] at h ⊢
    cases hf : t.flat with
    | true => rw [hf] at h; exact regs_append h
    | false =>
      rw [hf] at h; simp only [cond_false] at h ⊢
      cases hq : (lin && !(Nat.beq reg 0)) with
      | false => rw [hq] at h; cases h
      | true =>
        rw [hq] at h; simp only [cond_true] at h ⊢
        split at h
        · rename_i l' hl
          injection h with h; subst h
          obtain ⟨l1, l2, q1, q2, q3⟩ := regs_append hl
          exact ⟨reg :: l1, l2, by rw [q1], q2, by rw [q3]; rfl⟩
        · cases h
  | .rt e t tag sub lin st v :: r, b, l, h => by
    simp only [List.cons_append, regsOf] at h ⊢
    cases hq : (lin && !(Nat.beq tag 0)) with
    | false => rw [hq] at h; cases h
    | true =>
      rw [hq] at h; simp only [cond_true] at h ⊢
      split at h
      · rename_i l' hl
        injection h with h; subst h
        obtain ⟨l1, l2, q1, q2, q3⟩ := regs_append hl
        exact ⟨tag :: l1, l2, by rw [q1], q2, by rw [q3]; rfl⟩
      · cases h

theorem distinct_nodup : ∀ {l : List Nat}, distinct l = true → l.Nodup
  | [], _ => List.nodup_nil
  | x :: r, h => by
    simp only [distinct, Bool.and_eq_true, Bool.not_eq_true'] at h
    refine List.nodup_cons.2 ⟨fun hm => ?_, distinct_nodup h.2⟩
    rw [memN_iff.2 hm] at h; cases h.1

theorem fresh_nodup {h : Mem} : ∀ {ls : List Leaf} {cs : List Value} {bs : List Nat} {l : List Nat}, LeavesB g h ls cs bs → regsOf ls = some l → l.Nodup → bs.Nodup ∧ ∀ b ∈ bs, g.own b ∈ l ∧ g.own b ≠ 0
  | [], cs, bs, l, ⟨_, h2⟩, _, _ => by subst h2; exact ⟨List.nodup_nil, fun b hb => (by cases hb)⟩
  | .fz t reg lin v :: r, cs, bs, l, ⟨b1, b2, h1, h2, h3⟩, hr, hn => by
    subst h3
    simp only [regsOf] at hr
    cases hf : t.flat with
    | true =>
      rw [hf] at hr
      have : b1 = [] := h1.1.flat hf
      subst this
      exact fresh_nodup h2 hr hn
    | false =>
      rw [hf] at hr; simp only [cond_false] at hr
      cases hq : (lin && !(Nat.beq reg 0)) with
      | false => rw [hq] at hr; cases hr
      | true =>
        rw [hq] at hr; simp only [cond_true] at hr
        simp only [Bool.and_eq_true, Bool.not_eq_true'] at hq
        split at hr
        · rename_i l' hl
          injection hr with hr; subst hr
          have hn' := List.nodup_cons.1 hn
          obtain ⟨p1, p2⟩ := fresh_nodup h2 hl hn'.2
          have o1 : ∀ b ∈ b1, g.own b = reg := h1.2.2.1 (nbeq_ne hq.2)
          refine ⟨List.nodup_append.2 ⟨h1.2.2.2 hq.1, p1, fun x hx z hz e => ?_⟩, fun b hb => ?_⟩
          · subst e; have := (p2 x hz).1; rw [o1 x hx] at this; exact hn'.1 this
          · rcases List.mem_append.1 hb with hb | hb
            · rw [o1 b hb]; exact ⟨by simp, nbeq_ne hq.2⟩
            · obtain ⟨z1, z2⟩ := p2 b hb; exact ⟨by simp [z1], z2⟩
        · cases hr
  | .rt e t tag sub lin st v :: r, cs, bs, l, ⟨b1, b2, h1, h2, h3⟩, hr, hn => by
    subst h3
    simp only [regsOf] at hr
    cases hq : (lin && !(Nat.beq tag 0)) with
    | false => rw [hq] at hr; cases hr
    | true =>
      rw [hq] at hr; simp only [cond_true] at hr
      simp only [Bool.and_eq_true, Bool.not_eq_true'] at hq
      split at hr
      · rename_i l' hl
        injection hr with hr; subst hr
        have hn' := List.nodup_cons.1 hn
        obtain ⟨p1, p2⟩ := fresh_nodup h2 hl hn'.2
        obtain ⟨hd, blk, bs', e1, e2, _, _, _, e5, e6, e7⟩ := h1
        subst e2
        obtain ⟨z1, z2⟩ := e7 hq.1
        have o1 : ∀ b ∈ blk.toList ++ bs', g.own b = tag := by
          intro b hb
          rcases List.mem_append.1 hb with hb | hb
          · exact (e6 b (by simpa using hb)).2.1
          · exact z1 b hb
        have nd1 : (blk.toList ++ bs').Nodup := by
          refine List.nodup_append.2 ⟨by cases blk <;> simp, z2, fun x hx y hy e => ?_⟩
          subst e
          have := (e6 x (by simpa using hx)).1
          rw [e5 x hy] at this; cases this
        refine ⟨List.nodup_append.2 ⟨nd1, p1, fun x hx z hz e => ?_⟩, fun b hb => ?_⟩
        · subst e; have := (p2 x hz).1; rw [o1 x hx] at this; exact hn'.1 this
        · rcases List.mem_append.1 hb with hb | hb
          · rw [o1 b hb]; exact ⟨by simp, nbeq_ne hq.2⟩
          · obtain ⟨z1, z2⟩ := p2 b hb; exact ⟨by simp [z1], z2⟩
      · cases hr

theorem LeavesB.mine {h : Mem} : ∀ {ls : List Leaf} {cs : List Value} {bs : List Nat}, LeavesB g h ls cs bs → ∀ b ∈ bs, g.kd b = .fz ∨ ∃ t, g.kd b = .mu t
  | [], cs, bs, ⟨_, h2⟩ => by subst h2; intro b hb; cases hb
  | l :: r, cs, bs, ⟨b1, b2, h1, h2, h3⟩ => by
    subst h3; intro b hb
    rcases List.mem_append.1 hb with hb | hb
    · exact h1.mine b hb
    · exact LeavesB.mine h2 b hb

theorem strict_one {h : Mem} {e : TypeId} {u : Ty} {e' : TypeId} {u' : Ty} {tag : Nat} {sub lin : Bool} {x : List u'.den} {v : Value} {y : List u.den} {cs : List Value} {bs : List Nat} (hl : LeavesB g h [.rt e' u' tag sub lin true x] cs bs)
    (hy : valAs (.slice e u) [.rt e' u' tag sub lin true x] = some y) (hc : v.cells = #[v]) (hcs : cs = v.cells.toList) : v = .slice none 0 0 ↔ y = [] := by
  have hl := hl.one
  obtain ⟨hd, blk, bs', e1, e2, _, e4, _⟩ := hl
  rw [hcs, hc] at e1
  injection e1 with e1 _
  rw [e1, e4 rfl]
  unfold valAs at hy
  simp only at hy
  cases hq : (Leaf.rt e' u' tag sub lin true x).ty.eqb (.slice e u) with
  | false => rw [hq] at hy; simp [valMany] at hy
  | true =>
    rw [hq] at hy; simp only [cond_true] at hy
    obtain ⟨ee, hy⟩ := Ty.cast_eq hy
    injection ee with ee1 ee2
    subst ee1; subst ee2
    have hy : x = y := hy
    rw [hy]

theorem strict_ne {h : Mem} {e : TypeId} {u : Ty} {y : List u.den} {v : Value} {bs : List Nat} (ho : OneV h (.slice e u) y v bs) (hy : y ≠ []) : v = .slice none 0 0 ↔ y = [] := by
  constructor
  · intro hv
    obtain ⟨⟨hd, blk, bs', h1, h2, _⟩, _, h3⟩ := ho
    rw [h3 rfl] at h1
    injection h1 with h1 _
    rcases h2 with ⟨_, q, _⟩ | ⟨b, o, cap, c, fr, q, _⟩
    · exact q
    · rw [← h1, hv] at q; cases q
  · intro q; exact absurd q hy
theorem valAs_len {e : TypeId} {u : Ty} {l : Leaf} {y : List u.den} {m : Nat} (hy : valAs (.slice e u) [l] = some y) (hm : lenL l = some m) : y.length = m := by
  unfold valAs at hy
  simp only at hy
  cases hq : l.ty.eqb (.slice e u) with
  | false => rw [hq] at hy; simp [valMany] at hy
  | true =>
    rw [hq] at hy; simp only [cond_true] at hy
    obtain ⟨ee, hy⟩ := Ty.cast_eq hy
    cases l with
    | rt e' u' tag sub lin st x =>
      injection ee with ee1 ee2
      subst ee1; subst ee2
      have hy : x = y := hy
      subst hy
      simpa [lenL] using hm
    | fz t reg lin x =>
      have ee : t = .slice e u := ee
      subst ee
      have hy : x = y := hy
      subst hy
      simpa [lenL] using hm

theorem collect_sound {env : Env} {st : Bool} (hT : TOK P T) (he : ∀ s, EntR g w.heap s (env.get s) (a.tmps.getD s undef)) : ∀ {rvs : List ResultVar} {rs : List Ty} {lss : List (List Leaf)} {y : Ress rs}, collect T env rvs rs = some (lss, y) → (st = true → strictOk rs lss = true) →
    ∃ vs bs, (rvs.mapM (resOne a.tmps)).run P w = .ok vs w ∧ ResV w.heap st rs y vs bs ∧ (∀ b ∈ bs, g.kd b = .fz ∨ ∃ t, g.kd b = .mu t) ∧ ∃ cs, LeavesB g w.heap lss.flatten cs bs
  | [], [], lss, y, h, hs => by
    simp only [collect, Option.some.injEq, Prod.mk.injEq] at h
    obtain ⟨rfl, -⟩ := h
    exact ⟨[], [], rfl, ⟨rfl, rfl⟩, fun b hb => (by cases hb), [], rfl, rfl⟩
  | rv :: r, t :: ts, lss, y, h, hs => by
    simp only [collect] at h
    split at h
    · rename_i ls hls
      split at h
      · rename_i x lss' y' hx hr
        simp only [Option.some.injEq, Prod.mk.injEq] at h
        obtain ⟨rfl, rfl⟩ := h
        obtain ⟨v, q1, q2⟩ := leavesOf_sound hT he hls hx
        obtain ⟨b1, q3, q4⟩ := valAs_shape q2 hx
        have hs' : st = true → strictOk ts lss' = true := by
          intro hst
          have := hs hst
          cases t <;> simp only [strictOk, Bool.and_eq_true] at this <;> first | exact this.2 | exact this
        obtain ⟨vs, bs, z1, z2, z3, cs, z4⟩ := collect_sound (st := st) hT he hr hs'
        refine ⟨v :: vs, b1 ++ bs, ?_, ⟨v, vs, b1, bs, rfl, q4, fun hst => ?_, z2, rfl⟩, fun b hb => ?_, v.cells.toList ++ cs, ?_⟩
        · rw [List.mapM_cons]
          simp only [Sem.run_bind, q1, Result.andThen_ok, z1, Sem.run_pure]
        · have hh := hs hst
          cases t with
          | slice e u =>
            simp only [strictOk, Bool.and_eq_true] at hh
            obtain ⟨hh, _⟩ := hh
            split at hh
            · exact strict_one q3 hx (q4.2.2 rfl) rfl
            · refine strict_ne q4 fun hy => ?_
              have := valAs_len hx (m := _) rfl
              rw [show x = [] from hy] at this
              simp only [Bool.not_eq_true', List.isEmpty_eq_false_iff] at hh
              exact hh (List.eq_nil_of_length_eq_zero this.symm)
            · refine strict_ne q4 fun hy => ?_
              have := valAs_len hx (m := _) rfl
              rw [show x = [] from hy] at this
              simp only [Bool.not_eq_true', List.isEmpty_eq_false_iff] at hh
              exact hh (List.eq_nil_of_length_eq_zero this.symm)
            · cases hh
          | _ => trivial
        · rcases List.mem_append.1 hb with hb | hb
          · exact q3.mine b hb
          · exact z3 b hb
        · simp only [List.flatten_cons]
          have app : ∀ {ls rest : List Leaf} {cs cs' : List Value} {b1 b2 : List Nat}, LeavesB g w.heap ls cs b1 → LeavesB g w.heap rest cs' b2 → LeavesB g w.heap (ls ++ rest) (cs ++ cs') (b1 ++ b2) := by
            intro ls
            induction ls with
            | nil => rintro rest cs cs' b1 b2 ⟨rfl, rfl⟩ h; simpa using h
            | cons l ls ih =>
              rintro rest cs cs' b1 b2 ⟨c1, c2, k1, k2, rfl⟩ k3
              have hlen : l.ty.size ≤ cs.length := by have := k1.rd.length; simp at this; omega
              rw [List.append_assoc]
              refine ⟨c1, c2 ++ b2, ?_, ?_, rfl⟩
              · rw [List.take_append_of_le_length hlen]; exact k1
              · rw [List.drop_append_of_le_length hlen]; exact ih k2 k3
          exact app q3 z4
      · cases h
    · cases h
  | [], _ :: _, _, _, h, _ => by cases h
  | _ :: _, [], _, _, h, _ => by cases h

end
end Go.Proofs.YtkoifikjfnbcpaaEv
