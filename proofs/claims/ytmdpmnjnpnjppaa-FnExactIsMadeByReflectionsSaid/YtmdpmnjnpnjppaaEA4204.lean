/- The program's operations on plain typed data, that the machine does the same, what the functions come to, and what they give (part 4). No condition. -/
import Derived.Test.YtmdpmnjnpnjppaaEA4203
set_option linter.unusedVariables false
set_option linter.unusedSimpArgs false
namespace Go.Proofs.YtmdpmnjnpnjppaaEv
open Go Go.RowKit
def boxInit (t : Ty) (x : t.den) : List Leaf :=
  match boxLeaves t [mkfz t 0 true x] with
  | some ls => ls
  | none => [mkfz t 0 true x]
def initEnv : Nat → (ps : List PK) → Args ps → Env
  | _, [], _ => []
  | i, .v t :: r, x => (i, .val t.agg [mkfz t 0 true x.1]) :: initEnv (i + 1) r x.2
  | i, .p t :: r, x => (i, .box true (boxInit t x.1)) :: initEnv (i + 1) r x.2
  | i, .fn f :: r, x => (i, .fn f []) :: initEnv (i + 1) r x.2
  | i, .m _ _ :: r, x => (i, .dead) :: initEnv (i + 1) r x.2
def leavesOf (T : TTab) (env : Env) (rv : ResultVar) (t : Ty) : Option (List Leaf) :=
  match rv with
  | .tmp s => (match env.get s with
    | .val agg ls => bif (agg && t.agg) || (!agg && !t.agg) then some ls else none
    | _ => none)
  | .cell s ty => (match env.get s, tyOf T ty with
    | .box _ ls, some t' => bif t'.eqb t then some ls else none
    | _, _ => none)
def collect (T : TTab) (env : Env) : List ResultVar → (rs : List Ty) → Option (List (List Leaf) × Ress rs)
  | [], [] => some ([], ())
  | rv :: r, t :: ts => (match leavesOf T env rv t with
    | some ls => (match valAs t ls, collect T env r ts with
      | some x, some (lss, y) => some (ls :: lss, (x, y))
      | _, _ => none)
    | none => none)
  | _, _ => none
def regsOf : List Leaf → Option (List Nat)
  | [] => some []
  | .fz t reg lin _ :: r => bif t.flat then regsOf r else bif lin && !(Nat.beq reg 0) then (match regsOf r with | some l => some (reg :: l) | none => none) else none
  | .rt _ _ tag _ lin _ _ :: r => bif lin && !(Nat.beq tag 0) then (match regsOf r with | some l => some (tag :: l) | none => none) else none
def distinct : List Nat → Bool
  | [] => true
  | x :: r => !(memN r x) && distinct r
def freshOk (lss : List (List Leaf)) : Bool :=
  match regsOf lss.flatten with
  | some l => distinct l
  | none => false
def strictOk : List Ty → List (List Leaf) → Bool
  | .slice _ _ :: r, ls :: lss => (match ls with | [.rt _ _ _ _ _ true _] => true | [.rt _ _ _ _ _ false v] => !v.isEmpty | [.fz (.slice _ _) _ _ v] => !v.isEmpty | _ => false) && strictOk r lss
  | _ :: r, _ :: lss => strictOk r lss
  | _, _ => true
def litRes : List ResultVar → Env → Env
  | [], env => env
  | .tmp s :: r, env => litRes r (litArg env (.tmp s))
  | .cell _ _ :: r, env => litRes r env
def endK (T : TTab) (rvs : List ResultVar) (rs : List Ty) (fresh st : Bool) (env : Env) : Option (Ress rs) :=
  match collect T (litRes rvs env) rvs rs with
  | some (lss, y) => bif (!fresh || freshOk lss) && (!st || strictOk rs lss) then some y else none
  | none => none
def fnK (T : TTab) (K : CTab) (H : List (Nat × List Nat)) (rs : List Ty) (LT : LTab (Ress rs)) (c : Code) (rvs : List ResultVar) (ps : List PK) (fresh st : Bool) (x : Args ps) : Option (Ress rs) :=
  evL T K H LT c (initEnv 0 ps x) (endK T rvs rs fresh st) (fun _ _ => none) (endK T rvs rs fresh st)
section
variable {P : Program} {T : TTab} {K : CTab} {n : NS} {w0 w : World} {W : Nat → Prop} {g : Gh} {a : Act}
theorem litRes_sound : ∀ {rvs : List ResultVar} {env : Env} {g : Gh}, (∀ b, W b → g.al b) → St n w0 W g env.get a w → ∃ g', g'.al = g.al ∧ St n w0 W g' (litRes rvs env).get a w
  | [], env, g, hw, st => ⟨g, rfl, st⟩
  | .tmp s :: r, env, g, hw, st => by
    obtain ⟨g1, q1, q2⟩ := litArg_sound (x := .tmp s) hw st
    obtain ⟨g2, q3, q4⟩ := litRes_sound (rvs := r) (fun b hb => by rw [q1]; exact hw b hb) q2
    exact ⟨g2, q3.trans q1, q4⟩
  | .cell s t :: r, env, g, hw, st => litRes_sound (rvs := r) hw st
def resOne (tmps : Array Value) : ResultVar → Sem Value
  | .tmp t => pure (tmps.getD t undef)
  | .cell a t => do loadVar t (← asAddr (tmps.getD a undef))
theorem leavesOf_sound {env : Env} {rv : ResultVar} {t : Ty} {ls : List Leaf} {y : t.den} (hT : TOK P T) (he : ∀ s, EntR g w.heap s (env.get s) (a.tmps.getD s undef)) (h : leavesOf T env rv t = some ls) (hy : valAs t ls = some y) :
    ∃ v, (resOne a.tmps rv).run P w = .ok v w ∧ ValR g w.heap t.agg ls v := by
  unfold leavesOf at h
  split at h
  · rename_i s
    split at h
    · rename_i agg ls' hg
      cases hq : ((agg && t.agg) || (!agg && !t.agg)) with
      | false => rw [hq] at h; cases h
      | true =>
        rw [hq] at h; injection h with h; subst h
        have e : agg = t.agg := by cases agg <;> cases ht : t.agg <;> simp [ht] at hq <;> rfl
        have := he s; rw [hg] at this
        exact ⟨_, rfl, by rw [← e]; exact this⟩
    · cases h
  · rename_i s ty
    split at h
    · rename_i ro ls' t' hg ht
      cases hq : t'.eqb t with
      | false => rw [hq] at h; cases h
      | true =>
        rw [hq] at h; injection h with h; subst h
        have := eqb_eq hq; subst this
        have hb := he s; rw [hg] at hb
        obtain ⟨b, c, e, fr, bs, h1, h2, h3, _⟩ := hb
        have k := hT _ _ ht
        have hl := h3.length
        have hz := valAs_size hy
        have hrd := valAs_rd hy h3
        have hsz : t'.size = c.toList.length := by omega
        refine ⟨_, ?_, ⟨c.toList, bs, rfl, fun ha => ?_, h3⟩⟩
        · simp only [resOne, h1]
          have ho : 0 + t'.size ≤ c.size := by rw [hsz]; simp
          have e1 : (asAddr (.pointer (some ⟨b, 0, none⟩))).run P w = .ok ⟨b, 0, none⟩ w := rfl
          simp only [Sem.run_bind, e1, Result.andThen_ok, run_loadVar k h2 ho]
          rw [List.drop_zero, hsz, List.take_length]
        · obtain ⟨v, hv1, hv2⟩ := hrd.one ha
          rw [hv1, ha]; exact ⟨rfl, hv2⟩
    · cases h
theorem valAs_shape {h : Mem} {t : Ty} {ls : List Leaf} {v : Value} {y : t.den} (hv : ValR g h t.agg ls v) (hy : valAs t ls = some y) : ∃ bs, LeavesB g h ls v.cells.toList bs ∧ OneV h t y v bs := by
  obtain ⟨bs, hl⟩ := ValR.cells hv
  exact ⟨bs, hl, valAs_rd hy hl, (ValR.shape hv).1, (ValR.shape hv).2⟩
theorem distinct_nodup : ∀ {l : List Nat}, distinct l = true → l.Nodup
  | [], _ => List.nodup_nil
  | x :: r, h => by
    simp only [distinct, Bool.and_eq_true, Bool.not_eq_true'] at h
    refine List.nodup_cons.2 ⟨fun hm => ?_, distinct_nodup h.2⟩
    rw [memN_iff.2 hm] at h; cases h.1
theorem fresh_nodup {h : Mem} : ∀ {ls : List Leaf} {cs : List Value} {bs : List Nat} {l : List Nat}, LeavesB g h ls cs bs → regsOf ls = some l → l.Nodup → bs.Nodup ∧ ∀ b ∈ bs, g.own b ∈ l ∧ g.own b ≠ 0
  | [], cs, bs, l, ⟨_, h2⟩, _, _ => by subst h2; exact ⟨List.nodup_nil, fun b hb => (by cases hb)⟩
  | .fz t reg lin v :: r, cs, bs, l, ⟨b1, b2, h1, h2, h3⟩, hr, hn => by
    subst h3
    simp only [regsOf] at hr
    cases hf : t.flat with
    | true =>
      rw [hf] at hr
      have : b1 = [] := h1.1.flat hf
      subst this
      exact fresh_nodup h2 hr hn
    | false =>
      rw [hf] at hr; simp only [cond_false] at hr
      cases hq : (lin && !(Nat.beq reg 0)) with
      | false => rw [hq] at hr; cases hr
      | true =>
        rw [hq] at hr; simp only [cond_true] at hr
        simp only [Bool.and_eq_true, Bool.not_eq_true'] at hq
        split at hr
        · rename_i l' hl
          injection hr with hr; subst hr
          have hn' := List.nodup_cons.1 hn
          obtain ⟨p1, p2⟩ := fresh_nodup h2 hl hn'.2
          have o1 : ∀ b ∈ b1, g.own b = reg := h1.2.2.1 (nbeq_ne hq.2)
          refine ⟨List.nodup_append.2 ⟨(h1.2.2.2 hq.1).1 (nbeq_ne hq.2), p1, fun x hx z hz e => ?_⟩, fun b hb => ?_⟩
          · subst e; have := (p2 x hz).1; rw [o1 x hx] at this; exact hn'.1 this
          · rcases List.mem_append.1 hb with hb | hb
            · rw [o1 b hb]; exact ⟨by simp, nbeq_ne hq.2⟩
            · obtain ⟨z1, z2⟩ := p2 b hb; exact ⟨by simp [z1], z2⟩
        · cases hr
  | .rt e t tag sub lin st v :: r, cs, bs, l, ⟨b1, b2, h1, h2, h3⟩, hr, hn => by
    subst h3
    simp only [regsOf] at hr
    cases hq : (lin && !(Nat.beq tag 0)) with
    | false => rw [hq] at hr; cases hr
    | true =>
      rw [hq] at hr; simp only [cond_true] at hr
      simp only [Bool.and_eq_true, Bool.not_eq_true'] at hq
      split at hr
      · rename_i l' hl
        injection hr with hr; subst hr
        have hn' := List.nodup_cons.1 hn
        obtain ⟨p1, p2⟩ := fresh_nodup h2 hl hn'.2
        obtain ⟨hd, blk, bs', e1, e2, _, _, _, e5, e6, e7⟩ := h1
        subst e2
        obtain ⟨z1, z2⟩ := e7 hq.1
        have o1 : ∀ b ∈ blk.toList ++ bs', g.own b = tag := by
          intro b hb
          rcases List.mem_append.1 hb with hb | hb
          · exact (e6 b (by simpa using hb)).2.1
          · exact z1 b hb
        have nd1 : (blk.toList ++ bs').Nodup := by
          refine List.nodup_append.2 ⟨by cases blk <;> simp, z2, fun x hx y hy e => ?_⟩
          subst e
          have := (e6 x (by simpa using hx)).1
          rw [e5 x hy] at this; cases this
        refine ⟨List.nodup_append.2 ⟨nd1, p1, fun x hx z hz e => ?_⟩, fun b hb => ?_⟩
        · subst e; have := (p2 x hz).1; rw [o1 x hx] at this; exact hn'.1 this
        · rcases List.mem_append.1 hb with hb | hb
          · rw [o1 b hb]; exact ⟨by simp, nbeq_ne hq.2⟩
          · obtain ⟨z1, z2⟩ := p2 b hb; exact ⟨by simp [z1], z2⟩
      · cases hr
theorem LeavesB.mine {h : Mem} : ∀ {ls : List Leaf} {cs : List Value} {bs : List Nat}, LeavesB g h ls cs bs → ∀ b ∈ bs, g.kd b = .fz ∨ ∃ t, g.kd b = .mu t
  | [], cs, bs, ⟨_, h2⟩ => by subst h2; intro b hb; cases hb
  | l :: r, cs, bs, ⟨b1, b2, h1, h2, h3⟩ => by
    subst h3; intro b hb
    rcases List.mem_append.1 hb with hb | hb
    · exact h1.mine b hb
    · exact LeavesB.mine h2 b hb
theorem strict_one {h : Mem} {e : TypeId} {u : Ty} {e' : TypeId} {u' : Ty} {tag : Nat} {sub lin : Bool} {x : List u'.den} {v : Value} {y : List u.den} {cs : List Value} {bs : List Nat} (hl : LeavesB g h [.rt e' u' tag sub lin true x] cs bs)
    (hy : valAs (.slice e u) [.rt e' u' tag sub lin true x] = some y) (hc : v.cells = #[v]) (hcs : cs = v.cells.toList) : v = .slice none 0 0 ↔ y = [] := by
  have hl := hl.one
  obtain ⟨hd, blk, bs', e1, e2, _, e4, _⟩ := hl
  rw [hcs, hc] at e1
  injection e1 with e1 _
  rw [e1, e4 rfl]
  unfold valAs at hy
  simp only at hy
  cases hq : (Leaf.rt e' u' tag sub lin true x).ty.eqb (.slice e u) with
  | false => rw [hq] at hy; simp [valMany] at hy
  | true =>
    rw [hq] at hy; simp only [cond_true] at hy
    obtain ⟨ee, hy⟩ := Ty.cast_eq hy
    injection ee with ee1 ee2
    subst ee1; subst ee2
    have hy : x = y := hy
    rw [hy]
theorem strict_ne {h : Mem} {e : TypeId} {u : Ty} {y : List u.den} {v : Value} {bs : List Nat} (ho : OneV h (.slice e u) y v bs) (hy : y ≠ []) : v = .slice none 0 0 ↔ y = [] := by
  constructor
  · intro hv
    obtain ⟨⟨hd, blk, bs', h1, h2, _⟩, _, h3⟩ := ho
    rw [h3 rfl] at h1
    injection h1 with h1 _
    rcases h2 with ⟨_, _, q, _⟩ | ⟨b, o, cap, c, fr, q, _⟩
    · exact q
    · rw [← h1, hv] at q; cases q
  · intro q; exact absurd q hy
theorem valAs_len {e : TypeId} {u : Ty} {l : Leaf} {y : List u.den} {m : Nat} (hy : valAs (.slice e u) [l] = some y) (hm : lenL l = some m) : y.length = m := by
  unfold valAs at hy
  simp only at hy
  cases hq : l.ty.eqb (.slice e u) with
  | false => rw [hq] at hy; simp [valMany] at hy
  | true =>
    rw [hq] at hy; simp only [cond_true] at hy
    obtain ⟨ee, hy⟩ := Ty.cast_eq hy
    cases l with
    | rt e' u' tag sub lin st x =>
      injection ee with ee1 ee2
      subst ee1; subst ee2
      have hy : x = y := hy
      subst hy
      simpa [lenL] using hm
    | fz t reg lin x =>
      have ee : t = .slice e u := ee
      subst ee
      have hy : x = y := hy
      subst hy
      simpa [lenL] using hm
theorem collect_sound {env : Env} {st : Bool} (hT : TOK P T) (he : ∀ s, EntR g w.heap s (env.get s) (a.tmps.getD s undef)) : ∀ {rvs : List ResultVar} {rs : List Ty} {lss : List (List Leaf)} {y : Ress rs}, collect T env rvs rs = some (lss, y) → (st = true → strictOk rs lss = true) →
    ∃ vs bs, (rvs.mapM (resOne a.tmps)).run P w = .ok vs w ∧ ResV w.heap st rs y vs bs ∧ (∀ b ∈ bs, g.kd b = .fz ∨ ∃ t, g.kd b = .mu t) ∧ ∃ cs, LeavesB g w.heap lss.flatten cs bs
  | [], [], lss, y, h, hs => by
    simp only [collect, Option.some.injEq, Prod.mk.injEq] at h
    obtain ⟨rfl, -⟩ := h
    exact ⟨[], [], rfl, ⟨rfl, rfl⟩, fun b hb => (by cases hb), [], rfl, rfl⟩
  | rv :: r, t :: ts, lss, y, h, hs => by
    simp only [collect] at h
    split at h
    · rename_i ls hls
      split at h
      · rename_i x lss' y' hx hr
        simp only [Option.some.injEq, Prod.mk.injEq] at h
        obtain ⟨rfl, rfl⟩ := h
        obtain ⟨v, q1, q2⟩ := leavesOf_sound hT he hls hx
        obtain ⟨b1, q3, q4⟩ := valAs_shape q2 hx
        have hs' : st = true → strictOk ts lss' = true := by
          intro hst
          have := hs hst
          cases t <;> simp only [strictOk, Bool.and_eq_true] at this <;> first | exact this.2 | exact this
        obtain ⟨vs, bs, z1, z2, z3, cs, z4⟩ := collect_sound (st := st) hT he hr hs'
        refine ⟨v :: vs, b1 ++ bs, ?_, ⟨v, vs, b1, bs, rfl, q4, fun hst => ?_, z2, rfl⟩, fun b hb => ?_, v.cells.toList ++ cs, ?_⟩
        · rw [List.mapM_cons]
          simp only [Sem.run_bind, q1, Result.andThen_ok, z1, Sem.run_pure]
        · have hh := hs hst
          cases t with
          | slice e u =>
            simp only [strictOk, Bool.and_eq_true] at hh
            obtain ⟨hh, _⟩ := hh
            split at hh
            · exact strict_one q3 hx (q4.2.2 rfl) rfl
            · refine strict_ne q4 fun hy => ?_
              have := valAs_len hx (m := _) rfl
              rw [show x = [] from hy] at this
              simp only [Bool.not_eq_true', List.isEmpty_eq_false_iff] at hh
              exact hh (List.eq_nil_of_length_eq_zero this.symm)
            · refine strict_ne q4 fun hy => ?_
              have := valAs_len hx (m := _) rfl
              rw [show x = [] from hy] at this
              simp only [Bool.not_eq_true', List.isEmpty_eq_false_iff] at hh
              exact hh (List.eq_nil_of_length_eq_zero this.symm)
            · cases hh
          | _ => trivial
        · rcases List.mem_append.1 hb with hb | hb
          · exact q3.mine b hb
          · exact z3 b hb
        · simp only [List.flatten_cons]
          have app : ∀ {ls rest : List Leaf} {cs cs' : List Value} {b1 b2 : List Nat}, LeavesB g w.heap ls cs b1 → LeavesB g w.heap rest cs' b2 → LeavesB g w.heap (ls ++ rest) (cs ++ cs') (b1 ++ b2) := by
            intro ls
            induction ls with
            | nil => rintro rest cs cs' b1 b2 ⟨rfl, rfl⟩ h; simpa using h
            | cons l ls ih =>
              rintro rest cs cs' b1 b2 ⟨c1, c2, k1, k2, rfl⟩ k3
              have hlen : l.ty.size ≤ cs.length := by have := k1.rd.length; simp at this; omega
              rw [List.append_assoc]
              refine ⟨c1, c2 ++ b2, ?_, ?_, rfl⟩
              · rw [List.take_append_of_le_length hlen]; exact k1
              · rw [List.drop_append_of_le_length hlen]; exact ih k2 k3
          exact app q3 z4
      · cases h
    · cases h
  | [], _ :: _, _, _, h, _ => by cases h
  | _ :: _, [], _, _, h, _ => by cases h
end
section
variable {P : Program} {T : TTab} {K : CTab} {H : List (Nat × List Nat)} {n : NS} {w0 w : World} {W : Nat → Prop} {g : Gh} {a : Act}
def blkOf : Value → Nat
  | .pointer (some ⟨b, _, _⟩) => b
  | _ => 0
open Classical in
noncomputable def gh0 (w : World) (vs : List Value) (ba : List Nat) : Gh where
  kd b := if w.heap.size ≤ b ∨ b ∈ ba then .fz else .no
  own _ := 0
  H _ := undef
  bx s := blkOf (vs.getD s undef)
  al b := b ∈ ba
  mt _ := (.unit, .unit)
theorem mkfz_old {h : Mem} (t : Ty) (v : t.den) {cs : List Value} {bs : List Nat} (hr : Rd h t v cs bs) (hk : ∀ b ∈ bs, g.kd b = .fz) (ho : ∀ b ∈ bs, g.own b = 0) : LeavesB g h [mkfz t 0 true v] cs bs :=
  (mkfz_B hr hk (fun q => absurd rfl q) (fun _ => ⟨fun q => absurd rfl q, fun _ => ho⟩)).many
theorem boxInit_B {h : Mem} {t : Ty} {x : t.den} {cs : List Value} {bs : List Nat} (hr : Rd h t x cs bs) (hk : ∀ b ∈ bs, g.kd b = .fz) (ho : ∀ b ∈ bs, g.own b = 0) : LeavesB g h (boxInit t x) cs bs := by
  have h0 := mkfz_old t x hr hk ho
  unfold boxInit
  split
  · rename_i ls hls; exact (boxLeaves_B hls h0).1
  · exact h0
theorem ArgsV.blocks {h : Mem} : ∀ {ps : List PK} {x : Args ps} {vs : List Value} {ba : List Nat}, ArgsV h ps x vs ba → vs.length = ps.length
  | [], x, vs, ba, ⟨h1, _⟩ => by subst h1; rfl
  | .v t :: r, x, vs, ba, hh => by obtain ⟨v, vr, b1, b2, h1, _, _, h4⟩ := hh; subst h1; simp [ArgsV.blocks h4]
  | .p t :: r, x, vs, ba, hh => by obtain ⟨b, vr, c, e, fr, b1, b2, h1, _, _, _, h4⟩ := hh; subst h1; simp [ArgsV.blocks h4]
  | .fn f :: r, x, vs, ba, hh => by obtain ⟨vr, h1, h4⟩ := hh; subst h1; simp [ArgsV.blocks h4]
  | .m kt vt :: r, x, vs, ba, hh => by obtain ⟨b, vr, es, c, h1, _, _, h4⟩ := hh; subst h1; simp [ArgsV.blocks h4]
theorem init_ent {w : World} {all : List Value} {bal : List Nat} {tm : Nat → Value} : ∀ {ps : List PK} {x : Args ps} {vs : List Value} {ba : List Nat} {i : Nat}, ArgsV w.heap ps x vs ba → (∀ j, j < vs.length → tm (i + j) = vs.getD j undef) → (∀ j, all.getD (i + j) undef = vs.getD j undef) → (∀ b ∈ ba, b ∈ bal) →
    ∀ s, EntR (gh0 w all bal) w.heap s ((initEnv i ps x).get s) (tm s)
  | [], x, vs, ba, i, _, _, _, _, s => trivial
  | .v t :: r, x, vs, ba, i, hh, ht, ha, hb, s => by
    obtain ⟨v, vr, b1, b2, h1, h2, h3, h4⟩ := hh
    subst h1; subst h2
    simp only [initEnv, Env.get]
    cases hq : Nat.beq i s with
    | true =>
      have := Nat.eq_of_beq_eq_true hq; subst this
      have hv : tm i = v := by have := ht 0 (by simp); simpa using this
      rw [hv]
      refine leaves_of (mkfz_old t x.1 h3.1 (fun b hb' => ?_) (fun _ _ => rfl)) h3.2.1 h3.2.2
      simp only [gh0]; rw [if_pos (.inr (hb b (List.mem_append_left _ hb')))]
    | false =>
      refine init_ent (i := i + 1) h4 (fun j hj => ?_) (fun j => ?_) (fun b hb' => hb b (List.mem_append_right _ hb')) s
      · have := ht (j + 1) (by simpa using hj); rw [show i + 1 + j = i + (j + 1) by omega]; simpa using this
      · have := ha (j + 1); rw [show i + 1 + j = i + (j + 1) by omega]; simpa using this
  | .p t :: r, x, vs, ba, i, hh, ht, ha, hb, s => by
    obtain ⟨b, vr, c, e, fr, b1, b2, h1, h2, h3, h3', h4⟩ := hh
    subst h1; subst h2
    simp only [initEnv, Env.get]
    cases hq : Nat.beq i s with
    | true =>
      have := Nat.eq_of_beq_eq_true hq; subst this
      have hv : tm i = .pointer (some ⟨b, 0, none⟩) := by have := ht 0 (by simp); simpa using this
      rw [hv]
      refine ⟨b, c, e, fr, b1, rfl, h3, boxInit_B h3' (fun b hb' => ?_) (fun _ _ => rfl), ?_, fun q => (by cases q), fun _ => ?_⟩
      · simp only [gh0]; rw [if_pos (.inr (hb b (List.mem_append_left _ hb')))]
      · have := ha 0; simp only [Nat.add_zero] at this
        simp only [gh0, this]; rfl
      · simp only [gh0]
        split
        · exact .inl rfl
        · exact .inr rfl
    | false =>
      refine init_ent (i := i + 1) h4 (fun j hj => ?_) (fun j => ?_) (fun b hb' => hb b (List.mem_append_right _ hb')) s
      · have := ht (j + 1) (by simpa using hj); rw [show i + 1 + j = i + (j + 1) by omega]; simpa using this
      · have := ha (j + 1); rw [show i + 1 + j = i + (j + 1) by omega]; simpa using this
  | .fn f :: r, x, vs, ba, i, hh, ht, ha, hb, s => by
    obtain ⟨vr, h1, h4⟩ := hh
    subst h1
    simp only [initEnv, Env.get]
    cases hq : Nat.beq i s with
    | true =>
      have := Nat.eq_of_beq_eq_true hq; subst this
      have hv : tm i = .func (.func f) #[] #[] := by have := ht 0 (by simp); simpa using this
      rw [hv]; rfl
    | false =>
      refine init_ent (i := i + 1) h4 (fun j hj => ?_) (fun j => ?_) hb s
      · have := ht (j + 1) (by simpa using hj); rw [show i + 1 + j = i + (j + 1) by omega]; simpa using this
      · have := ha (j + 1); rw [show i + 1 + j = i + (j + 1) by omega]; simpa using this
  | .m kt vt :: r, x, vs, ba, i, hh, ht, ha, hb, s => by
    obtain ⟨b, vr, es, c, h1, _, _, h4⟩ := hh
    subst h1
    simp only [initEnv, Env.get]
    cases hq : Nat.beq i s with
    | true => trivial
    | false =>
      refine init_ent (i := i + 1) h4 (fun j hj => ?_) (fun j => ?_) hb s
      · have := ht (j + 1) (by simpa using hj); rw [show i + 1 + j = i + (j + 1) by omega]; simpa using this
      · have := ha (j + 1); rw [show i + 1 + j = i + (j + 1) by omega]; simpa using this
theorem init_St {w : World} {ps : List PK} {x : Args ps} {vs : List Value} {ba : List Nat} {n : Nat} (hv : ArgsV w.heap ps x vs ba) (hn : ps.length ≤ n) :
    St ⟨n, false, undef⟩ w (fun _ => False) (gh0 w vs ba) (initEnv 0 ps x).get { tmps := vs.toArray ++ Array.replicate (n - vs.toArray.size) undef, defers := [] } w where
  inv := by
    refine ⟨Nat.le_refl _, fun b _ _ => rfl, fun b => ?_, fun b hb => ?_, fun b hb => ?_, fun b hb => absurd rfl hb, fun b hb => absurd rfl hb⟩
    · simp only [gh0]
      split
      · exact .inl rfl
      · exact .inr (.inl rfl)
    · simp only [gh0] at hb
      split at hb
      · cases hb
      · rename_i h; exact Nat.lt_of_not_le fun q => h (.inl q)
    · simp only [gh0] at hb
      split at hb
      · rename_i h; exact h
      · cases hb
  ent := by
    refine init_ent hv (fun j hj => ?_) (fun j => by simp) (fun b hb => hb)
    simp only [Nat.zero_add]
    rw [Array.getD_eq_getD_getElem?, Array.getElem?_append_left (by simpa using hj), List.getElem?_toArray, List.getD_eq_getElem?_getD]
  sz := by
    have := ArgsV.blocks hv
    exact ⟨by simp; omega, fun h => (by cases h)⟩
  df := rfl
  os := rfl
  tape := Tp.refl
  output := rfl
theorem endK_inv {rvs : List ResultVar} {rs : List Ty} {fresh st : Bool} {env : Env} {y : Ress rs} (h : endK T rvs rs fresh st env = some y) : ∃ lss, collect T (litRes rvs env) rvs rs = some (lss, y) ∧ (fresh = true → freshOk lss = true) ∧ (st = true → strictOk rs lss = true) := by
  unfold endK at h
  split at h
  · rename_i lss y' hc
    cases hq : ((!fresh || freshOk lss) && (!st || strictOk rs lss)) with
    | false => rw [hq] at h; cases h
    | true =>
      rw [hq] at h; injection h with h; subst h
      simp only [Bool.and_eq_true, Bool.or_eq_true, Bool.not_eq_true'] at hq
      exact ⟨lss, hc, fun hf => hq.1.resolve_left (by rw [hf]; simp), fun hf => hq.2.resolve_left (by rw [hf]; simp)⟩
  · cases h
theorem retV_of (vs : List Value) : (if h : vs.toArray.size = 1 then vs.toArray[0] else .tuple vs.toArray) = retV vs := by
  match vs with
  | [] => rfl
  | [v] => rfl
  | v :: v' :: r => rfl
theorem results_run {fn : Func} {vs : List Value} (h : (fn.results.toList.mapM (resOne a.tmps)).run P w = .ok vs w) : (results fn a.tmps).run P w = .ok (retV vs) w := by
  have e : (results fn a.tmps) = (do let vs ← fn.results.mapM (resOne a.tmps); pure (if h : vs.size = 1 then vs[0] else .tuple vs)) := by
    unfold results
    have : ∀ rv, (match rv with | .tmp t => pure (a.tmps.getD t undef) | .cell b t => do loadVar t (← asAddr (a.tmps.getD b undef)) : Sem Value) = resOne a.tmps rv := by
      intro rv; cases rv <;> rfl
    congr 1
  rw [e, Array.mapM_eq_mapM_toList]
  simp only [Sem.run_bind, Sem.run_map, h, Result.andThen_ok, Sem.run_pure]
  rw [← retV_of vs]
theorem After_of {C : Ctr} {y : Ress C.rs} {w w1 : World} {ba : List Nat} {g1 : Gh} {a1 : Act} {fn : Func} {n : NS} {env : Env} (hT : TOK P T) (st : St n w (fun _ => False) g1 env.get a1 w1) (hA : g1.al = fun b => b ∈ ba)
    (h : endK T fn.results.toList C.rs C.fresh C.st env = some y) : a1.defers = [] ∧ ∃ v, (results fn a1.tmps).run P w1 = .ok v w1 ∧ After C y w ba (.returned v) w1 := by
  obtain ⟨lss, h1, h2, h3⟩ := endK_inv h
  obtain ⟨g2, q1, q2⟩ := litRes_sound (rvs := fn.results.toList) (fun b hb => by cases hb) st
  obtain ⟨vs, bs, z1, z2, z3, cs, z4⟩ := collect_sound (st := C.st) hT q2.ent h1 h3
  have blw : Below w.heap.size w w1 := ⟨st.os, st.tape.tape, st.output, st.inv.size, fun k hk => st.inv.old k hk (fun h => h)⟩
  have news : ∀ b, g2.own b ≠ 0 → w.heap.size ≤ b := fun b hb => by
    rcases (q2.inv.own b hb).2 with q | q
    · exact q
    · cases q
  refine ⟨st.df, retV vs, results_run z1, vs, bs, rfl, z2, blw, st.tape.dr, fun b hb => ?_, fun hf => ?_⟩
  · rcases z3 b hb with q | ⟨t, q⟩
    · rcases q2.inv.al b q with q | q
      · exact .inl q
      · rw [q1, hA] at q; exact .inr q
    · rcases q2.inv.kd b with r | r | r
      · rw [q] at r; cases r
      · rw [q] at r; cases r
      · rcases r.2 with r | r
        · exact .inl r
        · cases r
  · have hfr := h2 hf
    unfold freshOk at hfr
    split at hfr
    · rename_i l hl
      obtain ⟨p1, p2⟩ := fresh_nodup z4 hl (distinct_nodup hfr)
      exact ⟨p1, fun b hb => ⟨news b (p2 b hb).2, q2.inv.wr b (p2 b hb).2⟩⟩
    · cases hfr
theorem fn_ok {k : Nat} {C : Ctr} {fn : Func} {c : Code} (hm : P.follows .mixedOrders = true) (hT : TOK P T) (hK : KOK P K) (hf : P.funcs[k]? = some fn) (hb : fn.body = some c) (hc : okCode ⟨fn.ntmps, false, undef⟩ c = true) (hp : C.ps.length ≤ fn.ntmps)
    (h : ∀ (x : Args C.ps) (y : Ress C.rs), C.f x = some y → ∃ LT : LTab (Ress C.rs), LTOK P ⟨fn.ntmps, false, undef⟩ LT (endK T fn.results.toList C.rs C.fresh C.st) c ∧ fnK T K H C.rs LT c fn.results.toList C.ps C.fresh C.st x = some y) : FnOK P k C := by
  intro x y hxy w vs ba hv
  obtain ⟨LT, hL, hF⟩ := h x y hxy
  refine calls_of_wp hf hb ?_
  exact evL_sound (W := fun _ => False) (A := fun b => b ∈ ba) hm hT hK (fun b hb => (by cases hb)) hc hL hF (init_St hv hp) rfl (fun env' a' w' g' q1 q2 q3 => After_of hT q2 q3 q1) (fun id env' a' w' g' q1 => (by cases q1)) (fun env' a' w' g' q1 q2 q3 => After_of hT q2 q3 q1)
theorem fn_one {k : Nat} {C : Ctr} {fn : Func} {c : Code} (hi : C.inp = 0) (hm : P.follows .mixedOrders = true) (hT : TOK P T) (hK : KOK P K) (hf : P.funcs[k]? = some fn) (hb : fn.body = some c) (hc : okCode ⟨fn.ntmps, false, undef⟩ c = true) (hp : C.ps.length ≤ fn.ntmps) (hn : fn.name ≠ "runtime.NumGoroutine")
    (h : ∀ (x : Args C.ps) (y : Ress C.rs), C.f x = some y → ∃ LT : LTab (Ress C.rs), LTOK P ⟨fn.ntmps, false, undef⟩ LT (endK T fn.results.toList C.rs C.fresh C.st) c ∧ fnK T K H C.rs LT c fn.results.toList C.ps C.fresh C.st x = some y) : KOne P k C :=
  ⟨fun _ => fn_ok hm hT hK hf hb hc hp h, fun q => (by rw [hi] at q; cases q), fun q => (by rw [hi] at q; cases q), fn, hf, hn, by rw [hb]; rfl⟩
def loopsOf : Code → List Code
  | .seq a b => loopsOf a ++ loopsOf b
  | .cond _ a b => loopsOf a ++ loopsOf b
  | .block _ b => loopsOf b
  | .loop b => [b]
  | _ => []
def loopAt (id : Nat) : Code → Option Code
  | .seq a b => (match loopAt id a with | some c => some c | none => loopAt id b)
  | .cond _ a b => (match loopAt id a with | some c => some c | none => loopAt id b)
  | .block _ b => loopAt id b
  | .loop b => bif Nat.beq (headId b) id then some b else loopAt id b
  | _ => none
def bodyOf (f : Func) : Code := match f.body with | some c => c | none => .skip
def loopOf (f : Func) (id : Nat) : Code := match loopAt id (bodyOf f) with | some c => c | none => .skip
def LTs {α : Type} (P : Program) (n : NS) (LT : LTab α) (kr : Env → Option α) : List Code → Prop
  | [] => True
  | b :: r => (∀ ls, findN LT (headId b) = some ls → LSOK P n ls b kr) ∧ LTs P n LT kr r
theorem LTs_append {α : Type} {LT : LTab α} {kr : Env → Option α} : ∀ {a b : List Code}, LTs P n LT kr (a ++ b) → LTs P n LT kr a ∧ LTs P n LT kr b
  | [], b, h => ⟨trivial, h⟩
  | x :: a, b, h => ⟨⟨h.1, (LTs_append h.2).1⟩, (LTs_append h.2).2⟩
theorem LTOK_of {α : Type} {LT : LTab α} {kr : Env → Option α} : ∀ {c : Code}, LTs P n LT kr (loopsOf c) → LTOK P n LT kr c := by
  intro c
  induction c with
  | seq a b iha ihb => intro h; exact ⟨iha (LTs_append h).1, ihb (LTs_append h).2⟩
  | cond c a b iha ihb => intro h; exact ⟨iha (LTs_append h).1, ihb (LTs_append h).2⟩
  | block id b ih => intro h; exact ih h
  | loop b _ => intro h; exact h.1
  | _ => intro _; exact trivial
theorem LTOK_by {α : Type} {LT : LTab α} {kr : Env → Option α} {c : Code} {l : List Code} (e : loopsOf c = l) (h : LTs P n LT kr l) : LTOK P n LT kr c := LTOK_of (by rw [e]; exact h)
theorem ls_at {α : Type} {LT : LTab α} {kr : Env → Option α} {b : Code} {ls0 : LS α} (h : findN LT (headId b) = some ls0) (ok : LSOK P n ls0 b kr) : ∀ ls, findN LT (headId b) = some ls → LSOK P n ls b kr := by
  intro ls h'
  rw [h] at h'; injection h' with h'; rw [← h']; exact ok
end
def initM (e : TypeId) (u : Ty) (v : List u.den) (m : Int) : Env :=
  [(0, .val false [.rt e u 1 false true false v]), (1, intE .i64 m)]
def endM (e : TypeId) (u : Ty) (rvs : List ResultVar) (env : Env) : Option (Ress [.slice e u, .int .i64]) :=
  match rvs, env.get 0 with
  | [.tmp s], .val false [.rt e' u' tag false lin st v] => bif Nat.beq tag 1 then (match Ty.cast (.slice e u) (Leaf.rt e' u' tag false lin st v).val, asI (env.get s) with
    | some v, some (k, m) => bif kEq k .i64 then some (v, m, ()) else none
    | _, _ => none) else none
  | _, _ => none
def fnM (T : TTab) (K : CTab) (H : List (Nat × List Nat)) (e : TypeId) (u : Ty) (LT : LTab (Ress [.slice e u, .int .i64])) (c : Code) (rvs : List ResultVar) (x : Args [.v (.slice e u), .v (.int .i64)]) : Option (Ress [.slice e u, .int .i64]) :=
  evL T K H LT c (initM e u x.1 x.2.1) (endM e u rvs) (fun _ _ => none) (endM e u rvs)
section
variable {P : Program} {T : TTab} {K : CTab} {H : List (Nat × List Nat)}
open Classical in
noncomputable def ghM (w : World) (v0 : Value) (ba : List Nat) : Gh where
  kd b := if b ∈ ba then .mu 1 else if w.heap.size ≤ b then .fz else .no
  own b := if b ∈ ba then 1 else 0
  H _ := v0
  bx _ := 0
  al b := b ∈ ba
  mt _ := (.unit, .unit)
theorem initM_St {w : World} {e : TypeId} {u : Ty} {x : List u.den} {m : Int} {v0 v1 : Value} {ba : List Nat} {n : Nat} (hu : u.flat = true) (ho : OneV w.heap (.slice e u) x v0 ba) (h1 : v1 = .int .i64 m) (h2 : (Lit.int .i64 m).wf = true) (hn : 2 ≤ n)
    (hw : ∀ b ∈ ba, ∃ c e, w.heap[b]? = some (.cells c e (0, 0))) :
    St ⟨n, true, v0⟩ w (fun b => b ∈ ba) (ghM w v0 ba) (initM e u x m).get { tmps := [v0, v1].toArray ++ Array.replicate (n - [v0, v1].toArray.size) undef, defers := [] } w where
  inv := by
    have lt : ∀ b ∈ ba, b < w.heap.size := ho.1.lt
    refine ⟨Nat.le_refl _, fun b _ _ => rfl, fun b => ?_, fun b hb => ?_, fun b hb => ?_, fun b hb => ?_, fun b hb => ?_⟩
    · simp only [ghM]
      by_cases q : b ∈ ba
      · exact .inr (.inr ⟨lt b q, .inr q⟩)
      · rw [if_neg q]
        split
        · exact .inl rfl
        · exact .inr (.inl rfl)
    · simp only [ghM] at hb
      split at hb
      · cases hb
      · split at hb
        · cases hb
        · omega
    · simp only [ghM] at hb
      split at hb
      · cases hb
      · split at hb
        · rename_i q; exact .inl q
        · cases hb
    · simp only [ghM] at hb
      split at hb
      · rename_i q; exact ⟨lt b q, .inr q⟩
      · exact absurd rfl hb
    · simp only [ghM] at hb
      split at hb
      · rename_i q; exact hw b q
      · exact absurd rfl hb
  ent s := by
    simp only [initM, Env.get]
    cases q0 : Nat.beq 0 s with
    | true =>
      have := Nat.eq_of_beq_eq_true q0; subst this
      simp only [cond_true]
      have ev : ([v0, v1].toArray ++ Array.replicate (n - [v0, v1].toArray.size) undef).getD 0 undef = v0 := by rw [Array.getD_eq_getD_getElem?, Array.getElem?_append_left (by simp)]; rfl
      rw [ev]
      obtain ⟨⟨hd, blk, bs', z1, z2, z3⟩, _, z4⟩ := ho
      have hc := z4 rfl
      have eh : hd = v0 := by rw [hc] at z1; injection z1 with z1 _; exact z1.symm
      subst eh
      have eb := slR_flat hu z2
      subst eb
      rw [List.append_nil] at z3
      refine ⟨[hd], ba, rfl, fun _ => ⟨rfl, hc⟩, LeafB.many ⟨hd, blk, [], rfl, by rw [z3, List.append_nil], fun _ => rfl, fun q => (by cases q), z2, fun b hb => (by cases hb), fun b hb => ?_, fun _ => ⟨fun b hb => (by cases hb), List.nodup_nil⟩⟩⟩
      have hm : b ∈ ba := by rw [z3, hb]; simp
      refine ⟨by simp [ghM, hm], by simp [ghM, hm], ?_⟩
      rcases z2 with ⟨_, _, _, q, _⟩ | ⟨b', o, cap, c, fr, _, q1, _, q2, _⟩
      · rw [hb] at q; cases q
      · rw [hb] at q1; injection q1 with q1; subst q1
        obtain ⟨c', e', q3⟩ := hw b hm
        exact ⟨c', e', q3⟩
    | false =>
      simp only [cond_false]
      cases q1 : Nat.beq 1 s with
      | true =>
        have := Nat.eq_of_beq_eq_true q1; subst this
        simp only [cond_true]
        have ev : ([v0, v1].toArray ++ Array.replicate (n - [v0, v1].toArray.size) undef).getD 1 undef = v1 := by rw [Array.getD_eq_getD_getElem?, Array.getElem?_append_left (by simp)]; rfl
        rw [ev, h1]
        exact intE_sound h2
      | false => trivial
  sz := ⟨by simp; omega, fun _ => by rw [Array.getD_eq_getD_getElem?, Array.getElem?_append_left (by simp)]; rfl⟩
  df := rfl
  os := rfl
  tape := Tp.refl
  output := rfl
theorem AfterM_of {e : TypeId} {u : Ty} {x : List u.den} {C : Ctr} {w w1 : World} {ba : List Nat} {g1 : Gh} {a1 : Act} {fn : Func} {n : Nat} {env : Env} {v0 : Value} {r : List Value} {F : Args [.v (.slice e u), .v (.int .i64)] → Option (Ress [.slice e u, .int .i64])} {y : Ress [.slice e u, .int .i64]} (hu : u.flat = true) (ho : OneV w.heap (.slice e u) x v0 ba)
    (st : St ⟨n, true, v0⟩ w (fun b => b ∈ ba) g1 env.get a1 w1) (h : endM e u fn.results.toList env = some y) :
    a1.defers = [] ∧ ∃ v, (results fn a1.tmps).run P w1 = .ok v w1 ∧ AfterIn ⟨[.v (.slice e u), .v (.int .i64)], [.slice e u, .int .i64], false, false, 1, F⟩ y w (v0 :: r) ba (.returned v) w1 := by
  refine ⟨st.df, ?_⟩
  unfold endM at h
  split at h
  · rename_i s e' u' tag lin sst v hrv hg
    cases ht : Nat.beq tag 1 with
    | false => rw [ht] at h; cases h
    | true =>
      rw [ht] at h; simp only [cond_true] at h
      have := Nat.eq_of_beq_eq_true ht; subst this
      split at h
      · rename_i v' k m hc hi
        cases hk : kEq k .i64 with
        | false => rw [hk] at h; cases h
        | true =>
          rw [hk] at h; injection h with h; subst h
          have := kEq_eq hk; subst this
          obtain ⟨ee, hc⟩ := Ty.cast_eq hc
          injection ee with e1 e2
          subst e1; subst e2
          have hc : v = v' := hc
          subst hc
          have he := st.ent 0
          rw [hg] at he
          rw [st.sz.2 rfl] at he
          obtain ⟨bs, hl, hcc⟩ := val1 he
          obtain ⟨hd, blk, bs', y1, y2, _, _, y5, _, y7, _⟩ := hl
          injection y1 with y1 _
          have y1 : hd = v0 := y1.symm
          subst y1
          have eb := slR_flat hu y5
          subst eb
          have hw1 := asI_inv (st.ent s) hi
          obtain ⟨⟨hd2, blk2, bs2, z1, z2, z3⟩, _, z4⟩ := ho
          have eh : hd2 = hd := by rw [z4 rfl] at z1; injection z1 with z1 _; exact z1.symm
          subst eh
          have eb2 := slR_flat hu z2
          subst eb2
          have ebl := slR_blk z2 y5
          subst ebl
          have hba : ba = blk2.toList := by rw [z3, List.append_nil]
          refine ⟨a1.tmps.getD s undef, ?_, hd2, [a1.tmps.getD s undef], ba, rfl, rfl, ?_, ⟨by rw [hba]; cases blk2 <;> simp, fun _ h => h⟩, st.os, st.tape, st.output, st.inv.size, fun b hb hn => st.inv.old b hb hn, fun b hb => ?_⟩
          · have : (fn.results.toList.mapM (resOne a1.tmps)).run P w1 = .ok [a1.tmps.getD s undef] w1 := by rw [hrv]; rfl
            exact results_run this
          · refine ⟨hd2, [a1.tmps.getD s undef], ba, [], rfl, ⟨⟨hd2, blk2, [], by rw [hcc], y5, by rw [hba, List.append_nil]⟩, fun q => (by cases q), fun _ => hcc⟩, fun q => (by cases q), ?_, by simp⟩
            refine ⟨_, [], [], [], rfl, ?_, fun q => (by cases q), ⟨rfl, rfl⟩, rfl⟩
            rw [hw1.1]
            exact one_int hw1.2
          · obtain ⟨q1, q2, c, q3⟩ := y7 b (by rw [hba] at hb; simpa using hb)
            exact ⟨c, q3⟩
      · cases h
  · cases h
theorem fnM_one {k : Nat} {e : TypeId} {u : Ty} {fn : Func} {c : Code} {F : Args [.v (.slice e u), .v (.int .i64)] → Option (Ress [.slice e u, .int .i64])} (hu : u.flat = true) (hm : P.follows .mixedOrders = true) (hT : TOK P T) (hK : KOK P K) (hf : P.funcs[k]? = some fn) (hb : fn.body = some c) (hc : okCode ⟨fn.ntmps, true, undef⟩ c = true) (hp : 2 ≤ fn.ntmps) (hn : fn.name ≠ "runtime.NumGoroutine")
    (h : ∀ (x : Args [.v (.slice e u), .v (.int .i64)]) (y : Ress [.slice e u, .int .i64]), F x = some y → ∃ LT : LTab (Ress [.slice e u, .int .i64]), (∀ v0, LTOK P ⟨fn.ntmps, true, v0⟩ LT (endM e u fn.results.toList) c) ∧ fnM T K H e u LT c fn.results.toList x = some y) :
    KOne P k ⟨[.v (.slice e u), .v (.int .i64)], [.slice e u, .int .i64], false, false, 1, F⟩ := by
  refine ⟨fun q => (by cases q), fun _ => ?_, fun q => (by cases q), fn, hf, hn, by rw [hb]; rfl⟩
  intro x y hxy w vs ba hv hnd hw
  obtain ⟨LT, hL, hF⟩ := h x y hxy
  obtain ⟨v0, r1, b1, b2, rfl, rfl, o1, v1, r2, b3, b4, rfl, rfl, o2, rfl, rfl⟩ := hv
  have eb3 : b3 = [] := o2.1.flat rfl
  subst eb3
  simp only [List.append_nil] at *
  have hv1 : v1 = .int .i64 x.2.1 ∧ (Lit.int .i64 x.2.1).wf = true := by
    have c1 := o2.2.2 rfl
    have c2 := o2.1.1
    rw [c1] at c2
    simp only [List.cons.injEq, and_true] at c2
    exact ⟨c2, o2.1.2.1⟩
  refine calls_of_wp hf hb ?_
  have okc : okCode ⟨fn.ntmps, true, v0⟩ c = true := by
    have : ∀ c, okCode ⟨fn.ntmps, true, undef⟩ c = okCode ⟨fn.ntmps, true, v0⟩ c := by
      intro c
      induction c <;> simp_all [okCode]
    rw [← this]; exact hc
  exact evL_sound (W := fun b => b ∈ b1) (A := fun b => b ∈ b1) hm hT hK (fun b hb => hb) okc (hL v0) hF (initM_St hu o1 hv1.1 hv1.2 hp hw) rfl (fun env' a' w' g' q1 q2 q3 => AfterM_of (C := ⟨_, _, false, false, 1, F⟩) (x := x.1) hu o1 q2 q1) (fun id env' a' w' g' q1 => (by cases q1)) (fun env' a' w' g' q1 q2 q3 => AfterM_of (C := ⟨_, _, false, false, 1, F⟩) (x := x.1) hu o1 q2 q1)
end
def initX (i : IntKind) (e : TypeId) (u t : Ty) (p : Int) (l : List u.den) (r : t.den) : Env :=
  [(0, intE i p), (1, .val false [.rt e u 17 false true false l]), (2, .val t.agg [mkfz t 0 true r])]
def fnX (T : TTab) (K : CTab) (H : List (Nat × List Nat)) (i : IntKind) (e : TypeId) (u t t' : Ty) (LT : LTab (Ress [t'])) (c : Code) (rvs : List ResultVar) (x : Args [.v (.int i), .v (.slice e u), .v t]) : Option (Ress [t']) :=
  evL T K H LT c (initX i e u t x.1 x.2.1 x.2.2.1) (endK T rvs [t'] true false) (fun _ _ => none) (endK T rvs [t'] true false)
section
variable {P : Program} {T : TTab} {K : CTab} {H : List (Nat × List Nat)}
open Classical in
noncomputable def ghX (w : World) (v1 : Value) (blk : Option Nat) (be br : List Nat) : Gh where
  kd b := if blk = some b then .mu 17 else if b ∈ be ∨ b ∈ br ∨ w.heap.size ≤ b then .fz else .no
  own b := if b ∈ be then 17 else 0
  H _ := v1
  bx _ := 0
  al b := b ∈ be ∨ b ∈ br
  mt _ := (.unit, .unit)
theorem initX_St {w : World} {i : IntKind} {e : TypeId} {u t : Ty} {p : Int} {l : List u.den} {r : t.den} {vl vr : Value} {be br : List Nat} {n : Nat} (h0 : (Lit.int i p).wf = true) (h1 : OneV w.heap (.slice e u) l vl be) (h2 : OneV w.heap t r vr br) (hn : 3 ≤ n)
    (hd : be.Nodup) (hw : ∀ b ∈ be, ∃ c e, w.heap[b]? = some (.cells c e (0, 0))) (hx : ∀ b ∈ br, b ∉ be) :
    ∃ g, g.al = (fun b => b ∈ be ∨ b ∈ br) ∧ St ⟨n, false, undef⟩ w (fun b => b ∈ be) g (initX i e u t p l r).get { tmps := [.int i p, vl, vr].toArray ++ Array.replicate (n - [Value.int i p, vl, vr].toArray.size) undef, defers := [] } w := by
  obtain ⟨⟨hd', blk, bs', z1, z2, z3⟩, _, z4⟩ := h1
  have hc := z4 rfl
  have eh : hd' = vl := by rw [hc] at z1; injection z1 with z1 _; exact z1.symm
  subst eh
  have lt : ∀ b ∈ be, b < w.heap.size := fun b hb => by
    obtain ⟨c, e, q⟩ := hw b hb
    rcases Nat.lt_or_ge b w.heap.size with k | k
    · exact k
    · rw [Array.getElem?_eq_none k] at q; cases q
  have nd := List.nodup_append.1 (z3 ▸ hd)
  have inb : ∀ b, blk = some b → b ∈ be := fun b hb => by rw [z3, hb]; simp
  refine ⟨ghX w hd' blk be br, rfl, ⟨⟨Nat.le_refl _, fun b _ _ => rfl, fun b => ?_, fun b hb => ?_, fun b hb => ?_, fun b hb => ?_, fun b hb => ?_⟩, fun s => ?_, ⟨by simp; omega, fun q => (by cases q)⟩, rfl, rfl, Tp.refl, rfl⟩⟩
  · simp only [ghX]
    by_cases q : blk = some b
    · rw [if_pos q]; exact .inr (.inr ⟨lt b (inb b q), .inr (inb b q)⟩)
    · rw [if_neg q]
      split
      · exact .inl rfl
      · exact .inr (.inl rfl)
  · simp only [ghX] at hb
    split at hb
    · cases hb
    · split at hb
      · cases hb
      · rename_i q; exact Nat.lt_of_not_le fun k => q (.inr (.inr k))
  · simp only [ghX] at hb ⊢
    split at hb
    · cases hb
    · split at hb
      · rename_i q
        rcases q with q | q | q
        · exact .inr (.inl q)
        · exact .inr (.inr q)
        · exact .inl q
      · cases hb
  · simp only [ghX] at hb
    split at hb
    · rename_i q; exact ⟨lt b q, .inr q⟩
    · exact absurd rfl hb
  · simp only [ghX] at hb
    split at hb
    · rename_i q; exact hw b q
    · exact absurd rfl hb
  · simp only [initX, Env.get]
    have ev : ∀ j, j < 3 → ([Value.int i p, hd', vr].toArray ++ Array.replicate (n - [Value.int i p, hd', vr].toArray.size) undef).getD j undef = [Value.int i p, hd', vr].getD j undef := by
      intro j hj
      rw [Array.getD_eq_getD_getElem?, Array.getElem?_append_left (by simpa using hj), List.getElem?_toArray, List.getD_eq_getElem?_getD]
    cases q0 : Nat.beq 0 s with
    | true =>
      have := Nat.eq_of_beq_eq_true q0; subst this
      simp only [cond_true]
      rw [ev 0 (by omega)]
      exact intE_sound h0
    | false =>
      simp only [cond_false]
      cases q1 : Nat.beq 1 s with
      | true =>
        have := Nat.eq_of_beq_eq_true q1; subst this
        simp only [cond_true]
        rw [ev 1 (by omega)]
        refine ⟨[hd'], be, rfl, fun _ => ⟨rfl, hc⟩, LeafB.many ⟨hd', blk, bs', rfl, z3, fun _ => rfl, fun q => (by cases q), z2, fun b hb => ?_, fun b hb => ⟨?_, ?_, ?_⟩, fun _ => ⟨fun b hb => ?_, nd.2.1⟩⟩⟩
        · simp only [ghX]
          rw [if_neg (fun q => nd.2.2 b (by rw [q]; simp) b hb rfl), if_pos (.inl (by rw [z3]; exact List.mem_append_right _ hb))]
        · simp only [ghX]; rw [if_pos hb]
        · simp only [ghX]; rw [if_pos (inb b hb)]
        · obtain ⟨c', e', q3⟩ := hw b (inb b hb)
          rcases z2 with ⟨_, _, _, q, _⟩ | ⟨b', o, cap, c, fr, _, q1, _, q2, _⟩
          · rw [hb] at q; cases q
          · rw [hb] at q1; injection q1 with q1; subst q1
            exact ⟨c', e', q3⟩
        · simp only [ghX]; rw [if_pos (by rw [z3]; exact List.mem_append_right _ hb)]
      | false =>
        simp only [cond_false]
        cases q2 : Nat.beq 2 s with
        | true =>
          have := Nat.eq_of_beq_eq_true q2; subst this
          simp only [cond_true]
          rw [ev 2 (by omega)]
          refine leaves_of (mkfz_old t r h2.1 (fun b hb => ?_) (fun b hb => ?_)) h2.2.1 h2.2.2
          · simp only [ghX]
            rw [if_neg (fun q => hx b hb (inb b q)), if_pos (.inr (.inl hb))]
          · simp only [ghX]; rw [if_neg (hx b hb)]
        | false => trivial
theorem fnX_one {k : Nat} {i : IntKind} {e : TypeId} {u t t' : Ty} {fn : Func} {c : Code} {F : Args [.v (.int i), .v (.slice e u), .v t] → Option (Ress [t'])} (hm : P.follows .mixedOrders = true) (hT : TOK P T) (hK : KOK P K) (hf : P.funcs[k]? = some fn) (hb : fn.body = some c) (hc : okCode ⟨fn.ntmps, false, undef⟩ c = true) (hp : 3 ≤ fn.ntmps) (hn : fn.name ≠ "runtime.NumGoroutine")
    (h : ∀ (x : Args [.v (.int i), .v (.slice e u), .v t]) (y : Ress [t']), F x = some y → ∃ LT : LTab (Ress [t']), LTOK P ⟨fn.ntmps, false, undef⟩ LT (endK T fn.results.toList [t'] true false) c ∧ fnX T K H i e u t t' LT c fn.results.toList x = some y) :
    KOne P k ⟨[.v (.int i), .v (.slice e u), .v t], [t'], true, false, 2, F⟩ := by
  refine ⟨fun q => (by cases q), fun q => (by cases q), fun _ => ?_, fn, hf, hn, by rw [hb]; rfl⟩
  intro p l r y hxy w vl vr be br h0 h1 h2 hd hw hx
  obtain ⟨LT, hL, hF⟩ := h (p, l, r, ()) y hxy
  obtain ⟨g0, al0, st0⟩ := initX_St (n := fn.ntmps) h0 h1 h2 hp hd hw hx
  refine calls_of_wp hf hb ?_
  have fin : ∀ (env : Env) (a1 : Act) (w1 : World) (g1 : Gh), endK T fn.results.toList [t'] true false env = some y → St ⟨fn.ntmps, false, undef⟩ w (fun b => b ∈ be) g1 env.get a1 w1 → g1.al = (fun b => b ∈ be ∨ b ∈ br) →
      a1.defers = [] ∧ ∃ v, (results fn a1.tmps).run P w1 = .ok v w1 ∧ ∃ rv bs, Ending.returned v = .returned rv ∧ OneV w1.heap t' y.1 rv bs ∧ w1.os = w.os ∧ Tp w1 w ∧ w1.output = w.output ∧ w.heap.size ≤ w1.heap.size ∧
        (∀ b, b < w.heap.size → b ∉ be → w1.heap[b]? = w.heap[b]?) ∧ bs.Nodup ∧ (∀ b ∈ bs, w.heap.size ≤ b ∨ b ∈ be) ∧ ∀ b ∈ bs, ∃ c e, w1.heap[b]? = some (.cells c e (0, 0)) := by
    intro env a1 w1 g1 hk st hA
    obtain ⟨lss, q1, q2, q3⟩ := endK_inv hk
    obtain ⟨g2, r1, r2⟩ := litRes_sound (rvs := fn.results.toList) (fun b hb => by rw [hA]; exact .inl hb) st
    obtain ⟨vs, bs, z1, z2, z3, cs, z4⟩ := collect_sound (st := false) hT r2.ent q1 q3
    obtain ⟨v, rr, b1, b2, e1, e2, _, ⟨e3, e4⟩, e5⟩ := z2
    subst e3; subst e4; subst e1
    rw [List.append_nil] at e5; subst e5
    have hfr := q2 rfl
    unfold freshOk at hfr
    split at hfr
    · rename_i ll hl
      obtain ⟨p1, p2⟩ := fresh_nodup z4 hl (distinct_nodup hfr)
      exact ⟨st.df, v, results_run z1, v, bs, rfl, e2, st.os, st.tape, st.output, st.inv.size, fun b hb hn => st.inv.old b hb hn, p1, fun b hb => (r2.inv.own b (p2 b hb).2).2, fun b hb => r2.inv.wr b (p2 b hb).2⟩
    · cases hfr
  exact evL_sound (W := fun b => b ∈ be) (A := fun b => b ∈ be ∨ b ∈ br) hm hT hK (fun b hb => .inl hb) hc hL hF st0 al0 (fun env' a' w' g' q1 q2 q3 => fin env' a' w' g' q1 q2 q3) (fun id env' a' w' g' q1 => (by cases q1)) (fun env' a' w' g' q1 q2 q3 => fin env' a' w' g' q1 q2 q3)
end
section
variable {P : Program} {T : TTab} {K : CTab} {H : List (Nat × List Nat)}
end
section
variable {P : Program} {T : TTab} {K : CTab} {n : NS} {w0 w : World} {W : Nat → Prop} {g : Gh} {a : Act} {d : Nat}
theorem wpOps_cons {ops : Array Oper} {i : Nat} {rest : List Nat} {Q : Exit → Act → World → Prop} {o : Oper} (h : ops[i]? = some o) (hg : o.guard = none) (hw : o.wp P a w (wpOps P ops Q rest) Q) : wpOps P ops Q (i :: rest) a w := by
  simp only [wpOps, h]
  have : Region.wanted o (yielded ops a.tmps) = true := by simp [Region.wanted, hg]
  rw [this]
  exact .inl hw
theorem St.passed {env : Env} {v : Value} (st : St n w0 W g env.get a w) (hd : n.has d) (he : env.get d = .dead) : St n w0 W g env.get (a.put (some d) v) w := by
  refine (st.putA (e := .dead) hd trivial).get_eq ?_
  funext s
  unfold upd
  split
  · rename_i h; subst h; exact he
  · rfl
theorem ev_wp {c : Code} {A : Nat → Prop} {env env1 : Env} {ks : List Nat} {Q : Exit → Act → World → Prop} (hm : P.follows .mixedOrders = true) (hT : TOK P T) (hK : KOK P K) (hwal : ∀ b, W b → A b) (hc : okCode n c = true) (hl : LTOK P n ([] : LTab Env) (fun _ => none) c)
    (h : evL T K [] [] c env (fun e => some (keepK ks e)) (fun _ _ => none) (fun _ => none) = some env1) (st : St n w0 W g env.get a w) (hA : g.al = A) (hk : ∀ a' w' g', St n w0 W g' env1.get a' w' → g'.al = A → Q .normal a' w') : c.wp P Q a w :=
  evL_sound (Q := Q) hm hT hK hwal hc hl h st hA (fun env' a' w' g' q1 q2 q3 => hk a' w' g' (by injection q1 with q1; rw [← q1]; exact q2.kill (keepK_get ks env')) q3) (fun _ _ _ _ _ q => (by cases q)) (fun _ _ _ _ q => (by cases q))
end
open Go Go.RowKit Go.ChangeShapes Go.WideShapes
def okV : (t : Ty) → t.den → Bool
  | .int k, x => kwf k x
  | .arr n t, x => okT (okV t) n x
  | .pair a b, x => okV a x.1 && okV b x.2
  | .slice _ t, x => decide (x.length ≤ 9223372036854775807) && x.all (okV t)
  | _, _ => true
where
  okT {α : Type} (f : α → Bool) : (n : Nat) → Tup α n → Bool
    | 0, _ => true
    | n + 1, x => f x.1 && okT f n x.2
def okA : (ps : List PK) → Args ps → Bool
  | [], _ => true
  | .v t :: r, x => okV t x.1 && okA r x.2
  | .p t :: r, x => okV t x.1 && okA r x.2
  | .fn _ :: r, x => okA r x.2
  | .m _ _ :: r, x => okA r x.2
theorem wf_kwf {k : IntKind} {n : Int} (h : (Lit.int k n).wf = true) : kwf k n = true := by
  simpa [Lit.wf, kwf] using h
section
variable {P : Program} {T : TTab} {H : Type} {enc : TypeId × Value → H} {w : World} {base : Nat} {spare : Nat → Bool} {held : Bool}
theorem cells_size {t : TypeId} {ty : Ty} (k : TyOK P T t ty) : P.cellsOf t = ty.size := by
  obtain ⟨i, h1, h2, _⟩ := k.info
  simp [Program.cellsOf, h1, h2]
end
section
variable {P : Program} {T : TTab} {H : Type} {enc : TypeId × Value → H} {w : World} {base : Nat} {spare : Nat → Bool} {held : Bool}
theorem mkTupB {α : Type} {R : α → List Value → List Nat → Prop} {f : α → Bool} {s : Nat} : ∀ (n : Nat) (cs : List Value), (∀ i, i < n → ∃ y b, R y ((cs.drop (i * s)).take s) b ∧ f y = true) → ∃ (x : Tup α n) (bs : List Nat), RdL R s (tlist n x) cs bs ∧ okV.okT f n x = true
  | 0, cs, _ => ⟨(), [], by simp [RdL, tlist], rfl⟩
  | n + 1, cs, h => by
    obtain ⟨y, b, h1, h2⟩ := h 0 (by omega)
    obtain ⟨x, bs, q1, q2⟩ := mkTupB n (cs.drop s) (fun i hi => by
      obtain ⟨z, b', z1, z2⟩ := h (i + 1) (by omega)
      refine ⟨z, b', ?_, z2⟩
      rw [List.drop_drop]
      rw [show s + i * s = (i + 1) * s by rw [Nat.succ_mul]; omega]
      exact z1)
    refine ⟨(y, x), b ++ bs, ⟨b, bs, by simpa using h1, q1, rfl⟩, ?_⟩
    simp only [okV.okT, h2, q2, Bool.and_self]
theorem mkLst {α : Type} {R : α → List Value → List Nat → Prop} {f : α → Bool} {s : Nat} : ∀ (n : Nat) (cs : List Value), (∀ i, i < n → ∃ y b, R y ((cs.drop (i * s)).take s) b ∧ f y = true) → ∃ (l : List α) (bs : List Nat), l.length = n ∧ RdL R s l cs bs ∧ l.all f = true
  | 0, cs, _ => ⟨[], [], rfl, rfl, rfl⟩
  | n + 1, cs, h => by
    obtain ⟨y, b, h1, h2⟩ := h 0 (by omega)
    obtain ⟨x, bs, q0, q1, q2⟩ := mkLst n (cs.drop s) (fun i hi => by
      obtain ⟨z, b', z1, z2⟩ := h (i + 1) (by omega)
      refine ⟨z, b', ?_, z2⟩
      rw [List.drop_drop]
      rw [show s + i * s = (i + 1) * s by rw [Nat.succ_mul]; omega]
      exact z1)
    refine ⟨y :: x, b ++ bs, by simp [q0], ⟨b, bs, by simpa using h1, q1, rfl⟩, ?_⟩
    simp only [List.all_cons, h2, q2, Bool.and_self]
theorem cell_at {a : Addr} {v : Value} (h : w.cell? a = some v) : a.spot = none ∧ ∃ c e fr, w.heap[a.block]? = some (.cells c e fr) ∧ c[a.off]? = some v := by
  unfold World.cell? at h
  split at h
  · rename_i c e fr hc
    split at h
    · cases h
    · rename_i hs
      exact ⟨by cases hq : a.spot <;> simp_all, c, e, fr, hc, h⟩
  · cases h
theorem cells_get {a : Addr} {n : Nat} {cs : List Value} (h : w.cells? base a n = some cs) : cs.length = n ∧ ∀ i, i < n → w.cell? (a.add i) = cs[i]? := by
  unfold World.cells? at h
  split at h
  · refine ⟨by simpa using mapM_some_length h, fun i hi => ?_⟩
    exact mapM_some_get h i i (by simp [hi])
  · cases h
theorem open_any (hT : TOK P T) : ∀ {ty : Ty},
    (∀ {t : TypeId} {fuel : Nat} {cs : List Value} {x : DataW H × List MemPlace}, TyOK P T t ty → DataW.trod enc P w base spare held fuel t cs = some x → (∀ b, spare b = true) → ∃ (y : ty.den) (bs : List Nat), Rd w.heap ty y cs bs ∧ okV ty y = true) ∧
    (∀ (fs : List Field) (off n : Nat) (cs : List Value), FsOK P T fs ty off → (cs.drop off).length = ty.size → (∀ b, spare b = true) →
      (∀ f, f ∈ fs → ∃ y, DataW.trod enc P w base spare held n f.type ((cs.drop f.offset).take (P.cellsOf f.type)) = some y) → ∃ (y : ty.den) (bs : List Nat), Rd w.heap ty y (cs.drop off) bs ∧ okV ty y = true) := by
  intro ty
  induction ty with
  | int k =>
    refine ⟨fun {t fuel cs x} kk h _ => ?_, fun fs off n cs h => by cases fs <;> exact h.elim⟩
    obtain ⟨m, rfl, _, hw⟩ := DataW.trod_int kk.und h
    exact ⟨m, [], ⟨rfl, hw, rfl⟩, wf_kwf hw⟩
  | bool =>
    refine ⟨fun {t fuel cs x} kk h _ => ?_, fun fs off n cs h => by cases fs <;> exact h.elim⟩
    obtain ⟨m, rfl, _⟩ := DataW.trod_bool kk.und h
    exact ⟨m, [], ⟨rfl, rfl⟩, rfl⟩
  | unit =>
    have F : ∀ (fs : List Field) (off n : Nat) (cs : List Value), FsOK P T fs .unit off → (cs.drop off).length = Ty.unit.size → (∀ b, spare b = true) →
      (∀ f, f ∈ fs → ∃ y, DataW.trod enc P w base spare held n f.type ((cs.drop f.offset).take (P.cellsOf f.type)) = some y) → ∃ (y : Ty.unit.den) (bs : List Nat), Rd w.heap .unit y (cs.drop off) bs ∧ okV .unit y = true :=
      fun fs off n cs _ hl _ _ => ⟨(), [], ⟨List.eq_nil_of_length_eq_zero hl, rfl⟩, rfl⟩
    refine ⟨fun {t fuel cs x} kk h hs => ?_, F⟩
    obtain ⟨fs, u1, _, u3⟩ := kk.und
    obtain ⟨xs, n, _, _, hlen, hxl, hx⟩ := DataW.trod_struct u1 h
    rw [cells_size kk] at hlen
    exact F fs.toList 0 n cs u3 hlen hs (fun f hf => by
      obtain ⟨i, hi, e⟩ := List.getElem_of_mem hf
      have hi' : i < xs.length := by rw [hxl]; simpa using hi
      exact ⟨xs[i], by rw [hx i f (by rw [Array.getElem?_eq_getElem (by simpa using hi)]; simpa using e), List.getElem?_eq_getElem hi']⟩)
  | pair a b iha ihb =>
    have F : ∀ (fs : List Field) (off n : Nat) (cs : List Value), FsOK P T fs (.pair a b) off → (cs.drop off).length = (Ty.pair a b).size → (∀ b, spare b = true) →
      (∀ f, f ∈ fs → ∃ y, DataW.trod enc P w base spare held n f.type ((cs.drop f.offset).take (P.cellsOf f.type)) = some y) → ∃ (y : (Ty.pair a b).den) (bs : List Nat), Rd w.heap (.pair a b) y (cs.drop off) bs ∧ okV (.pair a b) y = true := by
      intro fs off n cs hf hl hs hr
      cases fs with
      | nil => exact hf.elim
      | cons f fs =>
        obtain ⟨f1, f2, _, _, f3⟩ := hf
        have kf := hT _ _ f2
        obtain ⟨x, hx⟩ := hr f (.head _)
        rw [f1, cells_size kf] at hx
        obtain ⟨y1, b1, q1, q2⟩ := iha.1 kf hx hs
        have hl' : (cs.drop (off + a.size)).length = b.size := by
          have : (Ty.pair a b).size = a.size + b.size := rfl
          rw [this] at hl
          simp only [List.length_drop] at hl ⊢
          omega
        obtain ⟨y2, b2, q3, q4⟩ := ihb.2 fs (off + a.size) n cs f3 hl' hs (fun f' h' => hr f' (.tail _ h'))
        refine ⟨(y1, y2), b1 ++ b2, ⟨b1, b2, q1, ?_, rfl⟩, ?_⟩
        · rw [List.drop_drop]; exact q3
        · simp only [okV, q2, q4, Bool.and_self]
    refine ⟨fun {t fuel cs x} kk h hs => ?_, F⟩
    obtain ⟨fs, u1, _, u3⟩ := kk.und
    obtain ⟨xs, n, _, _, hlen, hxl, hx⟩ := DataW.trod_struct u1 h
    rw [cells_size kk] at hlen
    exact F fs.toList 0 n cs u3 hlen hs (fun f hf => by
      obtain ⟨i, hi, e⟩ := List.getElem_of_mem hf
      have hi' : i < xs.length := by rw [hxl]; simpa using hi
      exact ⟨xs[i], by rw [hx i f (by rw [Array.getElem?_eq_getElem (by simpa using hi)]; simpa using e), List.getElem?_eq_getElem hi']⟩)
  | arr n u ih =>
    refine ⟨fun {t fuel cs x} kk h hs => ?_, fun fs off n cs h => by cases fs <;> exact h.elim⟩
    obtain ⟨e, u1, u2, _, _⟩ := kk.und
    obtain ⟨xs, m, _, _, hlen, hxl, hx⟩ := DataW.trod_array u1 h
    have ke := hT _ _ u2
    rw [cells_size kk] at hlen
    rw [cells_size ke] at hx
    obtain ⟨y, bs, q1, q2⟩ := mkTupB (R := Rd w.heap u) (f := okV u) n cs (fun i hi => by
      have e0 := hx i hi
      rw [List.getElem?_eq_getElem (by omega)] at e0
      exact ih.1 ke e0 hs)
    exact ⟨y, bs, ⟨hlen, q1⟩, q2⟩
  | slice e u ih =>
    refine ⟨fun {t fuel cs x} kk h hs => ?_, fun fs off n cs h => by cases fs <;> exact h.elim⟩
    obtain ⟨u1, u2, u3⟩ := kk.und
    have ke := hT _ _ u2
    rcases DataW.trod_slice u1 h with ⟨rfl, _⟩ | ⟨a, len, cap, elems, rest, n, _, rfl, _, _, hlc, hmx, hel, he, hr, _⟩
    · exact ⟨[], [], ⟨_, none, [], rfl, .inl ⟨none, rfl, rfl, rfl, rfl⟩, rfl⟩, rfl⟩
    · obtain ⟨hrl, hr⟩ := hr (hs _)
      rw [cells_size ke] at he hr
      rcases Nat.eq_zero_or_pos cap with hc | hc
      · have hl0 : len = 0 := by omega
        subst hc; subst hl0
        exact ⟨[], [], ⟨_, none, [], rfl, .inl ⟨some a, rfl, rfl, rfl, rfl⟩, rfl⟩, rfl⟩
      · have hC : ∀ i, i < cap → ∃ cs', w.cells? base (a.add (i * u.size)) u.size = some cs' ∧ (i < len → ∃ y, DataW.trod enc P w base spare held n e cs' = some y) := by
          intro i hi
          by_cases q : i < len
          · have e0 := he i q
            rw [List.getElem?_eq_getElem (by omega)] at e0
            obtain ⟨cs', z1, z2⟩ := Option.bind_eq_some_iff.1 e0
            exact ⟨cs', z1, fun _ => ⟨_, z2⟩⟩
          · have e0 := hr (i - len) (by omega)
            rw [List.getElem?_eq_getElem (by omega), show len + (i - len) = i by omega] at e0
            obtain ⟨cs', z1, z2⟩ := Option.bind_eq_some_iff.1 e0
            exact ⟨cs', z1, fun h => absurd h q⟩
        have hus : 0 < u.size := Nat.pos_of_ne_zero u3
        have s1 : a.spot = none := by
          obtain ⟨cs0, z1, _⟩ := hC 0 hc
          obtain ⟨z2, z3⟩ := cells_get z1
          have z4 := z3 0 (by omega)
          rw [List.getElem?_eq_getElem (by omega)] at z4
          have e0 : (a.add (0 * u.size)).add 0 = a := by simp [Addr.add]
          rw [e0] at z4
          exact (cell_at z4).1
        obtain ⟨b0, o0, sp⟩ := a
        have s1 : sp = none := s1
        subst s1
        obtain ⟨csl, z1, _⟩ := hC (cap - 1) (by omega)
        obtain ⟨z2, z3⟩ := cells_get z1
        have z4 := z3 (u.size - 1) (by omega)
        rw [List.getElem?_eq_getElem (by omega)] at z4
        rw [addr_add, addr_add] at z4
        obtain ⟨_, c, e', fr, s2, s3⟩ := cell_at z4
        have s2 : w.heap[b0]? = some (.cells c e' fr) := s2
        have hsz : o0 + cap * u.size ≤ c.size := by
          have : o0 + (cap - 1) * u.size + (u.size - 1) < c.size := by
            rcases Nat.lt_or_ge (o0 + (cap - 1) * u.size + (u.size - 1)) c.size with q | q
            · exact q
            · have s3 : c[o0 + (cap - 1) * u.size + (u.size - 1)]? = some csl[u.size - 1] := s3
              rw [Array.getElem?_eq_none q] at s3; cases s3
          have e1 : cap * u.size = (cap - 1) * u.size + u.size := by
            rw [← Nat.succ_mul]; congr 1; omega
          omega
        obtain ⟨l, bs, q0, q1, q2⟩ := mkLst (R := Rd w.heap u) (f := okV u) len (c.toList.drop o0) (fun i hi => by
          obtain ⟨cs', y1, y2⟩ := hC i (by omega)
          obtain ⟨x', y2⟩ := y2 hi
          obtain ⟨y3, y4⟩ := cells_get y1
          have hi2 : (i + 1) * u.size ≤ cap * u.size := Nat.mul_le_mul_right _ (by omega)
          rw [Nat.succ_mul] at hi2
          have ecs : ((c.toList.drop o0).drop (i * u.size)).take u.size = cs' := by
            apply List.ext_getElem?
            intro j
            by_cases hj : j < u.size
            · rw [List.getElem?_take_of_lt hj, List.getElem?_drop, List.getElem?_drop, ← y4 j hj]
              have : w.cell? (((⟨b0, o0, none⟩ : Addr).add (i * u.size)).add j) = c[o0 + i * u.size + j]? := by
                rw [addr_add, addr_add]
                unfold World.cell?
                show (match w.heap[b0]? with | some (.cells c _ _) => if (none : Option Nat).isSome then none else c[o0 + i * u.size + j]? | _ => none) = _
                rw [s2]; rfl
              rw [this]; simp; congr 1; omega
            · rw [List.getElem?_eq_none (by simp; omega), List.getElem?_eq_none (by omega)]
          rw [ecs]
          exact ih.1 ke y2 hs)
        exact ⟨l, [b0] ++ bs, ⟨_, some b0, bs, rfl, .inr ⟨b0, o0, cap, c, fr, by rw [q0], rfl, ⟨by omega, hc⟩, ⟨e', s2⟩, hsz, q1⟩, rfl⟩, by
          have hmx : cap ≤ 9223372036854775807 := hmx
          have : decide (l.length ≤ 9223372036854775807) = true := decide_eq_true (by omega)
          show (decide (l.length ≤ 9223372036854775807) && l.all (okV u)) = true
          rw [this, q2]; rfl⟩
theorem open_val (hT : TOK P T) {ty : Ty} {t : TypeId} {r : Reach} {v : Value} {d : DataW H} {ps : List MemPlace} (ht : tyOf T t = some ty) {base2 : Nat} (hval : Value.okWide P w r base2 t v) (hs : ∀ b, spare b = true) (h : DataW.Trod enc P w base spare held t v d ps) :
    ∃ (y : ty.den) (bs : List Nat), OneV w.heap ty y v bs ∧ okV ty y = true := by
  obtain ⟨fuel, hx⟩ := h
  have k := hT _ _ ht
  obtain ⟨y, bs, q1, q2⟩ := (open_any hT).1 k hx hs
  refine ⟨y, bs, ⟨q1, fun ha => ?_, fun ha => ?_⟩, q2⟩
  · cases ty with
    | arr n u =>
      obtain ⟨e, u1, _⟩ := k.und
      simp only [Value.okWide, u1] at hval
      obtain ⟨cs, h1, _⟩ := hval
      subst h1; rfl
    | int k => cases ha
    | bool => cases ha
    | slice e u => cases ha
    | unit =>
      obtain ⟨fs, u1, _⟩ := k.und
      simp only [Value.okWide, u1] at hval
      obtain ⟨cs, h1, _⟩ := hval
      subst h1; rfl
    | pair a b =>
      obtain ⟨fs, u1, _⟩ := k.und
      simp only [Value.okWide, u1] at hval
      obtain ⟨cs, h1, _⟩ := hval
      subst h1; rfl
  · cases ty with
    | int kk =>
      obtain ⟨m, rfl⟩ := okWide_int k.und hval
      rfl
    | bool =>
      have u1 : P.underlying t = some .bool := k.und
      simp only [Value.okWide, Cell.okWide, Cell.ok, u1] at hval
      cases v <;> first | rfl | exact hval.elim
    | slice e u =>
      have u1 := k.und.1
      simp only [Value.okWide, Cell.okWide, Cell.ok, u1] at hval
      cases v <;> first | rfl | exact hval.elim
    | arr n u => cases ha
    | unit => cases ha
    | pair a b => cases ha
end
abbrev i64 : Ty := .int .i64
abbrev u8 : Ty := .int .u8
abbrev ex : Ty := .arr 3 u8
abbrev mat : Ty := .arr 3 ex
abbrev term : Ty := .pair ex (.pair i64 .unit)
abbrev poly : Ty := .pair i64 (.pair i64 (.pair (.slice 101 term) .unit))
abbrev lterm : Ty := .pair ex (.pair i64 .unit)
abbrev lpoly : Ty := .pair i64 (.pair i64 (.pair (.slice 131 lterm) .unit))
abbrev TT : TTab := [(2, i64), (3, i64), (4, .bool), (5, u8), (65, ex), (66, mat), (26, .slice 2 i64), (67, mat), (136, .slice 26 (.slice 2 i64)), (40, .slice 101 term), (42, poly), (99, ex), (101, term), (23, .pair i64 (.pair i64 (.pair (.slice 66 mat) .unit))), (24, .pair i64 (.pair i64 (.pair (.slice 66 mat) .unit))), (31, .pair i64 (.pair i64 (.pair (.slice 67 mat) .unit))), (29, .slice 67 mat), (22, .slice 66 mat), (45, .slice 42 poly), (79, .slice 45 (.slice 42 poly)), (74, .slice 131 lterm), (76, lpoly), (131, lterm), (38, .slice 76 lpoly), (112, mapT 99 2), (113, mapT 99 2), (143, mapT 67 4)]
theorem tt_ok : TOK Try.prog TT := tokB_ok (by kernel_rfl)
abbrev vv (t : Ty) : Sh := .val false [.fz t 0 false]
abbrev va (t : Ty) : Sh := .val true [.fz t 0 false]
abbrev bb (t : Ty) : Sh := .box false [.fz t 0 false]
abbrev vr (e : TypeId) (t : Ty) (tag : Nat) (st : Bool) : Sh := .val false [.rt e t tag false true st]
abbrev w6 (x : Int) : Int := IntKind.wrap .i64 x
abbrev w8 (x : Int) : Int := IntKind.wrap .u8 x
abbrev tn (x : Int) : Nat := Int.toNat x
abbrev ib (i n : Int) : Bool := decide ((0 : Int) ≤ i) && decide (i < n)
theorem mixed : Try.prog.follows .mixedOrders = true := by kernel_rfl
abbrev R171 : Type := Ress [.slice 2 i64]
abbrev G171 : Type := Args [.v (.slice 2 i64)] → Option R171
def cf91 : G171 := fun x => if x.1.length ≤ 1000000 then some (x.1, ()) else none
theorem k91 : KOne Try.prog 171 ⟨[.v (.slice 2 i64)], [.slice 2 i64], true, false, 0, cf91⟩ := by
  refine ⟨fun _ => ?_, fun q => (by cases q), fun q => (by cases q), Try.f171, Try.func171, by decide, rfl⟩
  intro x y hxy w vs ba hv
  obtain ⟨l, _⟩ := x
  simp only [cf91] at hxy
  split at hxy
  · rename_i hc
    injection hxy with hxy; subst hxy
    have st0 := init_St (n := 8) hv (by decide)
    refine calls_of_wp Try.func171 rfl (wp_seq ?_)
    refine evL_sound (T := TT) (K := []) (H := []) (LT := ([] : LTab Env)) (A := fun b => b ∈ ba) (W := fun _ => False) (y := [(0, .val false [.fz (.slice 2 i64) 0 true l]), (2, .val false [.rt 2 i64 33 false true true []])]) (kn := some) (kx := fun _ _ => none) (kr := fun _ => none) mixed tt_ok KOK.nil (fun b hb => (by cases hb)) (by kernel_rfl) (by exact trivial) (by kernel_rfl) st0 rfl (fun env' a' w' g' q1 q2 q3 => ?_) (fun _ _ _ _ _ q => (by cases q)) (fun _ _ _ _ q => (by cases q))
    injection q1 with q1; subst q1
    have he : EntR g' w'.heap 0 (.val false [.fz (.slice 2 i64) 0 true l]) (a'.tmps.getD 0 undef) := q2.ent 0
    obtain ⟨bs, hl, hcc⟩ := val1 he
    obtain ⟨⟨hd, blk, bs', h1, h2, h3⟩, _⟩ := hl
    injection h1 with h1 _; subst h1
    obtain ⟨b, hb, hn⟩ : ∃ b : Bool, (∀ (o : Oper) (a : Act), o.op = .binOp .eql 26 (.tmp 3) (.const (.slice none 0 0)) 26 → a.tmps.getD 3 undef = a'.tmps.getD 0 undef → (execOp a.eval o).run Try.prog w' = .ok (.value (.bool b)) w') ∧ (b = true → l = []) := by
      generalize a'.tmps.getD 0 undef = v at h2
      obtain ⟨p, len, cap, rfl, hp⟩ : ∃ p len cap, v = .slice p len cap ∧ (p = none → l = []) := by
        rcases h2 with ⟨p, rfl, q, _⟩ | ⟨b, o, cap, c, fr, rfl, _⟩
        · exact ⟨p, 0, 0, rfl, fun _ => q⟩
        · exact ⟨_, _, _, rfl, fun q => (by cases q)⟩
      refine ⟨p.isNone, fun o a ho ha => ?_, fun q => hp (by cases p with | none => rfl | some _ => cases q)⟩
      have eq : (Op.equal 26 (.slice p len cap) (.slice none 0 0)).run Try.prog w' = .ok p.isNone w' := by
        have one : ∀ d, (Op.equalIn (d + 1) 26 (.slice p len cap) (.slice none 0 0)).run Try.prog w' = .ok p.isNone w' := fun d => by
          have hu := (tt_ok 26 (.slice 2 i64) (by kernel_rfl)).und
          cases p <;> simp only [Op.equalIn, Sem.run_bind, run_underlying hu.1, Result.andThen_ok, Sem.run_pure] <;> rfl
        exact one 9999
      have e1 : a.eval (.tmp 3) = .slice p len cap := ha
      have e2 : a.eval (.const (.slice none 0 0)) = .slice none 0 0 := rfl
      have run : (eqGuard .eql 26 (.tmp 3) (.const (.slice none 0 0)) (.slice p len cap) (.slice none 0 0)).run Try.prog w' = .ok () w' := by simp [eqGuard, Result.andThen]
      simp only [execOp, ho, e1, e2, Sem.run_bind, run, Sem.run_pure, Result.andThen_ok, binOp, eq]
    refine wp_seq (wp_seq (wp_region ?_))
    have st1 := St.putA q2 (d := 3) (e := .dead) (v := a'.tmps.getD 0 undef) ⟨by decide, fun q => (by cases q)⟩ trivial
    have st2 := St.putA st1 (d := 4) (e := boolE b) (v := .bool b) ⟨by decide, fun q => (by cases q)⟩ (boolE_sound (s := 4))
    refine .inl (upon_val (v := a'.tmps.getD 0 undef) (w' := w') rfl ?_)
    refine .inl (upon_val (v := .bool b) (w' := w') (hb _ _ rfl ?_) ?_)
    · show (a'.put (some 3) (a'.tmps.getD 0 undef)).tmps.getD 3 undef = _
      have sz := q2.sz.1
      simp only [Act.put]
      rw [Array.getD_eq_getD_getElem?, Array.getElem?_setIfInBounds_self_of_lt (by rw [sz]; decide)]; rfl
    · have hev : ((a'.put (some 3) (a'.tmps.getD 0 undef)).put (some 4) (.bool b)).eval (.tmp 4) = .bool b := by
        have : EntR g' w'.heap 4 (boolE b) (((a'.put (some 3) (a'.tmps.getD 0 undef)).put (some 4) (.bool b)).tmps.getD 4 undef) := by
          have z := st2.ent 4
          rw [show upd (upd (Env.get [(0, .val false [.fz (.slice 2 i64) 0 true l]), (2, .val false [.rt 2 i64 33 false true true []])]) 3 .dead) 4 (boolE b) 4 = boolE b from if_pos rfl] at z
          exact z
        obtain ⟨bs4, hl4, _⟩ := val1 this
        obtain ⟨⟨z, _⟩, _⟩ := hl4
        injection z
      refine wp_cond (t := b) hev ?_
      cases b with
      | true =>
        have hl0 : l = [] := hn rfl
        subst hl0
        have ee : upd (upd (Env.get [(0, .val false [.fz (.slice 2 i64) 0 true []]), (2, .val false [.rt 2 i64 33 false true true []])]) 3 .dead) 4 (boolE true) = Env.get [(0, .val false [.fz (.slice 2 i64) 0 true []]), (2, .val false [.rt 2 i64 33 false true true []]), (4, boolE true)] := by
          funext s
          simp only [upd]
          match s with
          | 0 | 1 | 2 | 3 | 4 => rfl
          | s + 5 => rfl
        rw [ee] at st2
        exact evL_sound (T := TT) (K := []) (H := []) (LT := ([] : LTab (Ress [.slice 2 i64]))) (A := fun b => b ∈ ba) (W := fun _ => False) (y := ([], ())) (kn := fun _ => none) (kx := fun _ _ => none) (kr := endK TT [.tmp 2] [.slice 2 i64] true false) mixed tt_ok KOK.nil (fun b hb => (by cases hb)) (by kernel_rfl) (by exact ⟨trivial, trivial⟩) (by kernel_rfl) st2 q3 (fun _ _ _ _ q => (by cases q)) (fun _ _ _ _ _ q => (by cases q)) (fun env' a' w' g' q1 q2 q3 => After_of (C := ⟨[.v (.slice 2 i64)], [.slice 2 i64], true, false, 0, cf91⟩) tt_ok q2 q3 q1)
      | false =>
        have ee : upd (upd (Env.get [(0, .val false [.fz (.slice 2 i64) 0 true l]), (2, .val false [.rt 2 i64 33 false true true []])]) 3 .dead) 4 (boolE false) = Env.get [(0, .val false [.fz (.slice 2 i64) 0 true l]), (2, .val false [.rt 2 i64 33 false true true []]), (4, boolE false)] := by
          funext s
          simp only [upd]
          match s with
          | 0 | 1 | 2 | 3 | 4 => rfl
          | s + 5 => rfl
        rw [ee] at st2
        refine wp_skip ?_
        have hg : growOk 0 l.length = true := decide_eq_true (by omega)
        exact evL_sound (T := TT) (K := []) (H := []) (LT := ([] : LTab (Ress [.slice 2 i64]))) (A := fun b => b ∈ ba) (W := fun _ => False) (y := (l, ())) (kn := fun _ => none) (kx := fun _ _ => none) (kr := endK TT [.tmp 2] [.slice 2 i64] true false) mixed tt_ok KOK.nil (fun b hb => (by cases hb)) (by kernel_rfl) (by exact ⟨trivial, trivial⟩) ((show _ = (bif growOk 0 l.length then some (l, ()) else none) by kernel_rfl).trans (by rw [hg]; rfl)) st2 q3 (fun _ _ _ _ q => (by cases q)) (fun _ _ _ _ _ q => (by cases q)) (fun env' a' w' g' q1 q2 q3 => After_of (C := ⟨[.v (.slice 2 i64)], [.slice 2 i64], true, false, 0, cf91⟩) tt_ok q2 q3 q1)
  · cases hxy
abbrev R139 : Type := Ress [.slice 26 (.slice 2 i64)]
abbrev G139 : Type := Args [.v (.slice 26 (.slice 2 i64)), .fn 140] → Option R139
abbrev R41 : Type := Ress [i64]
abbrev G41 : Type := Args [.v i64, .v i64] → Option R41
abbrev kp41 : List (Nat × List Nat) := [(0, [1, 0]), (1, [4])]
abbrev ct41 : CTab := []
def fn41 (F : Nat) (x : Args [.v i64, .v i64]) : Option R41 :=
  match x with
  | (x0, x1, _) => (bif (!decide (x0 = (0 : Int))) then (bif (!decide (x0 = (0 : Int))) then (some ((Int.tmod (w6 ((Int.tmod x1 x0) + x0)) x0), ())) else none) else none)
theorem ev41 (F : Nat) (x : Args [.v i64, .v i64]) : fnK TT (ct41 ) kp41 [i64] [] (bodyOf Try.f41) [.tmp 4] [.v i64, .v i64] false false x = fn41 F x := by
  obtain ⟨x0, x1, _⟩ := x
  kernel_rfl
theorem ok41 (hK : KOK Try.prog (ct41 )) (cf : G41) (h : ∀ x y, cf x = some y → ∃ F, fn41 F x = some y) : KOne Try.prog 41 ⟨[.v i64, .v i64], [i64], false, false, 0, cf⟩ :=
  fn_one rfl (c := bodyOf Try.f41) mixed tt_ok hK Try.func41 (by kernel_rfl) (by kernel_rfl) (Nat.le_of_ble_eq_true (by kernel_rfl)) (by decide) fun x y hxy => by
    obtain ⟨F, hF⟩ := h x y hxy
    exact ⟨[], LTOK_by (l := []) (by kernel_rfl) trivial, (ev41 F x).trans hF⟩
abbrev R42 : Type := Ress [i64]
abbrev G42 : Type := Args [.v i64, .v i64] → Option R42
abbrev kp42 : List (Nat × List Nat) := [(0, [0, 1]), (1, [5, 0, 1]), (2, [8, 1, 0, 5]), (4, [18, 1, 0, 5]), (5, [4]), (3, [5, 0, 1]), (6, [4])]
abbrev ct42 (g41 : G41) : CTab := [(41, ⟨[.v i64, .v i64], [i64], false, false, 0, g41⟩)]
abbrev kr42 : Env → Option R42 := endK TT [.tmp 4] [i64] false false
abbrev sh42_2 : Shape := [(0, vv i64), (1, vv i64), (5, vv i64)]
def st42_2 (g41 : G41) (F : Nat) (s : ShVal sh42_2) (k kx : ShVal sh42_2 → Option R42) : Option R42 :=
  match s with
  | ((t0, _), (t1, _), (t5, _), _) => (bif decide (t5 < t0) then (match (g41 (t0, (t1, ()))) with | some r10 => (bif (!decide (t0 = (0 : Int))) then (bif decide ((Int.tmod (w6 (t5 * r10.1)) t0) = (1 : Int)) then (some (t5, ())) else k ((t0, ()), ((t1, ()), (((w6 (t5 + (1 : Int))), ()), ())))) else none) | none => none) else kx ((t0, ()), ((t1, ()), ((t5, ()), ()))))
def ru42_2 (g41 : G41) (F : Nat) (s : ShVal sh42_2) (kx : ShVal sh42_2 → Option R42) : Option R42 := iter (fun s k => st42_2 g41 F s k kx) F s
abbrev ls42_2 (g41 : G41) (F : Nat) : LS R42 := ⟨sh42_2, 0, ru42_2 g41 F⟩
def fn42 (g41 : G41) (F : Nat) (x : Args [.v i64, .v i64]) : Option R42 :=
  match x with
  | (x0, x1, _) => (ru42_2 g41 F ((x0, ()), ((x1, ()), (((1 : Int), ()), ()))) (fun s' => match s' with | ((t0, _), (t1, _), (t5, _), _) => (some ((0 : Int), ()))))
theorem ev42_2 (g41 : G41) (F : Nat) (s : ShVal sh42_2) (k kx : ShVal sh42_2 → Option R42) : evL TT (ct42 g41 ) kp42 [] (loopOf Try.f42 2) (envOf sh42_2 s) (fitK sh42_2 k) (fun j e => bif Nat.beq j 0 then fitK sh42_2 kx e else none) kr42 = st42_2 g41 F s k kx := by
  obtain ⟨⟨t0, _⟩, ⟨t1, _⟩, ⟨t5, _⟩, _⟩ := s
  kernel_rfl
theorem ok42_2 (g41 : G41) (F : Nat) (hK : KOK Try.prog (ct42 g41 )) : LSOK Try.prog ⟨20, false, undef⟩ (ls42_2 g41 F) (loopOf Try.f42 2) kr42 :=
  loop_ok (st42_2 g41 F) mixed tt_ok hK (by kernel_rfl) (LTOK_by (l := []) (by kernel_rfl) trivial) (ev42_2 g41 F)
theorem ev42 (g41 : G41) (F : Nat) (x : Args [.v i64, .v i64]) : fnK TT (ct42 g41 ) kp42 [i64] [(2, ls42_2 g41 F)] (bodyOf Try.f42) [.tmp 4] [.v i64, .v i64] false false x = fn42 g41 F x := by
  obtain ⟨x0, x1, _⟩ := x
  kernel_rfl
theorem ok42 (g41 : G41) (hK : KOK Try.prog (ct42 g41 )) (cf : G42) (h : ∀ x y, cf x = some y → ∃ F, fn42 g41 F x = some y) : KOne Try.prog 42 ⟨[.v i64, .v i64], [i64], false, false, 0, cf⟩ :=
  fn_one rfl (c := bodyOf Try.f42) mixed tt_ok hK Try.func42 (by kernel_rfl) (by kernel_rfl) (Nat.le_of_ble_eq_true (by kernel_rfl)) (by decide) fun x y hxy => by
    obtain ⟨F, hF⟩ := h x y hxy
    exact ⟨[(2, ls42_2 g41 F)], LTOK_by (l := [loopOf Try.f42 2]) (by kernel_rfl) ⟨ls_at (by kernel_rfl) (ok42_2 g41 F hK), trivial⟩, (ev42 g41 F x).trans hF⟩
abbrev R39 : Type := Ress [.bool]
abbrev G39 : Type := Args [.v i64, .v i64, .v i64] → Option R39
abbrev kp39 : List (Nat × List Nat) := [(0, [1, 0, 2]), (1, [6])]
abbrev ct39 : CTab := []
def fn39 (F : Nat) (x : Args [.v i64, .v i64, .v i64]) : Option R39 :=
  match x with
  | (x0, x1, x2, _) => (bif decide (x1 ≤ x0) then (some ((bif true then decide (x0 ≤ x2) else false), ())) else (some (false, ())))
theorem ev39 (F : Nat) (x : Args [.v i64, .v i64, .v i64]) : fnK TT (ct39 ) kp39 [.bool] [] (bodyOf Try.f39) [.tmp 6] [.v i64, .v i64, .v i64] false false x = fn39 F x := by
  obtain ⟨x0, x1, x2, _⟩ := x
  kernel_rfl
theorem ok39 (hK : KOK Try.prog (ct39 )) (cf : G39) (h : ∀ x y, cf x = some y → ∃ F, fn39 F x = some y) : KOne Try.prog 39 ⟨[.v i64, .v i64, .v i64], [.bool], false, false, 0, cf⟩ :=
  fn_one rfl (c := bodyOf Try.f39) mixed tt_ok hK Try.func39 (by kernel_rfl) (by kernel_rfl) (Nat.le_of_ble_eq_true (by kernel_rfl)) (by decide) fun x y hxy => by
    obtain ⟨F, hF⟩ := h x y hxy
    exact ⟨[], LTOK_by (l := []) (by kernel_rfl) trivial, (ev39 F x).trans hF⟩
abbrev R70 : Type := Ress [.bool]
abbrev G70 : Type := Args [.v i64] → Option R70
abbrev kp70 : List (Nat × List Nat) := [(0, [0]), (1, [2])]
abbrev ct70 : CTab := []
def fn70 (F : Nat) (x : Args [.v i64]) : Option R70 :=
  match x with
  | (x0, _) => (bif decide (x0 = (2 : Int)) then (some (true, ())) else (bif (bif false then true else decide (x0 = (3 : Int))) then (some (true, ())) else (bif (bif false then true else decide (x0 = (5 : Int))) then (some (true, ())) else (bif (bif false then true else decide (x0 = (7 : Int))) then (some (true, ())) else (bif (bif false then true else decide (x0 = (11 : Int))) then (some (true, ())) else (some ((bif false then true else decide (x0 = (13 : Int))), ())))))))
theorem ev70 (F : Nat) (x : Args [.v i64]) : fnK TT (ct70 ) kp70 [.bool] [] (bodyOf Try.f70) [.tmp 2] [.v i64] false false x = fn70 F x := by
  obtain ⟨x0, _⟩ := x
  kernel_rfl
theorem ok70 (hK : KOK Try.prog (ct70 )) (cf : G70) (h : ∀ x y, cf x = some y → ∃ F, fn70 F x = some y) : KOne Try.prog 70 ⟨[.v i64], [.bool], false, false, 0, cf⟩ :=
  fn_one rfl (c := bodyOf Try.f70) mixed tt_ok hK Try.func70 (by kernel_rfl) (by kernel_rfl) (Nat.le_of_ble_eq_true (by kernel_rfl)) (by decide) fun x y hxy => by
    obtain ⟨F, hF⟩ := h x y hxy
    exact ⟨[], LTOK_by (l := []) (by kernel_rfl) trivial, (ev70 F x).trans hF⟩
abbrev R114 : Type := Ress [.bool]
abbrev G114 : Type := Args [.v i64] → Option R114
abbrev kp114 : List (Nat × List Nat) := [(0, [0]), (1, [2])]
abbrev ct114 : CTab := []
def fn114 (F : Nat) (x : Args [.v i64]) : Option R114 :=
  match x with
  | (x0, _) => (bif decide (x0 = (2 : Int)) then (some (true, ())) else (bif (bif false then true else decide (x0 = (3 : Int))) then (some (true, ())) else (bif (bif false then true else decide (x0 = (5 : Int))) then (some (true, ())) else (bif (bif false then true else decide (x0 = (7 : Int))) then (some (true, ())) else (bif (bif false then true else decide (x0 = (11 : Int))) then (some (true, ())) else (some ((bif false then true else decide (x0 = (13 : Int))), ())))))))
theorem ev114 (F : Nat) (x : Args [.v i64]) : fnK TT (ct114 ) kp114 [.bool] [] (bodyOf Try.f114) [.tmp 2] [.v i64] false false x = fn114 F x := by
  obtain ⟨x0, _⟩ := x
  kernel_rfl
theorem ok114 (hK : KOK Try.prog (ct114 )) (cf : G114) (h : ∀ x y, cf x = some y → ∃ F, fn114 F x = some y) : KOne Try.prog 114 ⟨[.v i64], [.bool], false, false, 0, cf⟩ :=
  fn_one rfl (c := bodyOf Try.f114) mixed tt_ok hK Try.func114 (by kernel_rfl) (by kernel_rfl) (Nat.le_of_ble_eq_true (by kernel_rfl)) (by decide) fun x y hxy => by
    obtain ⟨F, hF⟩ := h x y hxy
    exact ⟨[], LTOK_by (l := []) (by kernel_rfl) trivial, (ev114 F x).trans hF⟩
abbrev R115 : Type := Ress [.bool]
abbrev G115 : Type := Args [.v i64] → Option R115
abbrev kp115 : List (Nat × List Nat) := [(0, [0]), (1, [2])]
abbrev ct115 : CTab := []
def fn115 (F : Nat) (x : Args [.v i64]) : Option R115 :=
  match x with
  | (x0, _) => (bif decide ((1 : Int) ≤ x0) then (some ((bif true then decide (x0 ≤ (3 : Int)) else false), ())) else (some (false, ())))
theorem ev115 (F : Nat) (x : Args [.v i64]) : fnK TT (ct115 ) kp115 [.bool] [] (bodyOf Try.f115) [.tmp 2] [.v i64] false false x = fn115 F x := by
  obtain ⟨x0, _⟩ := x
  kernel_rfl
theorem ok115 (hK : KOK Try.prog (ct115 )) (cf : G115) (h : ∀ x y, cf x = some y → ∃ F, fn115 F x = some y) : KOne Try.prog 115 ⟨[.v i64], [.bool], false, false, 0, cf⟩ :=
  fn_one rfl (c := bodyOf Try.f115) mixed tt_ok hK Try.func115 (by kernel_rfl) (by kernel_rfl) (Nat.le_of_ble_eq_true (by kernel_rfl)) (by decide) fun x y hxy => by
    obtain ⟨F, hF⟩ := h x y hxy
    exact ⟨[], LTOK_by (l := []) (by kernel_rfl) trivial, (ev115 F x).trans hF⟩
abbrev R153 : Type := Ress [(.slice 2 i64)]
abbrev G153 : Type := Args [.v (.slice 2 i64)] → Option R153
abbrev kp153 : List (Nat × List Nat) := [(0, [0]), (1, [2])]
abbrev ct153 : CTab := []
def fn153 (F : Nat) (x : Args [.v (.slice 2 i64)]) : Option R153 :=
  match x with
  | (x0, _) => (bif (growOk (0 : Nat) (List.length x0)) then (some (([] ++ x0), ())) else none)
theorem ev153 (F : Nat) (x : Args [.v (.slice 2 i64)]) : fnK TT (ct153 ) kp153 [(.slice 2 i64)] [] (bodyOf Try.f153) [.tmp 2] [.v (.slice 2 i64)] true false x = fn153 F x := by
  obtain ⟨x0, _⟩ := x
  kernel_rfl
theorem ok153 (hK : KOK Try.prog (ct153 )) (cf : G153) (h : ∀ x y, cf x = some y → ∃ F, fn153 F x = some y) : KOne Try.prog 153 ⟨[.v (.slice 2 i64)], [(.slice 2 i64)], true, false, 0, cf⟩ :=
  fn_one rfl (c := bodyOf Try.f153) mixed tt_ok hK Try.func153 (by kernel_rfl) (by kernel_rfl) (Nat.le_of_ble_eq_true (by kernel_rfl)) (by decide) fun x y hxy => by
    obtain ⟨F, hF⟩ := h x y hxy
    exact ⟨[], LTOK_by (l := []) (by kernel_rfl) trivial, (ev153 F x).trans hF⟩
abbrev R130 : Type := Ress [i64]
abbrev G130 : Type := Args [.v (.slice 2 i64)] → Option R130
abbrev kp130 : List (Nat × List Nat) := [(0, [0]), (1, [3, 0]), (2, [7, 0, 3]), (4, [14, 0, 3]), (5, [2]), (3, [3, 0]), (6, [2])]
abbrev ct130 : CTab := []
abbrev kr130 : Env → Option R130 := endK TT [.tmp 2] [i64] false false
abbrev sh130_2 : Shape := [(0, .val false [.fz (.slice 2 i64) 0 true]), (3, vv i64)]
def st130_2 (F : Nat) (s : ShVal sh130_2) (k kx : ShVal sh130_2 → Option R130) : Option R130 :=
  match s with
  | ((t0, _), (t3, _), _) => (bif decide ((List.length t0) ≤ 9223372036854775807) then (bif decide (t3 < (Int.ofNat (List.length t0))) then (bif ib t3 (Int.ofNat (List.length t0)) then (bif (!decide ((List.getD t0 (tn t3) (0 : Int)) = (0 : Int))) then (some (t3, ())) else k ((t0, ()), (((w6 (t3 + (1 : Int))), ()), ()))) else none) else kx ((t0, ()), ((t3, ()), ()))) else none)
def ru130_2 (F : Nat) (s : ShVal sh130_2) (kx : ShVal sh130_2 → Option R130) : Option R130 := iter (fun s k => st130_2 F s k kx) F s
abbrev ls130_2 (F : Nat) : LS R130 := ⟨sh130_2, 0, ru130_2 F⟩
def fn130 (F : Nat) (x : Args [.v (.slice 2 i64)]) : Option R130 :=
  match x with
  | (x0, _) => (ru130_2 F ((x0, ()), (((0 : Int), ()), ())) (fun s' => match s' with | ((t0, _), (t3, _), _) => (some ((-(1 : Int)), ()))))
theorem ev130_2 (F : Nat) (s : ShVal sh130_2) (k kx : ShVal sh130_2 → Option R130) : evL TT (ct130 ) kp130 [] (loopOf Try.f130 2) (envOf sh130_2 s) (fitK sh130_2 k) (fun j e => bif Nat.beq j 0 then fitK sh130_2 kx e else none) kr130 = st130_2 F s k kx := by
  obtain ⟨⟨t0, _⟩, ⟨t3, _⟩, _⟩ := s
  kernel_rfl
theorem ok130_2 (F : Nat) (hK : KOK Try.prog (ct130 )) : LSOK Try.prog ⟨16, false, undef⟩ (ls130_2 F) (loopOf Try.f130 2) kr130 :=
  loop_ok (st130_2 F) mixed tt_ok hK (by kernel_rfl) (LTOK_by (l := []) (by kernel_rfl) trivial) (ev130_2 F)
theorem ev130 (F : Nat) (x : Args [.v (.slice 2 i64)]) : fnK TT (ct130 ) kp130 [i64] [(2, ls130_2 F)] (bodyOf Try.f130) [.tmp 2] [.v (.slice 2 i64)] false false x = fn130 F x := by
  obtain ⟨x0, _⟩ := x
  kernel_rfl
theorem ok130 (hK : KOK Try.prog (ct130 )) (cf : G130) (h : ∀ x y, cf x = some y → ∃ F, fn130 F x = some y) : KOne Try.prog 130 ⟨[.v (.slice 2 i64)], [i64], false, false, 0, cf⟩ :=
  fn_one rfl (c := bodyOf Try.f130) mixed tt_ok hK Try.func130 (by kernel_rfl) (by kernel_rfl) (Nat.le_of_ble_eq_true (by kernel_rfl)) (by decide) fun x y hxy => by
    obtain ⟨F, hF⟩ := h x y hxy
    exact ⟨[(2, ls130_2 F)], LTOK_by (l := [loopOf Try.f130 2]) (by kernel_rfl) ⟨ls_at (by kernel_rfl) (ok130_2 F hK), trivial⟩, (ev130 F x).trans hF⟩
abbrev R135 : Type := Ress [(.slice 2 i64)]
abbrev G135 : Type := Args [.v i64, .v (.slice 2 i64), .v (.slice 2 i64), .v i64] → Option R135
abbrev kp135 : List (Nat × List Nat) := [(0, [2, 3, 1, 0]), (1, [2, 3, 1, 0, 9]), (2, [10, 2, 3, 1, 0, 9]), (3, [15, 9, 10, 2, 3, 1, 0]), (5, [10, 2, 3, 1, 0, 9]), (4, [10, 2, 3, 1, 0, 9]), (6, [8])]
abbrev ct135 (g41 : G41) : CTab := [(41, ⟨[.v i64, .v i64], [i64], false, false, 0, g41⟩)]
abbrev kr135 : Env → Option R135 := endK TT [.tmp 8] [(.slice 2 i64)] true false
abbrev sh135_3 : Shape := [(0, vv i64), (1, .val false [.fz (.slice 2 i64) 0 true]), (2, .val false [.fz (.slice 2 i64) 0 true]), (3, vv i64), (9, vr 2 i64 145 false), (10, vv i64)]
def st135_3 (g41 : G41) (F : Nat) (s : ShVal sh135_3) (k kx : ShVal sh135_3 → Option R135) : Option R135 :=
  match s with
  | ((t0, _), (t1, _), (t2, _), (t3, _), (t9, _), (t10, _), _) => (bif decide ((List.length t1) ≤ 9223372036854775807) then (bif decide (t10 < (Int.ofNat (List.length t1))) then (bif ib t10 (Int.ofNat (List.length t1)) then (bif ib t10 (Int.ofNat (List.length t2)) then (match (g41 (t0, ((w6 ((List.getD t1 (tn t10) (0 : Int)) - (w6 (t3 * (List.getD t2 (tn t10) (0 : Int)))))), ()))) with | some r16 => (bif (growOk (List.length t9) (List.length (r16.1 :: []))) then k ((t0, ()), ((t1, ()), ((t2, ()), ((t3, ()), (((t9 ++ (r16.1 :: [])), ()), (((w6 (t10 + (1 : Int))), ()), ())))))) else none) | none => none) else none) else none) else kx ((t0, ()), ((t1, ()), ((t2, ()), ((t3, ()), ((t9, ()), ((t10, ()), ()))))))) else none)
def ru135_3 (g41 : G41) (F : Nat) (s : ShVal sh135_3) (kx : ShVal sh135_3 → Option R135) : Option R135 := iter (fun s k => st135_3 g41 F s k kx) F s
abbrev ls135_3 (g41 : G41) (F : Nat) : LS R135 := ⟨sh135_3, 0, ru135_3 g41 F⟩
def fn135 (g41 : G41) (F : Nat) (x : Args [.v i64, .v (.slice 2 i64), .v (.slice 2 i64), .v i64]) : Option R135 :=
  match x with
  | (x0, x1, x2, x3, _) => (ru135_3 g41 F ((x0, ()), ((x1, ()), ((x2, ()), ((x3, ()), (([], ()), (((0 : Int), ()), ())))))) (fun s' => match s' with | ((t0, _), (t1, _), (t2, _), (t3, _), (t9, _), (t10, _), _) => (some (t9, ()))))
theorem ev135_3 (g41 : G41) (F : Nat) (s : ShVal sh135_3) (k kx : ShVal sh135_3 → Option R135) : evL TT (ct135 g41 ) kp135 [] (loopOf Try.f135 3) (envOf sh135_3 s) (fitK sh135_3 k) (fun j e => bif Nat.beq j 0 then fitK sh135_3 kx e else none) kr135 = st135_3 g41 F s k kx := by
  obtain ⟨⟨t0, _⟩, ⟨t1, _⟩, ⟨t2, _⟩, ⟨t3, _⟩, ⟨t9, _⟩, ⟨t10, _⟩, _⟩ := s
  kernel_rfl
theorem ok135_3 (g41 : G41) (F : Nat) (hK : KOK Try.prog (ct135 g41 )) : LSOK Try.prog ⟨35, false, undef⟩ (ls135_3 g41 F) (loopOf Try.f135 3) kr135 :=
  loop_ok (st135_3 g41 F) mixed tt_ok hK (by kernel_rfl) (LTOK_by (l := []) (by kernel_rfl) trivial) (ev135_3 g41 F)
theorem ev135 (g41 : G41) (F : Nat) (x : Args [.v i64, .v (.slice 2 i64), .v (.slice 2 i64), .v i64]) : fnK TT (ct135 g41 ) kp135 [(.slice 2 i64)] [(3, ls135_3 g41 F)] (bodyOf Try.f135) [.tmp 8] [.v i64, .v (.slice 2 i64), .v (.slice 2 i64), .v i64] true false x = fn135 g41 F x := by
  obtain ⟨x0, x1, x2, x3, _⟩ := x
  kernel_rfl
theorem ok135 (g41 : G41) (hK : KOK Try.prog (ct135 g41 )) (cf : G135) (h : ∀ x y, cf x = some y → ∃ F, fn135 g41 F x = some y) : KOne Try.prog 135 ⟨[.v i64, .v (.slice 2 i64), .v (.slice 2 i64), .v i64], [(.slice 2 i64)], true, false, 0, cf⟩ :=
  fn_one rfl (c := bodyOf Try.f135) mixed tt_ok hK Try.func135 (by kernel_rfl) (by kernel_rfl) (Nat.le_of_ble_eq_true (by kernel_rfl)) (by decide) fun x y hxy => by
    obtain ⟨F, hF⟩ := h x y hxy
    exact ⟨[(3, ls135_3 g41 F)], LTOK_by (l := [loopOf Try.f135 3]) (by kernel_rfl) ⟨ls_at (by kernel_rfl) (ok135_3 g41 F hK), trivial⟩, (ev135 g41 F x).trans hF⟩
abbrev R134 : Type := Ress [(.slice 2 i64)]
abbrev G134 : Type := Args [.v i64, .v (.slice 26 (.slice 2 i64)), .v (.slice 2 i64)] → Option R134
abbrev kp134 : List (Nat × List Nat) := [(0, [2, 1, 0]), (1, [1, 7, 0]), (2, [8, 1, 7, 0]), (3, [15, 7, 8, 1, 0]), (5, [7, 9, 8, 1, 0]), (6, [27, 7, 9, 8, 1, 0]), (7, [8, 1, 7, 0]), (4, [8, 1, 7, 0]), (8, [6])]
abbrev ct134 (g153 : G153) (g135 : G135) (g130 : G130) : CTab := [(153, ⟨[.v (.slice 2 i64)], [(.slice 2 i64)], true, false, 0, g153⟩), (135, ⟨[.v i64, .v (.slice 2 i64), .v (.slice 2 i64), .v i64], [(.slice 2 i64)], true, false, 0, g135⟩), (130, ⟨[.v (.slice 2 i64)], [i64], false, false, 0, g130⟩)]
abbrev kr134 : Env → Option R134 := endK TT [.tmp 6] [(.slice 2 i64)] true false
abbrev sh134_3 : Shape := [(0, vv i64), (1, .val false [.fz (.slice 26 (.slice 2 i64)) 0 true]), (7, vr 2 i64 113 false), (8, vv i64)]
def st134_3 (g153 : G153) (g135 : G135) (g130 : G130) (F : Nat) (s : ShVal sh134_3) (k kx : ShVal sh134_3 → Option R134) : Option R134 :=
  match s with
  | ((t0, _), (t1, _), (t7, _), (t8, _), _) => (bif decide ((List.length t1) ≤ 9223372036854775807) then (bif decide (t8 < (Int.ofNat (List.length t1))) then (bif ib t8 (Int.ofNat (List.length t1)) then (match (g130 ((List.getD t1 (tn t8) []), ())) with | some r16 => (bif ib r16.1 (Int.ofNat (List.length t7)) then (bif (!decide ((List.getD t7 (tn r16.1) (0 : Int)) = (0 : Int))) then (bif ib t8 (Int.ofNat (List.length t1)) then (match (g135 (t0, (t7, ((List.getD t1 (tn t8) []), ((List.getD t7 (tn r16.1) (0 : Int)), ()))))) with | some r19 => k ((t0, ()), ((t1, ()), ((r19.1, ()), (((w6 (t8 + (1 : Int))), ()), ())))) | none => none) else none) else k ((t0, ()), ((t1, ()), ((t7, ()), (((w6 (t8 + (1 : Int))), ()), ()))))) else none) | none => none) else none) else kx ((t0, ()), ((t1, ()), ((t7, ()), ((t8, ()), ()))))) else none)
def ru134_3 (g153 : G153) (g135 : G135) (g130 : G130) (F : Nat) (s : ShVal sh134_3) (kx : ShVal sh134_3 → Option R134) : Option R134 := iter (fun s k => st134_3 g153 g135 g130 F s k kx) F s
abbrev ls134_3 (g153 : G153) (g135 : G135) (g130 : G130) (F : Nat) : LS R134 := ⟨sh134_3, 0, ru134_3 g153 g135 g130 F⟩
def fn134 (g153 : G153) (g135 : G135) (g130 : G130) (F : Nat) (x : Args [.v i64, .v (.slice 26 (.slice 2 i64)), .v (.slice 2 i64)]) : Option R134 :=
  match x with
  | (x0, x1, x2, _) => (match (g153 (x2, ())) with | some r8 => (ru134_3 g153 g135 g130 F ((x0, ()), ((x1, ()), ((r8.1, ()), (((0 : Int), ()), ())))) (fun s' => match s' with | ((t0, _), (t1, _), (t7, _), (t8, _), _) => (some (t7, ())))) | none => none)
theorem ev134_3 (g153 : G153) (g135 : G135) (g130 : G130) (F : Nat) (s : ShVal sh134_3) (k kx : ShVal sh134_3 → Option R134) : evL TT (ct134 g153 g135 g130 ) kp134 [] (loopOf Try.f134 3) (envOf sh134_3 s) (fitK sh134_3 k) (fun j e => bif Nat.beq j 0 then fitK sh134_3 kx e else none) kr134 = st134_3 g153 g135 g130 F s k kx := by
  obtain ⟨⟨t0, _⟩, ⟨t1, _⟩, ⟨t7, _⟩, ⟨t8, _⟩, _⟩ := s
  kernel_rfl
theorem ok134_3 (g153 : G153) (g135 : G135) (g130 : G130) (F : Nat) (hK : KOK Try.prog (ct134 g153 g135 g130 )) : LSOK Try.prog ⟨37, false, undef⟩ (ls134_3 g153 g135 g130 F) (loopOf Try.f134 3) kr134 :=
  loop_ok (st134_3 g153 g135 g130 F) mixed tt_ok hK (by kernel_rfl) (LTOK_by (l := []) (by kernel_rfl) trivial) (ev134_3 g153 g135 g130 F)
theorem ev134 (g153 : G153) (g135 : G135) (g130 : G130) (F : Nat) (x : Args [.v i64, .v (.slice 26 (.slice 2 i64)), .v (.slice 2 i64)]) : fnK TT (ct134 g153 g135 g130 ) kp134 [(.slice 2 i64)] [(3, ls134_3 g153 g135 g130 F)] (bodyOf Try.f134) [.tmp 6] [.v i64, .v (.slice 26 (.slice 2 i64)), .v (.slice 2 i64)] true false x = fn134 g153 g135 g130 F x := by
  obtain ⟨x0, x1, x2, _⟩ := x
  kernel_rfl
theorem ok134 (g153 : G153) (g135 : G135) (g130 : G130) (hK : KOK Try.prog (ct134 g153 g135 g130 )) (cf : G134) (h : ∀ x y, cf x = some y → ∃ F, fn134 g153 g135 g130 F x = some y) : KOne Try.prog 134 ⟨[.v i64, .v (.slice 26 (.slice 2 i64)), .v (.slice 2 i64)], [(.slice 2 i64)], true, false, 0, cf⟩ :=
  fn_one rfl (c := bodyOf Try.f134) mixed tt_ok hK Try.func134 (by kernel_rfl) (by kernel_rfl) (Nat.le_of_ble_eq_true (by kernel_rfl)) (by decide) fun x y hxy => by
    obtain ⟨F, hF⟩ := h x y hxy
    exact ⟨[(3, ls134_3 g153 g135 g130 F)], LTOK_by (l := [loopOf Try.f134 3]) (by kernel_rfl) ⟨ls_at (by kernel_rfl) (ok134_3 g153 g135 g130 F hK), trivial⟩, (ev134 g153 g135 g130 F x).trans hF⟩
abbrev R121 : Type := Ress [(.slice 26 (.slice 2 i64))]
abbrev G121 : Type := Args [.v i64, .v (.slice 26 (.slice 2 i64))] → Option R121
abbrev kp121 : List (Nat × List Nat) := [(0, [0, 1]), (1, [0, 5, 1]), (2, [6, 0, 5, 1]), (3, [18, 6, 0, 5, 1]), (5, [7, 6, 0, 5, 1]), (6, [8, 7, 6, 0, 5, 1]), (7, [31, 8, 7, 6, 0, 5, 1]), (8, [0, 9, 7, 8, 5, 6, 1]), (9, [10, 0, 9, 7, 8, 5, 6, 1]), (10, [41, 10, 0, 9, 7, 8, 5, 6, 1]), (12, [10, 0, 9, 7, 8, 5, 6, 1]), (11, [10, 0, 9, 7, 8, 5, 6, 1]), (13, [8, 5, 7, 0, 11, 12, 6, 1]), (14, [13, 8, 5, 7, 0, 11, 12, 6, 1]), (15, [59, 12, 11, 13, 8, 5, 7, 0, 6, 1]), (17, [72, 12, 11, 13, 8, 5, 7, 0, 6, 1]), (18, [11, 13, 8, 5, 7, 0, 6, 1]), (19, [11, 13, 8, 5, 7, 0, 12, 6, 1]), (20, [13, 8, 5, 7, 0, 11, 12, 6, 1]), (16, [13, 8, 5, 7, 0, 11, 12, 6, 1]), (21, [95, 11, 7, 6, 0, 1]), (22, [11, 6, 0, 1]), (23, [6, 0, 5, 1]), (4, [6, 0, 5, 1]), (24, [4])]
abbrev ct121 (g130 : G130) (g42 : G42) (g135 : G135) (g134 : G134) : CTab := [(130, ⟨[.v (.slice 2 i64)], [i64], false, false, 0, g130⟩), (42, ⟨[.v i64, .v i64], [i64], false, false, 0, g42⟩), (135, ⟨[.v i64, .v (.slice 2 i64), .v (.slice 2 i64), .v i64], [(.slice 2 i64)], true, false, 0, g135⟩), (134, ⟨[.v i64, .v (.slice 26 (.slice 2 i64)), .v (.slice 2 i64)], [(.slice 2 i64)], true, false, 0, g134⟩)]
abbrev kr121 : Env → Option R121 := endK TT [.tmp 4] [(.slice 26 (.slice 2 i64))] false false
abbrev sh121_10 : Shape := [(0, vv i64), (1, .val false [.fz (.slice 26 (.slice 2 i64)) 0 true]), (5, .val false [.rt 26 (.slice 2 i64) 81 false false false]), (6, vv i64), (7, vr 2 i64 113 false), (8, vv i64), (9, vv i64), (10, vv i64)]
def st121_10 (g130 : G130) (g42 : G42) (g135 : G135) (g134 : G134) (F : Nat) (s : ShVal sh121_10) (k kx : ShVal sh121_10 → Option R121) : Option R121 :=
  match s with
  | ((t0, _), (t1, _), (t5, _), (t6, _), (t7, _), (t8, _), (t9, _), (t10, _), _) => (bif decide ((List.length t7) ≤ 9223372036854775807) then (bif decide (t10 < (Int.ofNat (List.length t7))) then (bif ib t10 (Int.ofNat (List.length t7)) then (bif (!decide (t0 = (0 : Int))) then (bif ib t10 (Int.ofNat (List.length t7)) then k ((t0, ()), ((t1, ()), ((t5, ()), ((t6, ()), (((List.set t7 (tn t10) (Int.tmod (w6 ((List.getD t7 (tn t10) (0 : Int)) * t9)) t0)), ()), ((t8, ()), ((t9, ()), (((w6 (t10 + (1 : Int))), ()), ())))))))) else none) else none) else none) else kx ((t0, ()), ((t1, ()), ((t5, ()), ((t6, ()), ((t7, ()), ((t8, ()), ((t9, ()), ((t10, ()), ()))))))))) else none)
def ru121_10 (g130 : G130) (g42 : G42) (g135 : G135) (g134 : G134) (F : Nat) (s : ShVal sh121_10) (kx : ShVal sh121_10 → Option R121) : Option R121 := iter (fun s k => st121_10 g130 g42 g135 g134 F s k kx) F s
abbrev ls121_10 (g130 : G130) (g42 : G42) (g135 : G135) (g134 : G134) (F : Nat) : LS R121 := ⟨sh121_10, 2, ru121_10 g130 g42 g135 g134 F⟩
abbrev sh121_15 : Shape := [(0, vv i64), (1, .val false [.fz (.slice 26 (.slice 2 i64)) 0 true]), (5, .val false [.rt 26 (.slice 2 i64) 81 false false false]), (6, vv i64), (7, vv (.slice 2 i64)), (8, vv i64), (11, .val false [.rt 26 (.slice 2 i64) 177 false false false]), (12, vv .bool), (13, vv i64)]
def st121_15 (g130 : G130) (g42 : G42) (g135 : G135) (g134 : G134) (F : Nat) (s : ShVal sh121_15) (k kx : ShVal sh121_15 → Option R121) : Option R121 :=
  match s with
  | ((t0, _), (t1, _), (t5, _), (t6, _), (t7, _), (t8, _), (t11, _), (t12, _), (t13, _), _) => (bif decide ((List.length t5) ≤ 9223372036854775807) then (bif decide (t13 < (Int.ofNat (List.length t5))) then (bif (!t12) then (bif ib t13 (Int.ofNat (List.length t5)) then (match (g130 ((List.getD t5 (tn t13) []), ())) with | some r43 => (bif (bif true then decide (t8 < r43.1) else false) then (bif (growOk (List.length t11) (List.length (t7 :: []))) then (bif ib t13 (Int.ofNat (List.length t5)) then (bif ib t13 (Int.ofNat (List.length t5)) then (bif ib t8 (Int.ofNat (List.length (List.getD t5 (tn t13) []))) then (match (g135 (t0, ((List.getD t5 (tn t13) []), (t7, ((List.getD (List.getD t5 (tn t13) []) (tn t8) (0 : Int)), ()))))) with | some r47 => (bif (growOk (List.length (t11 ++ (t7 :: []))) (List.length (r47.1 :: []))) then k ((t0, ()), ((t1, ()), ((t5, ()), ((t6, ()), ((t7, ()), ((t8, ()), ((((t11 ++ (t7 :: [])) ++ (r47.1 :: [])), ()), ((true, ()), (((w6 (t13 + (1 : Int))), ()), ()))))))))) else none) | none => none) else none) else none) else none) else none) else (bif ib t13 (Int.ofNat (List.length t5)) then (bif ib t13 (Int.ofNat (List.length t5)) then (bif ib t8 (Int.ofNat (List.length (List.getD t5 (tn t13) []))) then (match (g135 (t0, ((List.getD t5 (tn t13) []), (t7, ((List.getD (List.getD t5 (tn t13) []) (tn t8) (0 : Int)), ()))))) with | some r45 => (bif (growOk (List.length t11) (List.length (r45.1 :: []))) then k ((t0, ()), ((t1, ()), ((t5, ()), ((t6, ()), ((t7, ()), ((t8, ()), (((t11 ++ (r45.1 :: [])), ()), ((t12, ()), (((w6 (t13 + (1 : Int))), ()), ()))))))))) else none) | none => none) else none) else none) else none)) | none => none) else none) else (bif ib t13 (Int.ofNat (List.length t5)) then (bif ib t13 (Int.ofNat (List.length t5)) then (bif ib t8 (Int.ofNat (List.length (List.getD t5 (tn t13) []))) then (match (g135 (t0, ((List.getD t5 (tn t13) []), (t7, ((List.getD (List.getD t5 (tn t13) []) (tn t8) (0 : Int)), ()))))) with | some r44 => (bif (growOk (List.length t11) (List.length (r44.1 :: []))) then k ((t0, ()), ((t1, ()), ((t5, ()), ((t6, ()), ((t7, ()), ((t8, ()), (((t11 ++ (r44.1 :: [])), ()), ((t12, ()), (((w6 (t13 + (1 : Int))), ()), ()))))))))) else none) | none => none) else none) else none) else none)) else kx ((t0, ()), ((t1, ()), ((t5, ()), ((t6, ()), ((t7, ()), ((t8, ()), ((t11, ()), ((t12, ()), ((t13, ()), ())))))))))) else none)
def ru121_15 (g130 : G130) (g42 : G42) (g135 : G135) (g134 : G134) (F : Nat) (s : ShVal sh121_15) (kx : ShVal sh121_15 → Option R121) : Option R121 := iter (fun s k => st121_15 g130 g42 g135 g134 F s k kx) F s
abbrev ls121_15 (g130 : G130) (g42 : G42) (g135 : G135) (g134 : G134) (F : Nat) : LS R121 := ⟨sh121_15, 4, ru121_15 g130 g42 g135 g134 F⟩
abbrev sh121_3 : Shape := [(0, vv i64), (1, .val false [.fz (.slice 26 (.slice 2 i64)) 0 true]), (5, .val false [.rt 26 (.slice 2 i64) 81 false false false]), (6, vv i64)]
def st121_3 (g130 : G130) (g42 : G42) (g135 : G135) (g134 : G134) (F : Nat) (s : ShVal sh121_3) (k kx : ShVal sh121_3 → Option R121) : Option R121 :=
  match s with
  | ((t0, _), (t1, _), (t5, _), (t6, _), _) => (bif decide ((List.length t1) ≤ 9223372036854775807) then (bif decide (t6 < (Int.ofNat (List.length t1))) then (bif ib t6 (Int.ofNat (List.length t1)) then (match (g134 (t0, (t5, ((List.getD t1 (tn t6) []), ())))) with | some r15 => (match (g130 (r15.1, ())) with | some r17 => (bif decide (r17.1 < (0 : Int)) then k ((t0, ()), ((t1, ()), ((t5, ()), (((w6 (t6 + (1 : Int))), ()), ())))) else (bif ib r17.1 (Int.ofNat (List.length r15.1)) then (match (g42 (t0, ((List.getD r15.1 (tn r17.1) (0 : Int)), ()))) with | some r20 => (ru121_10 g130 g42 g135 g134 F ((t0, ()), ((t1, ()), ((t5, ()), ((t6, ()), ((r15.1, ()), ((r17.1, ()), ((r20.1, ()), (((0 : Int), ()), ())))))))) (fun s' => match s' with | ((t0, _), (t1, _), (t5, _), (t6, _), (t7, _), (t8, _), (t9, _), (t10, _), _) => (ru121_15 g130 g42 g135 g134 F ((t0, ()), ((t1, ()), ((t5, ()), ((t6, ()), ((t7, ()), ((t8, ()), (([], ()), ((false, ()), (((0 : Int), ()), ()))))))))) (fun s' => match s' with | ((t0, _), (t1, _), (t5, _), (t6, _), (t7, _), (t8, _), (t11, _), (t12, _), (t13, _), _) => (bif (!t12) then (bif (growOk (List.length t11) (List.length (t7 :: []))) then k ((t0, ()), ((t1, ()), (((t11 ++ (t7 :: [])), ()), (((w6 (t6 + (1 : Int))), ()), ())))) else none) else k ((t0, ()), ((t1, ()), ((t11, ()), (((w6 (t6 + (1 : Int))), ()), ()))))))))) | none => none) else none)) | none => none) | none => none) else none) else kx ((t0, ()), ((t1, ()), ((t5, ()), ((t6, ()), ()))))) else none)
def ru121_3 (g130 : G130) (g42 : G42) (g135 : G135) (g134 : G134) (F : Nat) (s : ShVal sh121_3) (kx : ShVal sh121_3 → Option R121) : Option R121 := iter (fun s k => st121_3 g130 g42 g135 g134 F s k kx) F s
abbrev ls121_3 (g130 : G130) (g42 : G42) (g135 : G135) (g134 : G134) (F : Nat) : LS R121 := ⟨sh121_3, 0, ru121_3 g130 g42 g135 g134 F⟩
def fn121 (g130 : G130) (g42 : G42) (g135 : G135) (g134 : G134) (F : Nat) (x : Args [.v i64, .v (.slice 26 (.slice 2 i64))]) : Option R121 :=
  match x with
  | (x0, x1, _) => (ru121_3 g130 g42 g135 g134 F ((x0, ()), ((x1, ()), (([], ()), (((0 : Int), ()), ())))) (fun s' => match s' with | ((t0, _), (t1, _), (t5, _), (t6, _), _) => (some (t5, ()))))
theorem ev121_10 (g130 : G130) (g42 : G42) (g135 : G135) (g134 : G134) (F : Nat) (s : ShVal sh121_10) (k kx : ShVal sh121_10 → Option R121) : evL TT (ct121 g130 g42 g135 g134 ) kp121 [] (loopOf Try.f121 10) (envOf sh121_10 s) (fitK sh121_10 k) (fun j e => bif Nat.beq j 2 then fitK sh121_10 kx e else none) kr121 = st121_10 g130 g42 g135 g134 F s k kx := by
  obtain ⟨⟨t0, _⟩, ⟨t1, _⟩, ⟨t5, _⟩, ⟨t6, _⟩, ⟨t7, _⟩, ⟨t8, _⟩, ⟨t9, _⟩, ⟨t10, _⟩, _⟩ := s
  kernel_rfl
theorem ok121_10 (g130 : G130) (g42 : G42) (g135 : G135) (g134 : G134) (F : Nat) (hK : KOK Try.prog (ct121 g130 g42 g135 g134 )) : LSOK Try.prog ⟨102, false, undef⟩ (ls121_10 g130 g42 g135 g134 F) (loopOf Try.f121 10) kr121 :=
  loop_ok (st121_10 g130 g42 g135 g134 F) mixed tt_ok hK (by kernel_rfl) (LTOK_by (l := []) (by kernel_rfl) trivial) (ev121_10 g130 g42 g135 g134 F)
theorem ev121_15 (g130 : G130) (g42 : G42) (g135 : G135) (g134 : G134) (F : Nat) (s : ShVal sh121_15) (k kx : ShVal sh121_15 → Option R121) : evL TT (ct121 g130 g42 g135 g134 ) kp121 [] (loopOf Try.f121 15) (envOf sh121_15 s) (fitK sh121_15 k) (fun j e => bif Nat.beq j 4 then fitK sh121_15 kx e else none) kr121 = st121_15 g130 g42 g135 g134 F s k kx := by
  obtain ⟨⟨t0, _⟩, ⟨t1, _⟩, ⟨t5, _⟩, ⟨t6, _⟩, ⟨t7, _⟩, ⟨t8, _⟩, ⟨t11, _⟩, ⟨t12, _⟩, ⟨t13, _⟩, _⟩ := s
  kernel_rfl
theorem ok121_15 (g130 : G130) (g42 : G42) (g135 : G135) (g134 : G134) (F : Nat) (hK : KOK Try.prog (ct121 g130 g42 g135 g134 )) : LSOK Try.prog ⟨102, false, undef⟩ (ls121_15 g130 g42 g135 g134 F) (loopOf Try.f121 15) kr121 :=
  loop_ok (st121_15 g130 g42 g135 g134 F) mixed tt_ok hK (by kernel_rfl) (LTOK_by (l := []) (by kernel_rfl) trivial) (ev121_15 g130 g42 g135 g134 F)
theorem ev121_3 (g130 : G130) (g42 : G42) (g135 : G135) (g134 : G134) (F : Nat) (s : ShVal sh121_3) (k kx : ShVal sh121_3 → Option R121) : evL TT (ct121 g130 g42 g135 g134 ) kp121 [(10, ls121_10 g130 g42 g135 g134 F), (15, ls121_15 g130 g42 g135 g134 F)] (loopOf Try.f121 3) (envOf sh121_3 s) (fitK sh121_3 k) (fun j e => bif Nat.beq j 0 then fitK sh121_3 kx e else none) kr121 = st121_3 g130 g42 g135 g134 F s k kx := by
  obtain ⟨⟨t0, _⟩, ⟨t1, _⟩, ⟨t5, _⟩, ⟨t6, _⟩, _⟩ := s
  kernel_rfl
theorem ok121_3 (g130 : G130) (g42 : G42) (g135 : G135) (g134 : G134) (F : Nat) (hK : KOK Try.prog (ct121 g130 g42 g135 g134 )) : LSOK Try.prog ⟨102, false, undef⟩ (ls121_3 g130 g42 g135 g134 F) (loopOf Try.f121 3) kr121 :=
  loop_ok (st121_3 g130 g42 g135 g134 F) mixed tt_ok hK (by kernel_rfl) (LTOK_by (l := [loopOf Try.f121 10, loopOf Try.f121 15]) (by kernel_rfl) ⟨ls_at (by kernel_rfl) (ok121_10 g130 g42 g135 g134 F hK), ⟨ls_at (by kernel_rfl) (ok121_15 g130 g42 g135 g134 F hK), trivial⟩⟩) (ev121_3 g130 g42 g135 g134 F)
theorem ev121 (g130 : G130) (g42 : G42) (g135 : G135) (g134 : G134) (F : Nat) (x : Args [.v i64, .v (.slice 26 (.slice 2 i64))]) : fnK TT (ct121 g130 g42 g135 g134 ) kp121 [(.slice 26 (.slice 2 i64))] [(3, ls121_3 g130 g42 g135 g134 F)] (bodyOf Try.f121) [.tmp 4] [.v i64, .v (.slice 26 (.slice 2 i64))] false false x = fn121 g130 g42 g135 g134 F x := by
  obtain ⟨x0, x1, _⟩ := x
  kernel_rfl
theorem ok121 (g130 : G130) (g42 : G42) (g135 : G135) (g134 : G134) (hK : KOK Try.prog (ct121 g130 g42 g135 g134 )) (cf : G121) (h : ∀ x y, cf x = some y → ∃ F, fn121 g130 g42 g135 g134 F x = some y) : KOne Try.prog 121 ⟨[.v i64, .v (.slice 26 (.slice 2 i64))], [(.slice 26 (.slice 2 i64))], false, false, 0, cf⟩ :=
  fn_one rfl (c := bodyOf Try.f121) mixed tt_ok hK Try.func121 (by kernel_rfl) (by kernel_rfl) (Nat.le_of_ble_eq_true (by kernel_rfl)) (by decide) fun x y hxy => by
    obtain ⟨F, hF⟩ := h x y hxy
    exact ⟨[(3, ls121_3 g130 g42 g135 g134 F)], LTOK_by (l := [loopOf Try.f121 3]) (by kernel_rfl) ⟨ls_at (by kernel_rfl) (ok121_3 g130 g42 g135 g134 F hK), trivial⟩, (ev121 g130 g42 g135 g134 F x).trans hF⟩
abbrev R109 : Type := Ress [ex]
abbrev G109 : Type := Args [.v ex] → Option R109
abbrev kp109 : List (Nat × List Nat) := [(0, [1, 2]), (1, [3, 1, 2]), (2, [4, 3, 1, 2]), (3, [6, 4, 3, 1, 2]), (5, [4, 3, 1, 2]), (4, [4, 3, 1, 2]), (6, [2])]
abbrev ct109 : CTab := []
abbrev kr109 : Env → Option R109 := endK TT [.cell 2 65] [ex] false false
abbrev sh109_3 : Shape := [(1, bb ex), (2, bb ex), (3, bb ex), (4, vv i64)]
def st109_3 (F : Nat) (s : ShVal sh109_3) (k kx : ShVal sh109_3 → Option R109) : Option R109 :=
  match s with
  | ((t1, _), (t2, _), (t3, _), (t4, _), _) => (bif decide (t4 < (3 : Int)) then (bif ib t4 (Int.ofNat 3) then (bif ib t4 (Int.ofNat 3) then k ((t1, ()), ((t2, ()), (((tset (tget (0 : Int) 3 t1 (tn t4)) 3 t3 (tn t4)), ()), (((w6 (t4 + (1 : Int))), ()), ())))) else none) else none) else kx ((t1, ()), ((t2, ()), ((t3, ()), ((t4, ()), ())))))
def ru109_3 (F : Nat) (s : ShVal sh109_3) (kx : ShVal sh109_3 → Option R109) : Option R109 := iter (fun s k => st109_3 F s k kx) F s
abbrev ls109_3 (F : Nat) : LS R109 := ⟨sh109_3, 0, ru109_3 F⟩
def fn109 (F : Nat) (x : Args [.v ex]) : Option R109 :=
  match x with
  | (x0, _) => (ru109_3 F ((x0, ()), (((Ty.dflt (.arr 3 (.int .u8))), ()), (((Ty.dflt (.arr 3 (.int .u8))), ()), (((0 : Int), ()), ())))) (fun s' => match s' with | ((t1, _), (t2, _), (t3, _), (t4, _), _) => (some (t3, ()))))
theorem ev109_3 (F : Nat) (s : ShVal sh109_3) (k kx : ShVal sh109_3 → Option R109) : evL TT (ct109 ) kp109 [] (loopOf Try.f109 3) (envOf sh109_3 s) (fitK sh109_3 k) (fun j e => bif Nat.beq j 0 then fitK sh109_3 kx e else none) kr109 = st109_3 F s k kx := by
  obtain ⟨⟨t1, _⟩, ⟨t2, _⟩, ⟨t3, _⟩, ⟨t4, _⟩, _⟩ := s
  kernel_rfl
theorem ok109_3 (F : Nat) (hK : KOK Try.prog (ct109 )) : LSOK Try.prog ⟨15, false, undef⟩ (ls109_3 F) (loopOf Try.f109 3) kr109 :=
  loop_ok (st109_3 F) mixed tt_ok hK (by kernel_rfl) (LTOK_by (l := []) (by kernel_rfl) trivial) (ev109_3 F)
theorem ev109 (F : Nat) (x : Args [.v ex]) : fnK TT (ct109 ) kp109 [ex] [(3, ls109_3 F)] (bodyOf Try.f109) [.cell 2 65] [.v ex] false false x = fn109 F x := by
  obtain ⟨x0, _⟩ := x
  kernel_rfl
theorem ok109 (hK : KOK Try.prog (ct109 )) (cf : G109) (h : ∀ x y, cf x = some y → ∃ F, fn109 F x = some y) : KOne Try.prog 109 ⟨[.v ex], [ex], false, false, 0, cf⟩ :=
  fn_one rfl (c := bodyOf Try.f109) mixed tt_ok hK Try.func109 (by kernel_rfl) (by kernel_rfl) (Nat.le_of_ble_eq_true (by kernel_rfl)) (by decide) fun x y hxy => by
    obtain ⟨F, hF⟩ := h x y hxy
    exact ⟨[(3, ls109_3 F)], LTOK_by (l := [loopOf Try.f109 3]) (by kernel_rfl) ⟨ls_at (by kernel_rfl) (ok109_3 F hK), trivial⟩, (ev109 F x).trans hF⟩
abbrev R77 : Type := Ress [mat]
abbrev G77 : Type := Args [.v mat] → Option R77
abbrev kp77 : List (Nat × List Nat) := [(0, [1, 2]), (1, [3, 1, 2]), (2, [4, 3, 1, 2]), (3, [6, 4, 3, 1, 2]), (5, [4, 3, 1, 2]), (4, [4, 3, 1, 2]), (6, [2])]
abbrev ct77 (g109 : G109) : CTab := [(109, ⟨[.v ex], [ex], false, false, 0, g109⟩)]
abbrev kr77 : Env → Option R77 := endK TT [.cell 2 67] [mat] false false
abbrev sh77_3 : Shape := [(1, bb mat), (2, bb mat), (3, bb mat), (4, vv i64)]
def st77_3 (g109 : G109) (F : Nat) (s : ShVal sh77_3) (k kx : ShVal sh77_3 → Option R77) : Option R77 :=
  match s with
  | ((t1, _), (t2, _), (t3, _), (t4, _), _) => (bif decide (t4 < (3 : Int)) then (bif ib t4 (Int.ofNat 3) then (match (g109 ((tget (Ty.dflt (.arr 3 (.int .u8))) 3 t1 (tn t4)), ())) with | some r11 => (bif ib t4 (Int.ofNat 3) then k ((t1, ()), ((t2, ()), (((tset r11.1 3 t3 (tn t4)), ()), (((w6 (t4 + (1 : Int))), ()), ())))) else none) | none => none) else none) else kx ((t1, ()), ((t2, ()), ((t3, ()), ((t4, ()), ())))))
def ru77_3 (g109 : G109) (F : Nat) (s : ShVal sh77_3) (kx : ShVal sh77_3 → Option R77) : Option R77 := iter (fun s k => st77_3 g109 F s k kx) F s
abbrev ls77_3 (g109 : G109) (F : Nat) : LS R77 := ⟨sh77_3, 0, ru77_3 g109 F⟩
def fn77 (g109 : G109) (F : Nat) (x : Args [.v mat]) : Option R77 :=
  match x with
  | (x0, _) => (ru77_3 g109 F ((x0, ()), (((Ty.dflt (.arr 3 (.arr 3 (.int .u8)))), ()), (((Ty.dflt (.arr 3 (.arr 3 (.int .u8)))), ()), (((0 : Int), ()), ())))) (fun s' => match s' with | ((t1, _), (t2, _), (t3, _), (t4, _), _) => (some (t3, ()))))
theorem ev77_3 (g109 : G109) (F : Nat) (s : ShVal sh77_3) (k kx : ShVal sh77_3 → Option R77) : evL TT (ct77 g109 ) kp77 [] (loopOf Try.f77 3) (envOf sh77_3 s) (fitK sh77_3 k) (fun j e => bif Nat.beq j 0 then fitK sh77_3 kx e else none) kr77 = st77_3 g109 F s k kx := by
  obtain ⟨⟨t1, _⟩, ⟨t2, _⟩, ⟨t3, _⟩, ⟨t4, _⟩, _⟩ := s
  kernel_rfl
theorem ok77_3 (g109 : G109) (F : Nat) (hK : KOK Try.prog (ct77 g109 )) : LSOK Try.prog ⟨16, false, undef⟩ (ls77_3 g109 F) (loopOf Try.f77 3) kr77 :=
  loop_ok (st77_3 g109 F) mixed tt_ok hK (by kernel_rfl) (LTOK_by (l := []) (by kernel_rfl) trivial) (ev77_3 g109 F)
theorem ev77 (g109 : G109) (F : Nat) (x : Args [.v mat]) : fnK TT (ct77 g109 ) kp77 [mat] [(3, ls77_3 g109 F)] (bodyOf Try.f77) [.cell 2 67] [.v mat] false false x = fn77 g109 F x := by
  obtain ⟨x0, _⟩ := x
  kernel_rfl
theorem ok77 (g109 : G109) (hK : KOK Try.prog (ct77 g109 )) (cf : G77) (h : ∀ x y, cf x = some y → ∃ F, fn77 g109 F x = some y) : KOne Try.prog 77 ⟨[.v mat], [mat], false, false, 0, cf⟩ :=
  fn_one rfl (c := bodyOf Try.f77) mixed tt_ok hK Try.func77 (by kernel_rfl) (by kernel_rfl) (Nat.le_of_ble_eq_true (by kernel_rfl)) (by decide) fun x y hxy => by
    obtain ⟨F, hF⟩ := h x y hxy
    exact ⟨[(3, ls77_3 g109 F)], LTOK_by (l := [loopOf Try.f77 3]) (by kernel_rfl) ⟨ls_at (by kernel_rfl) (ok77_3 g109 F hK), trivial⟩, (ev77 g109 F x).trans hF⟩
abbrev R108 : Type := Ress [mat, .bool]
abbrev G108 : Type := Args [.v i64, .v i64, .v mat] → Option R108
abbrev kp108 : List (Nat × List Nat) := [(0, [1, 5, 0, 6]), (1, [8, 1, 5, 0, 6]), (2, [8, 1, 9, 5, 0, 6]), (3, [19, 5, 9, 8, 1, 0, 6]), (5, [5, 9, 10, 8, 1, 0, 6]), (6, [11, 5, 9, 10, 8, 1, 0, 6]), (7, [27, 11, 5, 9, 10, 8, 1, 0, 6]), (9, [11, 5, 9, 10, 8, 1, 0, 6]), (8, [11, 5, 9, 10, 8, 1, 0, 6]), (10, [8, 10, 9, 1, 5, 0, 6]), (11, [9, 8, 1, 5, 0, 6]), (4, [8, 1, 9, 5, 0, 6]), (12, [12, 1, 13, 6]), (13, [55, 12, 1, 13, 6]), (14, [7, 6]), (15, [6, 13, 1, 14, 12]), (16, [59, 12, 14, 1, 13, 6]), (18, [68, 12, 14, 1, 13, 6]), (19, [7, 6]), (20, [15, 13, 1, 14, 12, 6]), (21, [72, 15, 13, 1, 14, 12, 6]), (23, [15, 13, 1, 14, 12, 6]), (22, [15, 13, 1, 14, 12, 6]), (17, [6, 13, 1, 14, 12]), (24, [7, 6])]
abbrev ct108 (g121 : G121) (g130 : G130) : CTab := [(121, ⟨[.v i64, .v (.slice 26 (.slice 2 i64))], [(.slice 26 (.slice 2 i64))], false, false, 0, g121⟩), (130, ⟨[.v (.slice 2 i64)], [i64], false, false, 0, g130⟩)]
abbrev kr108 : Env → Option R108 := endK TT [.cell 6 67, .tmp 7] [mat, .bool] false false
abbrev sh108_7 : Shape := [(0, vv i64), (1, vv i64), (5, bb mat), (6, bb mat), (8, vr 26 (.slice 2 i64) 129 false), (9, vv i64), (10, vr 2 i64 161 false), (11, vv i64)]
def st108_7 (g121 : G121) (g130 : G130) (F : Nat) (s : ShVal sh108_7) (k kx : ShVal sh108_7 → Option R108) : Option R108 :=
  match s with
  | ((t0, _), (t1, _), (t5, _), (t6, _), (t8, _), (t9, _), (t10, _), (t11, _), _) => (bif decide (t11 < t1) then (bif ib t9 (Int.ofNat 3) then (bif ib t11 (Int.ofNat 3) then (bif ib t11 (Int.ofNat (List.length t10)) then k ((t0, ()), ((t1, ()), ((t5, ()), ((t6, ()), ((t8, ()), ((t9, ()), (((List.set t10 (tn t11) (w6 (tget (0 : Int) 3 (tget (Ty.dflt (.arr 3 (.int .u8))) 3 t5 (tn t9)) (tn t11)))), ()), (((w6 (t11 + (1 : Int))), ()), ())))))))) else none) else none) else none) else kx ((t0, ()), ((t1, ()), ((t5, ()), ((t6, ()), ((t8, ()), ((t9, ()), ((t10, ()), ((t11, ()), ())))))))))
def ru108_7 (g121 : G121) (g130 : G130) (F : Nat) (s : ShVal sh108_7) (kx : ShVal sh108_7 → Option R108) : Option R108 := iter (fun s k => st108_7 g121 g130 F s k kx) F s
abbrev ls108_7 (g121 : G121) (g130 : G130) (F : Nat) : LS R108 := ⟨sh108_7, 2, ru108_7 g121 g130 F⟩
abbrev sh108_3 : Shape := [(0, vv i64), (1, vv i64), (5, bb mat), (6, bb mat), (8, vr 26 (.slice 2 i64) 129 false), (9, vv i64)]
def st108_3 (g121 : G121) (g130 : G130) (F : Nat) (s : ShVal sh108_3) (k kx : ShVal sh108_3 → Option R108) : Option R108 :=
  match s with
  | ((t0, _), (t1, _), (t5, _), (t6, _), (t8, _), (t9, _), _) => (bif decide (t9 < t1) then (bif ((decide ((0 : Int) ≤ (w6 ((2 : Int) * t1))) && decide ((w6 ((2 : Int) * t1)) ≤ (1099511627776 : Int))) && decide ((w6 ((2 : Int) * t1)) = (w6 ((2 : Int) * t1)))) then (ru108_7 g121 g130 F ((t0, ()), ((t1, ()), ((t5, ()), ((t6, ()), ((t8, ()), ((t9, ()), (((List.replicate (tn (w6 ((2 : Int) * t1))) (0 : Int)), ()), (((0 : Int), ()), ())))))))) (fun s' => match s' with | ((t0, _), (t1, _), (t5, _), (t6, _), (t8, _), (t9, _), (t10, _), (t11, _), _) => (bif ib (w6 (t1 + t9)) (Int.ofNat (List.length t10)) then (bif (growOk (List.length t8) (List.length ((List.set t10 (tn (w6 (t1 + t9))) (1 : Int)) :: []))) then k ((t0, ()), ((t1, ()), ((t5, ()), ((t6, ()), (((t8 ++ ((List.set t10 (tn (w6 (t1 + t9))) (1 : Int)) :: [])), ()), (((w6 (t9 + (1 : Int))), ()), ())))))) else none) else none))) else none) else kx ((t0, ()), ((t1, ()), ((t5, ()), ((t6, ()), ((t8, ()), ((t9, ()), ())))))))
def ru108_3 (g121 : G121) (g130 : G130) (F : Nat) (s : ShVal sh108_3) (kx : ShVal sh108_3 → Option R108) : Option R108 := iter (fun s k => st108_3 g121 g130 F s k kx) F s
abbrev ls108_3 (g121 : G121) (g130 : G130) (F : Nat) : LS R108 := ⟨sh108_3, 0, ru108_3 g121 g130 F⟩
abbrev sh108_21 : Shape := [(1, vv i64), (6, bb mat), (12, vv (.slice 26 (.slice 2 i64))), (13, bb mat), (14, vv i64), (15, vv i64)]
def st108_21 (g121 : G121) (g130 : G130) (F : Nat) (s : ShVal sh108_21) (k kx : ShVal sh108_21 → Option R108) : Option R108 :=
  match s with
  | ((t1, _), (t6, _), (t12, _), (t13, _), (t14, _), (t15, _), _) => (bif decide (t15 < t1) then (bif ib t14 (Int.ofNat (List.length t12)) then (bif ib (w6 (t1 + t15)) (Int.ofNat (List.length (List.getD t12 (tn t14) []))) then (bif ib t14 (Int.ofNat 3) then (bif ib t15 (Int.ofNat 3) then k ((t1, ()), ((t6, ()), ((t12, ()), (((tset (tset (w8 (List.getD (List.getD t12 (tn t14) []) (tn (w6 (t1 + t15))) (0 : Int))) 3 (tget (Ty.dflt (.arr 3 (.int .u8))) 3 t13 (tn t14)) (tn t15)) 3 t13 (tn t14)), ()), ((t14, ()), (((w6 (t15 + (1 : Int))), ()), ())))))) else none) else none) else none) else none) else kx ((t1, ()), ((t6, ()), ((t12, ()), ((t13, ()), ((t14, ()), ((t15, ()), ())))))))
def ru108_21 (g121 : G121) (g130 : G130) (F : Nat) (s : ShVal sh108_21) (kx : ShVal sh108_21 → Option R108) : Option R108 := iter (fun s k => st108_21 g121 g130 F s k kx) F s
abbrev ls108_21 (g121 : G121) (g130 : G130) (F : Nat) : LS R108 := ⟨sh108_21, 6, ru108_21 g121 g130 F⟩
abbrev sh108_16 : Shape := [(1, vv i64), (6, bb mat), (12, vv (.slice 26 (.slice 2 i64))), (13, bb mat), (14, vv i64)]
def st108_16 (g121 : G121) (g130 : G130) (F : Nat) (s : ShVal sh108_16) (k kx : ShVal sh108_16 → Option R108) : Option R108 :=
  match s with
  | ((t1, _), (t6, _), (t12, _), (t13, _), (t14, _), _) => (bif decide (t14 < t1) then (bif ib t14 (Int.ofNat (List.length t12)) then (match (g130 ((List.getD t12 (tn t14) []), ())) with | some r25 => (bif (!decide (r25.1 = t14)) then (some (t13, (false, ()))) else (ru108_21 g121 g130 F ((t1, ()), ((t6, ()), ((t12, ()), ((t13, ()), ((t14, ()), (((0 : Int), ()), ())))))) (fun s' => match s' with | ((t1, _), (t6, _), (t12, _), (t13, _), (t14, _), (t15, _), _) => k ((t1, ()), ((t6, ()), ((t12, ()), ((t13, ()), (((w6 (t14 + (1 : Int))), ()), ())))))))) | none => none) else none) else kx ((t1, ()), ((t6, ()), ((t12, ()), ((t13, ()), ((t14, ()), ()))))))
def ru108_16 (g121 : G121) (g130 : G130) (F : Nat) (s : ShVal sh108_16) (kx : ShVal sh108_16 → Option R108) : Option R108 := iter (fun s k => st108_16 g121 g130 F s k kx) F s
abbrev ls108_16 (g121 : G121) (g130 : G130) (F : Nat) : LS R108 := ⟨sh108_16, 4, ru108_16 g121 g130 F⟩
def fn108 (g121 : G121) (g130 : G130) (F : Nat) (x : Args [.v i64, .v i64, .v mat]) : Option R108 :=
  match x with
  | (x0, x1, x2, _) => (ru108_3 g121 g130 F ((x0, ()), ((x1, ()), ((x2, ()), (((Ty.dflt (.arr 3 (.arr 3 (.int .u8)))), ()), (([], ()), (((0 : Int), ()), ())))))) (fun s' => match s' with | ((t0, _), (t1, _), (t5, _), (t6, _), (t8, _), (t9, _), _) => (match (g121 (t0, (t8, ()))) with | some r15 => (bif decide ((List.length r15.1) ≤ 9223372036854775807) then (bif (!decide ((Int.ofNat (List.length r15.1)) = t1)) then (some ((tup (Prod Int (Prod Int (Prod Int Unit))) (Ty.dflt (.arr 3 (.int .u8))) 3), (false, ()))) else (ru108_16 g121 g130 F ((t1, ()), ((t6, ()), ((r15.1, ()), (((tup (Prod Int (Prod Int (Prod Int Unit))) (Ty.dflt (.arr 3 (.int .u8))) 3), ()), (((0 : Int), ()), ()))))) (fun s' => match s' with | ((t1, _), (t6, _), (t12, _), (t13, _), (t14, _), _) => (some (t13, (true, ())))))) else none) | none => none)))
theorem ev108_7 (g121 : G121) (g130 : G130) (F : Nat) (s : ShVal sh108_7) (k kx : ShVal sh108_7 → Option R108) : evL TT (ct108 g121 g130 ) kp108 [] (loopOf Try.f108 7) (envOf sh108_7 s) (fitK sh108_7 k) (fun j e => bif Nat.beq j 2 then fitK sh108_7 kx e else none) kr108 = st108_7 g121 g130 F s k kx := by
  obtain ⟨⟨t0, _⟩, ⟨t1, _⟩, ⟨t5, _⟩, ⟨t6, _⟩, ⟨t8, _⟩, ⟨t9, _⟩, ⟨t10, _⟩, ⟨t11, _⟩, _⟩ := s
  kernel_rfl
theorem ok108_7 (g121 : G121) (g130 : G130) (F : Nat) (hK : KOK Try.prog (ct108 g121 g130 )) : LSOK Try.prog ⟨90, false, undef⟩ (ls108_7 g121 g130 F) (loopOf Try.f108 7) kr108 :=
  loop_ok (st108_7 g121 g130 F) mixed tt_ok hK (by kernel_rfl) (LTOK_by (l := []) (by kernel_rfl) trivial) (ev108_7 g121 g130 F)
theorem ev108_3 (g121 : G121) (g130 : G130) (F : Nat) (s : ShVal sh108_3) (k kx : ShVal sh108_3 → Option R108) : evL TT (ct108 g121 g130 ) kp108 [(7, ls108_7 g121 g130 F)] (loopOf Try.f108 3) (envOf sh108_3 s) (fitK sh108_3 k) (fun j e => bif Nat.beq j 0 then fitK sh108_3 kx e else none) kr108 = st108_3 g121 g130 F s k kx := by
  obtain ⟨⟨t0, _⟩, ⟨t1, _⟩, ⟨t5, _⟩, ⟨t6, _⟩, ⟨t8, _⟩, ⟨t9, _⟩, _⟩ := s
  kernel_rfl
theorem ok108_3 (g121 : G121) (g130 : G130) (F : Nat) (hK : KOK Try.prog (ct108 g121 g130 )) : LSOK Try.prog ⟨90, false, undef⟩ (ls108_3 g121 g130 F) (loopOf Try.f108 3) kr108 :=
  loop_ok (st108_3 g121 g130 F) mixed tt_ok hK (by kernel_rfl) (LTOK_by (l := [loopOf Try.f108 7]) (by kernel_rfl) ⟨ls_at (by kernel_rfl) (ok108_7 g121 g130 F hK), trivial⟩) (ev108_3 g121 g130 F)
theorem ev108_21 (g121 : G121) (g130 : G130) (F : Nat) (s : ShVal sh108_21) (k kx : ShVal sh108_21 → Option R108) : evL TT (ct108 g121 g130 ) kp108 [] (loopOf Try.f108 21) (envOf sh108_21 s) (fitK sh108_21 k) (fun j e => bif Nat.beq j 6 then fitK sh108_21 kx e else none) kr108 = st108_21 g121 g130 F s k kx := by
  obtain ⟨⟨t1, _⟩, ⟨t6, _⟩, ⟨t12, _⟩, ⟨t13, _⟩, ⟨t14, _⟩, ⟨t15, _⟩, _⟩ := s
  kernel_rfl
theorem ok108_21 (g121 : G121) (g130 : G130) (F : Nat) (hK : KOK Try.prog (ct108 g121 g130 )) : LSOK Try.prog ⟨90, false, undef⟩ (ls108_21 g121 g130 F) (loopOf Try.f108 21) kr108 :=
  loop_ok (st108_21 g121 g130 F) mixed tt_ok hK (by kernel_rfl) (LTOK_by (l := []) (by kernel_rfl) trivial) (ev108_21 g121 g130 F)
theorem ev108_16 (g121 : G121) (g130 : G130) (F : Nat) (s : ShVal sh108_16) (k kx : ShVal sh108_16 → Option R108) : evL TT (ct108 g121 g130 ) kp108 [(21, ls108_21 g121 g130 F)] (loopOf Try.f108 16) (envOf sh108_16 s) (fitK sh108_16 k) (fun j e => bif Nat.beq j 4 then fitK sh108_16 kx e else none) kr108 = st108_16 g121 g130 F s k kx := by
  obtain ⟨⟨t1, _⟩, ⟨t6, _⟩, ⟨t12, _⟩, ⟨t13, _⟩, ⟨t14, _⟩, _⟩ := s
  kernel_rfl
theorem ok108_16 (g121 : G121) (g130 : G130) (F : Nat) (hK : KOK Try.prog (ct108 g121 g130 )) : LSOK Try.prog ⟨90, false, undef⟩ (ls108_16 g121 g130 F) (loopOf Try.f108 16) kr108 :=
  loop_ok (st108_16 g121 g130 F) mixed tt_ok hK (by kernel_rfl) (LTOK_by (l := [loopOf Try.f108 21]) (by kernel_rfl) ⟨ls_at (by kernel_rfl) (ok108_21 g121 g130 F hK), trivial⟩) (ev108_16 g121 g130 F)
theorem ev108 (g121 : G121) (g130 : G130) (F : Nat) (x : Args [.v i64, .v i64, .v mat]) : fnK TT (ct108 g121 g130 ) kp108 [mat, .bool] [(3, ls108_3 g121 g130 F), (16, ls108_16 g121 g130 F)] (bodyOf Try.f108) [.cell 6 67, .tmp 7] [.v i64, .v i64, .v mat] false false x = fn108 g121 g130 F x := by
  obtain ⟨x0, x1, x2, _⟩ := x
  kernel_rfl
theorem ok108 (g121 : G121) (g130 : G130) (hK : KOK Try.prog (ct108 g121 g130 )) (cf : G108) (h : ∀ x y, cf x = some y → ∃ F, fn108 g121 g130 F x = some y) : KOne Try.prog 108 ⟨[.v i64, .v i64, .v mat], [mat, .bool], false, false, 0, cf⟩ :=
  fn_one rfl (c := bodyOf Try.f108) mixed tt_ok hK Try.func108 (by kernel_rfl) (by kernel_rfl) (Nat.le_of_ble_eq_true (by kernel_rfl)) (by decide) fun x y hxy => by
    obtain ⟨F, hF⟩ := h x y hxy
    exact ⟨[(3, ls108_3 g121 g130 F), (16, ls108_16 g121 g130 F)], LTOK_by (l := [loopOf Try.f108 3, loopOf Try.f108 16]) (by kernel_rfl) ⟨ls_at (by kernel_rfl) (ok108_3 g121 g130 F hK), ⟨ls_at (by kernel_rfl) (ok108_16 g121 g130 F hK), trivial⟩⟩, (ev108 g121 g130 F x).trans hF⟩
abbrev R71 : Type := Ress [.bool]
abbrev G71 : Type := Args [.v i64, .v i64, .v mat] → Option R71
abbrev kp71 : List (Nat × List Nat) := [(0, [5, 1, 0]), (1, [18, 5, 1, 0]), (2, [6]), (3, [0, 1, 7, 5]), (4, [20, 5, 7, 1, 0]), (6, [8, 5, 7, 1, 0]), (7, [24, 0, 1, 7, 5, 8]), (9, [52, 0, 1, 7, 5, 8]), (10, [6]), (8, [8, 5, 7, 1, 0]), (5, [0, 1, 7, 5]), (11, [10]), (12, [6])]
abbrev ct71 (g70 : G70) (g39 : G39) (g108 : G108) : CTab := [(70, ⟨[.v i64], [.bool], false, false, 0, g70⟩), (39, ⟨[.v i64, .v i64, .v i64], [.bool], false, false, 0, g39⟩), (108, ⟨[.v i64, .v i64, .v mat], [mat, .bool], false, false, 0, g108⟩)]
abbrev kr71 : Env → Option R71 := endK TT [.tmp 6] [.bool] false false
abbrev sh71_7 : Shape := [(0, vv i64), (1, vv i64), (5, bb mat), (7, vv i64), (8, vv i64)]
def st71_7 (g70 : G70) (g39 : G39) (g108 : G108) (F : Nat) (s : ShVal sh71_7) (k kx : ShVal sh71_7 → Option R71) : Option R71 :=
  match s with
  | ((t0, _), (t1, _), (t5, _), (t7, _), (t8, _), _) => (bif decide (t8 < (3 : Int)) then (bif ib t7 (Int.ofNat 3) then (bif ib t8 (Int.ofNat 3) then (bif decide (t0 ≤ (w6 (tget (0 : Int) 3 (tget (Ty.dflt (.arr 3 (.int .u8))) 3 t5 (tn t7)) (tn t8)))) then (some (false, ())) else (bif decide (t1 ≤ t7) then (bif ib t7 (Int.ofNat 3) then (bif ib t8 (Int.ofNat 3) then (bif (bif false then true else (bif true then (!decide ((tget (0 : Int) 3 (tget (Ty.dflt (.arr 3 (.int .u8))) 3 t5 (tn t7)) (tn t8)) = (0 : Int))) else false)) then (some (false, ())) else k ((t0, ()), ((t1, ()), ((t5, ()), ((t7, ()), (((w6 (t8 + (1 : Int))), ()), ())))))) else none) else none) else (bif (bif false then true else decide (t1 ≤ t8)) then (bif ib t7 (Int.ofNat 3) then (bif ib t8 (Int.ofNat 3) then (bif (bif false then true else (bif true then (!decide ((tget (0 : Int) 3 (tget (Ty.dflt (.arr 3 (.int .u8))) 3 t5 (tn t7)) (tn t8)) = (0 : Int))) else false)) then (some (false, ())) else k ((t0, ()), ((t1, ()), ((t5, ()), ((t7, ()), (((w6 (t8 + (1 : Int))), ()), ())))))) else none) else none) else (bif (bif false then true else false) then (some (false, ())) else k ((t0, ()), ((t1, ()), ((t5, ()), ((t7, ()), (((w6 (t8 + (1 : Int))), ()), ()))))))))) else none) else none) else kx ((t0, ()), ((t1, ()), ((t5, ()), ((t7, ()), ((t8, ()), ()))))))
def ru71_7 (g70 : G70) (g39 : G39) (g108 : G108) (F : Nat) (s : ShVal sh71_7) (kx : ShVal sh71_7 → Option R71) : Option R71 := iter (fun s k => st71_7 g70 g39 g108 F s k kx) F s
abbrev ls71_7 (g70 : G70) (g39 : G39) (g108 : G108) (F : Nat) : LS R71 := ⟨sh71_7, 2, ru71_7 g70 g39 g108 F⟩
abbrev sh71_4 : Shape := [(0, vv i64), (1, vv i64), (5, bb mat), (7, vv i64)]
def st71_4 (g70 : G70) (g39 : G39) (g108 : G108) (F : Nat) (s : ShVal sh71_4) (k kx : ShVal sh71_4 → Option R71) : Option R71 :=
  match s with
  | ((t0, _), (t1, _), (t5, _), (t7, _), _) => (bif decide (t7 < (3 : Int)) then (ru71_7 g70 g39 g108 F ((t0, ()), ((t1, ()), ((t5, ()), ((t7, ()), (((0 : Int), ()), ()))))) (fun s' => match s' with | ((t0, _), (t1, _), (t5, _), (t7, _), (t8, _), _) => k ((t0, ()), ((t1, ()), ((t5, ()), (((w6 (t7 + (1 : Int))), ()), ())))))) else kx ((t0, ()), ((t1, ()), ((t5, ()), ((t7, ()), ())))))
def ru71_4 (g70 : G70) (g39 : G39) (g108 : G108) (F : Nat) (s : ShVal sh71_4) (kx : ShVal sh71_4 → Option R71) : Option R71 := iter (fun s k => st71_4 g70 g39 g108 F s k kx) F s
abbrev ls71_4 (g70 : G70) (g39 : G39) (g108 : G108) (F : Nat) : LS R71 := ⟨sh71_4, 0, ru71_4 g70 g39 g108 F⟩
def fn71 (g70 : G70) (g39 : G39) (g108 : G108) (F : Nat) (x : Args [.v i64, .v i64, .v mat]) : Option R71 :=
  match x with
  | (x0, x1, x2, _) => (match (g70 (x0, ())) with | some r8 => (bif (!r8.1) then (some (false, ())) else (match (g39 (x1, ((1 : Int), ((3 : Int), ())))) with | some r9 => (bif (bif false then true else (!r9.1)) then (some (false, ())) else (ru71_4 g70 g39 g108 F ((x0, ()), ((x1, ()), ((x2, ()), (((0 : Int), ()), ())))) (fun s' => match s' with | ((t0, _), (t1, _), (t5, _), (t7, _), _) => (match (g108 (t0, (t1, (t5, ())))) with | some r16 => (some (r16.2.1, ())) | none => none)))) | none => none)) | none => none)
theorem ev71_7 (g70 : G70) (g39 : G39) (g108 : G108) (F : Nat) (s : ShVal sh71_7) (k kx : ShVal sh71_7 → Option R71) : evL TT (ct71 g70 g39 g108 ) kp71 [] (loopOf Try.f71 7) (envOf sh71_7 s) (fitK sh71_7 k) (fun j e => bif Nat.beq j 2 then fitK sh71_7 kx e else none) kr71 = st71_7 g70 g39 g108 F s k kx := by
  obtain ⟨⟨t0, _⟩, ⟨t1, _⟩, ⟨t5, _⟩, ⟨t7, _⟩, ⟨t8, _⟩, _⟩ := s
  kernel_rfl
theorem ok71_7 (g70 : G70) (g39 : G39) (g108 : G108) (F : Nat) (hK : KOK Try.prog (ct71 g70 g39 g108 )) : LSOK Try.prog ⟨61, false, undef⟩ (ls71_7 g70 g39 g108 F) (loopOf Try.f71 7) kr71 :=
  loop_ok (st71_7 g70 g39 g108 F) mixed tt_ok hK (by kernel_rfl) (LTOK_by (l := []) (by kernel_rfl) trivial) (ev71_7 g70 g39 g108 F)
theorem ev71_4 (g70 : G70) (g39 : G39) (g108 : G108) (F : Nat) (s : ShVal sh71_4) (k kx : ShVal sh71_4 → Option R71) : evL TT (ct71 g70 g39 g108 ) kp71 [(7, ls71_7 g70 g39 g108 F)] (loopOf Try.f71 4) (envOf sh71_4 s) (fitK sh71_4 k) (fun j e => bif Nat.beq j 0 then fitK sh71_4 kx e else none) kr71 = st71_4 g70 g39 g108 F s k kx := by
  obtain ⟨⟨t0, _⟩, ⟨t1, _⟩, ⟨t5, _⟩, ⟨t7, _⟩, _⟩ := s
  kernel_rfl
theorem ok71_4 (g70 : G70) (g39 : G39) (g108 : G108) (F : Nat) (hK : KOK Try.prog (ct71 g70 g39 g108 )) : LSOK Try.prog ⟨61, false, undef⟩ (ls71_4 g70 g39 g108 F) (loopOf Try.f71 4) kr71 :=
  loop_ok (st71_4 g70 g39 g108 F) mixed tt_ok hK (by kernel_rfl) (LTOK_by (l := [loopOf Try.f71 7]) (by kernel_rfl) ⟨ls_at (by kernel_rfl) (ok71_7 g70 g39 g108 F hK), trivial⟩) (ev71_4 g70 g39 g108 F)
theorem ev71 (g70 : G70) (g39 : G39) (g108 : G108) (F : Nat) (x : Args [.v i64, .v i64, .v mat]) : fnK TT (ct71 g70 g39 g108 ) kp71 [.bool] [(4, ls71_4 g70 g39 g108 F)] (bodyOf Try.f71) [.tmp 6] [.v i64, .v i64, .v mat] false false x = fn71 g70 g39 g108 F x := by
  obtain ⟨x0, x1, x2, _⟩ := x
  kernel_rfl
theorem ok71 (g70 : G70) (g39 : G39) (g108 : G108) (hK : KOK Try.prog (ct71 g70 g39 g108 )) (cf : G71) (h : ∀ x y, cf x = some y → ∃ F, fn71 g70 g39 g108 F x = some y) : KOne Try.prog 71 ⟨[.v i64, .v i64, .v mat], [.bool], false, false, 0, cf⟩ :=
  fn_one rfl (c := bodyOf Try.f71) mixed tt_ok hK Try.func71 (by kernel_rfl) (by kernel_rfl) (Nat.le_of_ble_eq_true (by kernel_rfl)) (by decide) fun x y hxy => by
    obtain ⟨F, hF⟩ := h x y hxy
    exact ⟨[(4, ls71_4 g70 g39 g108 F)], LTOK_by (l := [loopOf Try.f71 4]) (by kernel_rfl) ⟨ls_at (by kernel_rfl) (ok71_4 g70 g39 g108 F hK), trivial⟩, (ev71 g70 g39 g108 F x).trans hF⟩
abbrev R110 : Type := Ress [i64]
abbrev G110 : Type := Args [.v i64, .v i64, .p mat] → Option R110
abbrev kp110 : List (Nat × List Nat) := [(0, [0, 1, 2]), (1, [5])]
abbrev ct110 : CTab := []
def fn110 (F : Nat) (x : Args [.v i64, .v i64, .p mat]) : Option R110 :=
  match x with
  | (x0, x1, x2, _) => (bif ib x0 (Int.ofNat 3) then (bif ib x1 (Int.ofNat 3) then (some ((w6 (tget (0 : Int) 3 (tget (Ty.dflt (.arr 3 (.int .u8))) 3 x2 (tn x0)) (tn x1))), ())) else none) else none)
theorem ev110 (F : Nat) (x : Args [.v i64, .v i64, .p mat]) : fnK TT (ct110 ) kp110 [i64] [] (bodyOf Try.f110) [.tmp 5] [.v i64, .v i64, .p mat] false false x = fn110 F x := by
  obtain ⟨x0, x1, x2, _⟩ := x
  kernel_rfl
theorem ok110 (hK : KOK Try.prog (ct110 )) (cf : G110) (h : ∀ x y, cf x = some y → ∃ F, fn110 F x = some y) : KOne Try.prog 110 ⟨[.v i64, .v i64, .p mat], [i64], false, false, 0, cf⟩ :=
  fn_one rfl (c := bodyOf Try.f110) mixed tt_ok hK Try.func110 (by kernel_rfl) (by kernel_rfl) (Nat.le_of_ble_eq_true (by kernel_rfl)) (by decide) fun x y hxy => by
    obtain ⟨F, hF⟩ := h x y hxy
    exact ⟨[], LTOK_by (l := []) (by kernel_rfl) trivial, (ev110 F x).trans hF⟩
abbrev R79 : Type := Ress [i64]
abbrev G79 : Type := Args [.v i64, .v i64, .v mat] → Option R79
abbrev kp79 : List (Nat × List Nat) := [(0, [1, 5, 0]), (1, [1, 7, 5, 0]), (2, [1, 8, 7, 5, 0]), (3, [8, 12, 7, 5, 0]), (4, [13, 8, 12, 7, 5, 0]), (6, [26, 8, 7, 5, 0]), (7, [8, 0]), (5, [8, 0]), (8, [6])]
abbrev ct79 (g110 : G110) : CTab := [(110, ⟨[.v i64, .v i64, .p mat], [i64], false, false, 0, g110⟩)]
def fn79 (g110 : G110) (F : Nat) (x : Args [.v i64, .v i64, .v mat]) : Option R79 :=
  match x with
  | (x0, x1, x2, _) => (match (g110 ((0 : Int), ((0 : Int), (x2, ())))) with | some r7 => (bif decide (x1 = (2 : Int)) then (match (g110 ((0 : Int), ((0 : Int), (x2, ())))) with | some r11 => (match (g110 ((1 : Int), ((1 : Int), (x2, ())))) with | some r12 => (match (g110 ((0 : Int), ((1 : Int), (x2, ())))) with | some r13 => (match (g110 ((1 : Int), ((0 : Int), (x2, ())))) with | some r14 => (bif (!decide (x0 = (0 : Int))) then (bif (!decide (x0 = (0 : Int))) then (some ((Int.tmod (w6 ((Int.tmod (w6 ((w6 (r11.1 * r12.1)) - (w6 (r13.1 * r14.1)))) x0) + x0)) x0), ())) else none) else none) | none => none) | none => none) | none => none) | none => none) else (bif decide (x1 = (3 : Int)) then (match (g110 ((0 : Int), ((0 : Int), (x2, ())))) with | some r12 => (match (g110 ((1 : Int), ((1 : Int), (x2, ())))) with | some r13 => (match (g110 ((2 : Int), ((2 : Int), (x2, ())))) with | some r14 => (match (g110 ((1 : Int), ((2 : Int), (x2, ())))) with | some r15 => (match (g110 ((2 : Int), ((1 : Int), (x2, ())))) with | some r16 => (match (g110 ((0 : Int), ((1 : Int), (x2, ())))) with | some r17 => (match (g110 ((1 : Int), ((0 : Int), (x2, ())))) with | some r18 => (match (g110 ((2 : Int), ((2 : Int), (x2, ())))) with | some r19 => (match (g110 ((1 : Int), ((2 : Int), (x2, ())))) with | some r20 => (match (g110 ((2 : Int), ((0 : Int), (x2, ())))) with | some r21 => (match (g110 ((0 : Int), ((2 : Int), (x2, ())))) with | some r22 => (match (g110 ((1 : Int), ((0 : Int), (x2, ())))) with | some r23 => (match (g110 ((2 : Int), ((1 : Int), (x2, ())))) with | some r24 => (match (g110 ((1 : Int), ((1 : Int), (x2, ())))) with | some r25 => (match (g110 ((2 : Int), ((0 : Int), (x2, ())))) with | some r26 => (bif (!decide (x0 = (0 : Int))) then (bif (!decide (x0 = (0 : Int))) then (some ((Int.tmod (w6 ((Int.tmod (w6 ((w6 ((w6 (r12.1 * (w6 ((w6 (r13.1 * r14.1)) - (w6 (r15.1 * r16.1)))))) - (w6 (r17.1 * (w6 ((w6 (r18.1 * r19.1)) - (w6 (r20.1 * r21.1)))))))) + (w6 (r22.1 * (w6 ((w6 (r23.1 * r24.1)) - (w6 (r25.1 * r26.1)))))))) x0) + x0)) x0), ())) else none) else none) | none => none) | none => none) | none => none) | none => none) | none => none) | none => none) | none => none) | none => none) | none => none) | none => none) | none => none) | none => none) | none => none) | none => none) | none => none) else (bif (!decide (x0 = (0 : Int))) then (bif (!decide (x0 = (0 : Int))) then (some ((Int.tmod (w6 ((Int.tmod r7.1 x0) + x0)) x0), ())) else none) else none))) | none => none)
theorem ev79 (g110 : G110) (F : Nat) (x : Args [.v i64, .v i64, .v mat]) : fnK TT (ct79 g110 ) kp79 [i64] [] (bodyOf Try.f79) [.tmp 6] [.v i64, .v i64, .v mat] false false x = fn79 g110 F x := by
  obtain ⟨x0, x1, x2, _⟩ := x
  kernel_rfl
theorem ok79 (g110 : G110) (hK : KOK Try.prog (ct79 g110 )) (cf : G79) (h : ∀ x y, cf x = some y → ∃ F, fn79 g110 F x = some y) : KOne Try.prog 79 ⟨[.v i64, .v i64, .v mat], [i64], false, false, 0, cf⟩ :=
  fn_one rfl (c := bodyOf Try.f79) mixed tt_ok hK Try.func79 (by kernel_rfl) (by kernel_rfl) (Nat.le_of_ble_eq_true (by kernel_rfl)) (by decide) fun x y hxy => by
    obtain ⟨F, hF⟩ := h x y hxy
    exact ⟨[], LTOK_by (l := []) (by kernel_rfl) trivial, (ev79 g110 F x).trans hF⟩
abbrev R123 : Type := Ress [.bool]
abbrev G123 : Type := Args [.v i64, .v i64, .v mat] → Option R123
abbrev kp123 : List (Nat × List Nat) := [(0, [5, 1, 0]), (1, [16, 5, 1, 0]), (2, [6]), (3, [17, 0, 1, 5]), (4, [18, 5, 1, 0, 17]), (5, [5, 7, 1, 0, 17]), (6, [20, 5, 7, 1, 0, 17]), (7, [21, 17, 0, 1, 7, 5, 20]), (8, [8, 17, 0, 1, 7, 5, 20]), (9, [48, 17, 0, 1, 7, 5, 20]), (10, [6]), (11, [20, 5, 7, 1, 0, 17]), (12, [17, 0, 1, 5]), (13, [6])]
abbrev ct123 (g114 : G114) (g115 : G115) (g79 : G79) : CTab := [(114, ⟨[.v i64], [.bool], false, false, 0, g114⟩), (115, ⟨[.v i64], [.bool], false, false, 0, g115⟩), (79, ⟨[.v i64, .v i64, .v mat], [i64], false, false, 0, g79⟩)]
abbrev kr123 : Env → Option R123 := endK TT [.tmp 6] [.bool] false false
abbrev sh123_7 : Shape := [(0, vv i64), (1, vv i64), (5, bb mat), (7, vv i64), (17, vv i64), (20, vv i64)]
def st123_7 (g114 : G114) (g115 : G115) (g79 : G79) (F : Nat) (s : ShVal sh123_7) (k kx : ShVal sh123_7 → Option R123) : Option R123 :=
  match s with
  | ((t0, _), (t1, _), (t5, _), (t7, _), (t17, _), (t20, _), _) => (bif decide (t20 < (3 : Int)) then (bif ib t7 (Int.ofNat 3) then (bif ib t20 (Int.ofNat 3) then (bif decide (t0 ≤ (w6 (tget (0 : Int) 3 (tget (Ty.dflt (.arr 3 (.int .u8))) 3 t5 (tn t7)) (tn t20)))) then (some (false, ())) else (bif decide (t1 ≤ t7) then (bif ib t7 (Int.ofNat 3) then (bif ib t20 (Int.ofNat 3) then (bif (bif false then true else (bif true then (!decide ((tget (0 : Int) 3 (tget (Ty.dflt (.arr 3 (.int .u8))) 3 t5 (tn t7)) (tn t20)) = (0 : Int))) else false)) then (some (false, ())) else k ((t0, ()), ((t1, ()), ((t5, ()), ((t7, ()), ((t17, ()), (((w6 (t20 + (1 : Int))), ()), ()))))))) else none) else none) else (bif (bif false then true else decide (t1 ≤ t20)) then (bif ib t7 (Int.ofNat 3) then (bif ib t20 (Int.ofNat 3) then (bif (bif false then true else (bif true then (!decide ((tget (0 : Int) 3 (tget (Ty.dflt (.arr 3 (.int .u8))) 3 t5 (tn t7)) (tn t20)) = (0 : Int))) else false)) then (some (false, ())) else k ((t0, ()), ((t1, ()), ((t5, ()), ((t7, ()), ((t17, ()), (((w6 (t20 + (1 : Int))), ()), ()))))))) else none) else none) else (bif (bif false then true else false) then (some (false, ())) else k ((t0, ()), ((t1, ()), ((t5, ()), ((t7, ()), ((t17, ()), (((w6 (t20 + (1 : Int))), ()), ())))))))))) else none) else none) else kx ((t0, ()), ((t1, ()), ((t5, ()), ((t7, ()), ((t17, ()), ((t20, ()), ())))))))
def ru123_7 (g114 : G114) (g115 : G115) (g79 : G79) (F : Nat) (s : ShVal sh123_7) (kx : ShVal sh123_7 → Option R123) : Option R123 := iter (fun s k => st123_7 g114 g115 g79 F s k kx) F s
abbrev ls123_7 (g114 : G114) (g115 : G115) (g79 : G79) (F : Nat) : LS R123 := ⟨sh123_7, 2, ru123_7 g114 g115 g79 F⟩
abbrev sh123_4 : Shape := [(0, vv i64), (1, vv i64), (5, bb mat), (17, vv i64)]
def st123_4 (g114 : G114) (g115 : G115) (g79 : G79) (F : Nat) (s : ShVal sh123_4) (k kx : ShVal sh123_4 → Option R123) : Option R123 :=
  match s with
  | ((t0, _), (t1, _), (t5, _), (t17, _), _) => (bif decide (t17 < (3 : Int)) then (ru123_7 g114 g115 g79 F ((t0, ()), ((t1, ()), ((t5, ()), ((t17, ()), ((t17, ()), (((0 : Int), ()), ())))))) (fun s' => match s' with | ((t0, _), (t1, _), (t5, _), (t7, _), (t17, _), (t20, _), _) => k ((t0, ()), ((t1, ()), ((t5, ()), (((w6 (t17 + (1 : Int))), ()), ())))))) else kx ((t0, ()), ((t1, ()), ((t5, ()), ((t17, ()), ())))))
def ru123_4 (g114 : G114) (g115 : G115) (g79 : G79) (F : Nat) (s : ShVal sh123_4) (kx : ShVal sh123_4 → Option R123) : Option R123 := iter (fun s k => st123_4 g114 g115 g79 F s k kx) F s
abbrev ls123_4 (g114 : G114) (g115 : G115) (g79 : G79) (F : Nat) : LS R123 := ⟨sh123_4, 0, ru123_4 g114 g115 g79 F⟩
def fn123 (g114 : G114) (g115 : G115) (g79 : G79) (F : Nat) (x : Args [.v i64, .v i64, .v mat]) : Option R123 :=
  match x with
  | (x0, x1, x2, _) => (match (g114 (x0, ())) with | some r8 => (bif (!r8.1) then (some (false, ())) else (match (g115 (x1, ())) with | some r9 => (bif (bif false then true else (!r9.1)) then (some (false, ())) else (ru123_4 g114 g115 g79 F ((x0, ()), ((x1, ()), ((x2, ()), (((0 : Int), ()), ())))) (fun s' => match s' with | ((t0, _), (t1, _), (t5, _), (t17, _), _) => (match (g79 (t0, (t1, (t5, ())))) with | some r16 => (some ((!decide (r16.1 = (0 : Int))), ())) | none => none)))) | none => none)) | none => none)
theorem ev123_7 (g114 : G114) (g115 : G115) (g79 : G79) (F : Nat) (s : ShVal sh123_7) (k kx : ShVal sh123_7 → Option R123) : evL TT (ct123 g114 g115 g79 ) kp123 [] (loopOf Try.f123 7) (envOf sh123_7 s) (fitK sh123_7 k) (fun j e => bif Nat.beq j 2 then fitK sh123_7 kx e else none) kr123 = st123_7 g114 g115 g79 F s k kx := by
  obtain ⟨⟨t0, _⟩, ⟨t1, _⟩, ⟨t5, _⟩, ⟨t7, _⟩, ⟨t17, _⟩, ⟨t20, _⟩, _⟩ := s
  kernel_rfl
theorem ok123_7 (g114 : G114) (g115 : G115) (g79 : G79) (F : Nat) (hK : KOK Try.prog (ct123 g114 g115 g79 )) : LSOK Try.prog ⟨56, false, undef⟩ (ls123_7 g114 g115 g79 F) (loopOf Try.f123 7) kr123 :=
  loop_ok (st123_7 g114 g115 g79 F) mixed tt_ok hK (by kernel_rfl) (LTOK_by (l := []) (by kernel_rfl) trivial) (ev123_7 g114 g115 g79 F)
theorem ev123_4 (g114 : G114) (g115 : G115) (g79 : G79) (F : Nat) (s : ShVal sh123_4) (k kx : ShVal sh123_4 → Option R123) : evL TT (ct123 g114 g115 g79 ) kp123 [(7, ls123_7 g114 g115 g79 F)] (loopOf Try.f123 4) (envOf sh123_4 s) (fitK sh123_4 k) (fun j e => bif Nat.beq j 0 then fitK sh123_4 kx e else none) kr123 = st123_4 g114 g115 g79 F s k kx := by
  obtain ⟨⟨t0, _⟩, ⟨t1, _⟩, ⟨t5, _⟩, ⟨t17, _⟩, _⟩ := s
  kernel_rfl
theorem ok123_4 (g114 : G114) (g115 : G115) (g79 : G79) (F : Nat) (hK : KOK Try.prog (ct123 g114 g115 g79 )) : LSOK Try.prog ⟨56, false, undef⟩ (ls123_4 g114 g115 g79 F) (loopOf Try.f123 4) kr123 :=
  loop_ok (st123_4 g114 g115 g79 F) mixed tt_ok hK (by kernel_rfl) (LTOK_by (l := [loopOf Try.f123 7]) (by kernel_rfl) ⟨ls_at (by kernel_rfl) (ok123_7 g114 g115 g79 F hK), trivial⟩) (ev123_4 g114 g115 g79 F)
theorem ev123 (g114 : G114) (g115 : G115) (g79 : G79) (F : Nat) (x : Args [.v i64, .v i64, .v mat]) : fnK TT (ct123 g114 g115 g79 ) kp123 [.bool] [(4, ls123_4 g114 g115 g79 F)] (bodyOf Try.f123) [.tmp 6] [.v i64, .v i64, .v mat] false false x = fn123 g114 g115 g79 F x := by
  obtain ⟨x0, x1, x2, _⟩ := x
  kernel_rfl
theorem ok123 (g114 : G114) (g115 : G115) (g79 : G79) (hK : KOK Try.prog (ct123 g114 g115 g79 )) (cf : G123) (h : ∀ x y, cf x = some y → ∃ F, fn123 g114 g115 g79 F x = some y) : KOne Try.prog 123 ⟨[.v i64, .v i64, .v mat], [.bool], false, false, 0, cf⟩ :=
  fn_one rfl (c := bodyOf Try.f123) mixed tt_ok hK Try.func123 (by kernel_rfl) (by kernel_rfl) (Nat.le_of_ble_eq_true (by kernel_rfl)) (by decide) fun x y hxy => by
    obtain ⟨F, hF⟩ := h x y hxy
    exact ⟨[(4, ls123_4 g114 g115 g79 F)], LTOK_by (l := [loopOf Try.f123 4]) (by kernel_rfl) ⟨ls_at (by kernel_rfl) (ok123_4 g114 g115 g79 F hK), trivial⟩, (ev123 g114 g115 g79 F x).trans hF⟩
abbrev R100 : Type := Ress [.bool]
abbrev G100 : Type := Args [.v i64, .v i64, .v (.slice 67 mat)] → Option R100
abbrev kp100 : List (Nat × List Nat) := [(0, [2, 1, 0]), (1, [11, 1, 0, 9, 10]), (2, [12, 10, 9, 0, 1, 11]), (3, [8, 10, 9, 0, 1, 11]), (4, [19, 10, 9, 0, 1, 11]), (5, [6]), (6, [11, 1, 0, 9, 10]), (7, [6])]
abbrev ct100 (g123 : G123) (g115 : G115) (g114 : G114) : CTab := [(123, ⟨[.v i64, .v i64, .v mat], [.bool], false, false, 0, g123⟩), (115, ⟨[.v i64], [.bool], false, false, 0, g115⟩), (114, ⟨[.v i64], [.bool], false, false, 0, g114⟩)]
abbrev kr100 : Env → Option R100 := endK TT [.tmp 6] [.bool] false false
abbrev sh100_2 : Shape := [(0, vv i64), (1, vv i64), (9, .val false [.fz (.slice 67 mat) 0 true]), (10, vv i64), (11, vv i64)]
def st100_2 (g123 : G123) (g115 : G115) (g114 : G114) (F : Nat) (s : ShVal sh100_2) (k kx : ShVal sh100_2 → Option R100) : Option R100 :=
  match s with
  | ((t0, _), (t1, _), (t9, _), (t10, _), (t11, _), _) => (bif decide (t11 < t10) then (bif ib t11 (Int.ofNat (List.length t9)) then (match (g123 (t0, (t1, ((List.getD t9 (tn t11) (Ty.dflt (.arr 3 (.arr 3 (.int .u8))))), ())))) with | some r16 => (bif (!r16.1) then (some (false, ())) else k ((t0, ()), ((t1, ()), ((t9, ()), ((t10, ()), (((w6 (t11 + (1 : Int))), ()), ())))))) | none => none) else none) else kx ((t0, ()), ((t1, ()), ((t9, ()), ((t10, ()), ((t11, ()), ()))))))
def ru100_2 (g123 : G123) (g115 : G115) (g114 : G114) (F : Nat) (s : ShVal sh100_2) (kx : ShVal sh100_2 → Option R100) : Option R100 := iter (fun s k => st100_2 g123 g115 g114 F s k kx) F s
abbrev ls100_2 (g123 : G123) (g115 : G115) (g114 : G114) (F : Nat) : LS R100 := ⟨sh100_2, 0, ru100_2 g123 g115 g114 F⟩
def fn100 (g123 : G123) (g115 : G115) (g114 : G114) (F : Nat) (x : Args [.v i64, .v i64, .v (.slice 67 mat)]) : Option R100 :=
  match x with
  | (x0, x1, x2, _) => (bif decide ((List.length x2) ≤ 9223372036854775807) then (ru100_2 g123 g115 g114 F ((x0, ()), ((x1, ()), ((x2, ()), (((Int.ofNat (List.length x2)), ()), (((0 : Int), ()), ()))))) (fun s' => match s' with | ((t0, _), (t1, _), (t9, _), (t10, _), (t11, _), _) => (match (g114 (t0, ())) with | some r14 => (bif r14.1 then (match (g115 (t1, ())) with | some r15 => (some ((bif true then r15.1 else false), ())) | none => none) else (some (false, ()))) | none => none))) else none)
theorem ev100_2 (g123 : G123) (g115 : G115) (g114 : G114) (F : Nat) (s : ShVal sh100_2) (k kx : ShVal sh100_2 → Option R100) : evL TT (ct100 g123 g115 g114 ) kp100 [] (loopOf Try.f100 2) (envOf sh100_2 s) (fitK sh100_2 k) (fun j e => bif Nat.beq j 0 then fitK sh100_2 kx e else none) kr100 = st100_2 g123 g115 g114 F s k kx := by
  obtain ⟨⟨t0, _⟩, ⟨t1, _⟩, ⟨t9, _⟩, ⟨t10, _⟩, ⟨t11, _⟩, _⟩ := s
  kernel_rfl
theorem ok100_2 (g123 : G123) (g115 : G115) (g114 : G114) (F : Nat) (hK : KOK Try.prog (ct100 g123 g115 g114 )) : LSOK Try.prog ⟨27, false, undef⟩ (ls100_2 g123 g115 g114 F) (loopOf Try.f100 2) kr100 :=
  loop_ok (st100_2 g123 g115 g114 F) mixed tt_ok hK (by kernel_rfl) (LTOK_by (l := []) (by kernel_rfl) trivial) (ev100_2 g123 g115 g114 F)
theorem ev100 (g123 : G123) (g115 : G115) (g114 : G114) (F : Nat) (x : Args [.v i64, .v i64, .v (.slice 67 mat)]) : fnK TT (ct100 g123 g115 g114 ) kp100 [.bool] [(2, ls100_2 g123 g115 g114 F)] (bodyOf Try.f100) [.tmp 6] [.v i64, .v i64, .v (.slice 67 mat)] false false x = fn100 g123 g115 g114 F x := by
  obtain ⟨x0, x1, x2, _⟩ := x
  kernel_rfl
theorem ok100 (g123 : G123) (g115 : G115) (g114 : G114) (hK : KOK Try.prog (ct100 g123 g115 g114 )) (cf : G100) (h : ∀ x y, cf x = some y → ∃ F, fn100 g123 g115 g114 F x = some y) : KOne Try.prog 100 ⟨[.v i64, .v i64, .v (.slice 67 mat)], [.bool], false, false, 0, cf⟩ :=
  fn_one rfl (c := bodyOf Try.f100) mixed tt_ok hK Try.func100 (by kernel_rfl) (by kernel_rfl) (Nat.le_of_ble_eq_true (by kernel_rfl)) (by decide) fun x y hxy => by
    obtain ⟨F, hF⟩ := h x y hxy
    exact ⟨[(2, ls100_2 g123 g115 g114 F)], LTOK_by (l := [loopOf Try.f100 2]) (by kernel_rfl) ⟨ls_at (by kernel_rfl) (ok100_2 g123 g115 g114 F hK), trivial⟩, (ev100 g123 g115 g114 F x).trans hF⟩
def isP (p : Int) : Bool := decide (p = 2) || (decide (p = 3) || (decide (p = 5) || (decide (p = 7) || (decide (p = 11) || decide (p = 13)))))
theorem isP_cases {p : Int} (h : isP p = true) : p = 2 ∨ p = 3 ∨ p = 5 ∨ p = 7 ∨ p = 11 ∨ p = 13 := by
  simpa [isP] using h
theorem isP_pos {p : Int} (h : isP p = true) : 2 ≤ p ∧ p ≤ 13 := by
  have := isP_cases h; omega
def invA (p r : Int) : Nat → Int → Int
  | 0, _ => 0
  | f + 1, k => if k < p then (if k * r % p = 1 then k else invA p r f (k + 1)) else 0
def inv (p x : Int) : Int := invA p (x % p) 13 1
theorem invA_all : ∀ p ∈ [(2 : Int), 3, 5, 7, 11, 13], ∀ r : Fin 13, (r.val : Int) < p → 0 < r.val → (1 ≤ invA p r.val 13 1 ∧ invA p r.val 13 1 < p) ∧ r.val * invA p r.val 13 1 % p = 1 := by decide
theorem inv_ok {p x : Int} (hp : isP p = true) (hx : x % p ≠ 0) : (1 ≤ inv p x ∧ inv p x < p) ∧ x * inv p x % p = 1 := by
  have h2 := isP_pos hp
  have h3 := Int.emod_nonneg x (show p ≠ 0 by omega)
  have h4 := Int.emod_lt_of_pos x (show 0 < p by omega)
  have hm : p ∈ [(2 : Int), 3, 5, 7, 11, 13] := by have := isP_cases hp; simp; exact this
  obtain ⟨r, hr⟩ := Int.eq_ofNat_of_zero_le h3
  have h13 : r < 13 := by omega
  have := invA_all p hm ⟨r, h13⟩ (by simp; omega) (by simp; omega)
  simp only at this
  unfold inv
  have e1 : (r : Int) = x % p := hr.symm
  rw [e1] at this
  refine ⟨this.1, ?_⟩
  have h5 := this.2
  rw [Int.mul_emod, Int.emod_emod_of_dvd _ (Int.dvd_refl p), ← Int.mul_emod] at h5
  exact h5
abbrev el (r : List Int) (i : Nat) : Int := r.getD i 0
def ld : List Int → Nat
  | [] => 0
  | a :: r => if a = 0 then ld r + 1 else 0
theorem el_cons_zero (a : Int) (r : List Int) : el (a :: r) 0 = a := by simp [el]
theorem el_cons_succ (a : Int) (r : List Int) (i : Nat) : el (a :: r) (i + 1) = el r i := by simp [el]
theorem el_ge {r : List Int} {i : Nat} (h : r.length ≤ i) : el r i = 0 := by
  simp [el, List.getD_eq_getElem?_getD, List.getElem?_eq_none h]
theorem ld_le : ∀ r : List Int, ld r ≤ r.length
  | [] => Nat.le_refl _
  | a :: r => by
    simp only [ld]; have := ld_le r
    split <;> simp <;> omega
theorem ld_zero : ∀ (r : List Int) (i : Nat), i < ld r → el r i = 0
  | [], i, h => by simp [ld] at h
  | a :: r, i, h => by
    simp only [ld] at h
    split at h
    · rename_i ha
      cases i with
      | zero => rw [el_cons_zero]; exact ha
      | succ i => rw [el_cons_succ]; exact ld_zero r i (by omega)
    · omega
theorem ld_ne : ∀ (r : List Int), ld r < r.length → el r (ld r) ≠ 0
  | [], h => by simp [ld] at h
  | a :: r, h => by
    simp only [ld] at h ⊢
    split
    · rename_i ha
      rw [if_pos ha] at h
      rw [el_cons_succ]; exact ld_ne r (by simpa using h)
    · rename_i ha; rw [el_cons_zero]; exact ha
theorem ld_min {r : List Int} {i : Nat} (h : el r i ≠ 0) : ld r ≤ i := by
  rcases Nat.lt_or_ge i (ld r) with q | q
  · exact absurd (ld_zero r i q) h
  · exact q
theorem ld_lt {r : List Int} {i : Nat} (h : el r i ≠ 0) : ld r < r.length := by
  have h1 := ld_min h
  rcases Nat.lt_or_ge i r.length with q | q
  · omega
  · exact absurd (el_ge q) h
theorem ld_eq {r : List Int} {i : Nat} (h : el r i ≠ 0) (h0 : ∀ j, j < i → el r j = 0) : ld r = i := by
  have h1 := ld_min h
  rcases Nat.lt_or_ge (ld r) i with q | q
  · exact absurd (h0 _ q) (ld_ne r (ld_lt h))
  · omega
theorem row_ext {a b : List Int} (hl : a.length = b.length) (h : ∀ i, el a i = el b i) : a = b := by
  refine List.ext_getElem hl fun i h1 h2 => ?_
  have := h i
  simpa [el, List.getD_eq_getElem?_getD, List.getElem?_eq_getElem h1, List.getElem?_eq_getElem h2] using this
def subm (p k : Int) (r o : List Int) : List Int := List.zipWith (fun a b => (a - k * b) % p) r o
def scl (p c : Int) (r : List Int) : List Int := r.map fun a => a * c % p
theorem subm_len {p k : Int} {r o : List Int} (h : r.length = o.length) : (subm p k r o).length = r.length := by simp [subm, h]
theorem scl_len {p c : Int} {r : List Int} : (scl p c r).length = r.length := by simp [scl]
theorem el_subm {p k : Int} {r o : List Int} (h : r.length = o.length) (i : Nat) : el (subm p k r o) i = (el r i - k * el o i) % p := by
  rcases Nat.lt_or_ge i r.length with q | q
  · simp [el, subm, List.getD_eq_getElem?_getD, List.getElem?_zipWith, List.getElem?_eq_getElem q, List.getElem?_eq_getElem (show i < o.length by omega)]
  · rw [el_ge q, el_ge (show o.length ≤ i by omega), el_ge (by rw [subm_len h]; exact q)]; simp
theorem el_scl {p c : Int} {r : List Int} (i : Nat) : el (scl p c r) i = el r i * c % p := by
  rcases Nat.lt_or_ge i r.length with q | q
  · simp [el, scl, List.getD_eq_getElem?_getD, List.getElem?_eq_getElem q]
  · rw [el_ge q, el_ge (by rw [scl_len]; exact q)]; simp
structure Can (p : Int) (m : Nat) (r : List Int) : Prop where
  len : r.length = m
  rng : ∀ i, 0 ≤ el r i ∧ el r i < p
theorem Can.mod {p : Int} {m : Nat} {r : List Int} (h : Can p m r) (i : Nat) : el r i % p = el r i := Int.emod_eq_of_lt (h.rng i).1 (h.rng i).2
theorem Can.subm {p k : Int} {m : Nat} {r o : List Int} (hp : 0 < p) (h1 : r.length = m) (h2 : o.length = m) : Can p m (subm p k r o) :=
  ⟨by rw [subm_len (by omega)]; exact h1, fun i => by rw [el_subm (by omega)]; exact ⟨Int.emod_nonneg _ (by omega), Int.emod_lt_of_pos _ hp⟩⟩
theorem Can.scl {p c : Int} {m : Nat} {r : List Int} (hp : 0 < p) (h1 : r.length = m) : Can p m (scl p c r) :=
  ⟨by rw [scl_len]; exact h1, fun i => by rw [el_scl]; exact ⟨Int.emod_nonneg _ (by omega), Int.emod_lt_of_pos _ hp⟩⟩
def rest (p : Int) : List (List Int) → List Int → List Int
  | [], r => r
  | o :: os, r => rest p os (subm p (el r (ld o)) r o)
def red (p : Int) (own : List Int) (at_ : Nat) (o : List Int) : List Int := subm p (el o at_) o own
def ins (p : Int) (own : List Int) (at_ : Nat) : List (List Int) → List (List Int)
  | [] => [own]
  | o :: os => if at_ < ld o then own :: (o :: os).map (red p own at_) else red p own at_ o :: ins p own at_ os
def stepR (p : Int) (out : List (List Int)) (r : List Int) : List (List Int) :=
  if ld (rest p out r) = (rest p out r).length then out else ins p (scl p (inv p (el (rest p out r) (ld (rest p out r)))) (rest p out r)) (ld (rest p out r)) out
def ech (p : Int) (rows : List (List Int)) : List (List Int) := rows.foldl (stepR p) []
structure RR (p : Int) (m : Nat) (out : List (List Int)) : Prop where
  can : ∀ r ∈ out, Can p m r
  lt : ∀ r ∈ out, ld r < m
  one : ∀ r ∈ out, el r (ld r) = 1
  ord : out.Pairwise fun a b => ld a < ld b ∧ el a (ld b) = 0
theorem RR.nil {p : Int} {m : Nat} : RR p m [] := ⟨by simp, by simp, by simp, .nil⟩
theorem RR.tail {p : Int} {m : Nat} {o : List Int} {os : List (List Int)} (h : RR p m (o :: os)) : RR p m os :=
  ⟨fun r hr => h.can r (.tail _ hr), fun r hr => h.lt r (.tail _ hr), fun r hr => h.one r (.tail _ hr), (List.pairwise_cons.1 h.ord).2⟩
section
variable {p : Int} {m : Nat}
theorem rest_can (hp : 0 < p) : ∀ {out : List (List Int)} {r : List Int}, (∀ o ∈ out, Can p m o) → Can p m r → Can p m (rest p out r)
  | [], r, _, h => h
  | o :: os, r, ho, h => rest_can (out := os) hp (fun x hx => ho x (.tail _ hx)) (Can.subm hp h.len (ho o (.head _)).len)
theorem rest_keep (hp : 0 < p) {i : Nat} : ∀ {out : List (List Int)} {r : List Int}, (∀ o ∈ out, Can p m o ∧ el o i = 0) → Can p m r → el (rest p out r) i = el r i
  | [], r, _, h => rfl
  | o :: os, r, ho, h => by
    have h1 := ho o (.head _)
    simp only [rest]
    rw [rest_keep hp (fun x hx => ho x (.tail _ hx)) (Can.subm hp h.len h1.1.len), el_subm (by rw [h.len, h1.1.len]), h1.2, Int.mul_zero, Int.sub_zero, h.mod]
theorem rest_zero (hp : 1 < p) : ∀ {out : List (List Int)} {r : List Int}, RR p m out → Can p m r → ∀ o ∈ out, el (rest p out r) (ld o) = 0
  | [], r, _, h, o, ho => by cases ho
  | o :: os, r, rr, h, o', ho => by
    have c := rr.can o (.head _)
    have c1 : Can p m (subm p (el r (ld o)) r o) := Can.subm (by omega) h.len c.len
    simp only [rest]
    rcases List.mem_cons.1 ho with rfl | ho
    · rw [rest_keep (by omega) (m := m) (fun x hx => ⟨rr.can x (.tail _ hx), ld_zero x _ ((List.pairwise_cons.1 rr.ord).1 x hx).1⟩) c1, el_subm (by rw [h.len, c.len]), rr.one _ (.head _)]
      simp
    · exact rest_zero hp rr.tail c1 o' ho
structure Own (p : Int) (m : Nat) (own : List Int) (at_ : Nat) (out : List (List Int)) : Prop where
  can : Can p m own
  lt : at_ < m
  led : ld own = at_
  one : el own at_ = 1
  zero : ∀ o ∈ out, el own (ld o) = 0
theorem red_of (hp : 1 < p) {own : List Int} {at_ : Nat} {out : List (List Int)} (w : Own p m own at_ out) (rr : RR p m out) {o : List Int} (ho : o ∈ out) :
    Can p m (red p own at_ o) ∧ ld (red p own at_ o) = ld o ∧ el (red p own at_ o) at_ = 0 ∧ ld o ≠ at_ ∧ ∀ i, el own i = 0 → el (red p own at_ o) i = el o i := by
  have c := rr.can o ho
  have hl : o.length = own.length := by rw [c.len, w.can.len]
  have ez : ∀ i, el own i = 0 → el (red p own at_ o) i = el o i := fun i hi => by
    rw [red, el_subm hl, hi, Int.mul_zero, Int.sub_zero, c.mod]
  have hne : ld o ≠ at_ := fun q => by have := w.zero o ho; rw [q, w.one] at this; omega
  refine ⟨Can.subm (by omega) c.len w.can.len, ?_, ?_, hne, ez⟩
  · refine ld_eq ?_ fun j hj => ?_
    · rw [ez _ (w.zero o ho), rr.one o ho]; omega
    · rcases Nat.lt_or_ge j at_ with q | q
      · rw [ez j (ld_zero own j (by rw [w.led]; exact q))]; exact ld_zero o j hj
      · have h0 : el o at_ = 0 := ld_zero o _ (by omega)
        rw [red, el_subm hl, h0, Int.zero_mul, Int.sub_zero, c.mod]; exact ld_zero o j hj
  · rw [red, el_subm hl, w.one]; simp
theorem ins_mem {own : List Int} {at_ : Nat} : ∀ {out : List (List Int)} {x : List Int}, x ∈ ins p own at_ out → x = own ∨ ∃ o ∈ out, x = red p own at_ o
  | [], x, h => by simp [ins] at h; exact .inl h
  | o :: os, x, h => by
    simp only [ins] at h
    split at h
    · rcases List.mem_cons.1 h with h | h
      · exact .inl h
      · obtain ⟨y, hy, e⟩ := List.mem_map.1 h; exact .inr ⟨y, hy, e.symm⟩
    · rcases List.mem_cons.1 h with h | h
      · exact .inr ⟨o, .head _, h⟩
      · rcases ins_mem h with q | ⟨y, hy, e⟩
        · exact .inl q
        · exact .inr ⟨y, .tail _ hy, e⟩
theorem ins_len {own : List Int} {at_ : Nat} : ∀ {out : List (List Int)}, (ins p own at_ out).length = out.length + 1
  | [] => rfl
  | o :: os => by
    simp only [ins]
    split
    · simp
    · simp [ins_len (out := os)]
theorem Own.tail {own : List Int} {at_ : Nat} {o : List Int} {os : List (List Int)} (w : Own p m own at_ (o :: os)) : Own p m own at_ os := ⟨w.can, w.lt, w.led, w.one, fun x hx => w.zero x (.tail _ hx)⟩
theorem ins_ord (hp : 1 < p) {own : List Int} {at_ : Nat} : ∀ {out : List (List Int)}, Own p m own at_ out → RR p m out → (ins p own at_ out).Pairwise fun a b => ld a < ld b ∧ el a (ld b) = 0
  | [], w, rr => by simp [ins]
  | o :: os, w, rr => by
    have ho := List.pairwise_cons.1 rr.ord
    simp only [ins]
    split
    · rename_i h
      refine List.pairwise_cons.2 ⟨fun x hx => ?_, ?_⟩
      · obtain ⟨y, hy, rfl⟩ := List.mem_map.1 hx
        obtain ⟨_, r2, _⟩ := red_of hp w rr hy
        rw [r2, w.led]
        refine ⟨?_, w.zero y hy⟩
        rcases List.mem_cons.1 hy with rfl | hy
        · exact h
        · have := (ho.1 y hy).1; omega
      · refine List.pairwise_map.2 ?_
        refine List.Pairwise.imp_of_mem ?_ rr.ord
        intro a b ha hb hab
        obtain ⟨_, r2, _, _, r5⟩ := red_of hp w rr ha
        obtain ⟨_, s2, _⟩ := red_of hp w rr hb
        rw [r2, s2, r5 _ (w.zero b hb)]
        exact hab
    · rename_i h
      obtain ⟨_, r2, r3, r4, r5⟩ := red_of hp w rr (.head _)
      refine List.pairwise_cons.2 ⟨fun x hx => ?_, ins_ord hp w.tail rr.tail⟩
      rcases ins_mem hx with rfl | ⟨y, hy, rfl⟩
      · rw [r2, w.led]; exact ⟨by omega, r3⟩
      · obtain ⟨_, s2, _⟩ := red_of hp w rr (.tail _ hy)
        rw [r2, s2, r5 _ (w.zero y (.tail _ hy))]
        exact ho.1 y hy
theorem ins_RR (hp : 1 < p) {own : List Int} {at_ : Nat} {out : List (List Int)} (w : Own p m own at_ out) (rr : RR p m out) : RR p m (ins p own at_ out) := by
  refine ⟨fun x hx => ?_, fun x hx => ?_, fun x hx => ?_, ins_ord hp w rr⟩
  · rcases ins_mem hx with rfl | ⟨y, hy, rfl⟩
    · exact w.can
    · exact (red_of hp w rr hy).1
  · rcases ins_mem hx with rfl | ⟨y, hy, rfl⟩
    · rw [w.led]; exact w.lt
    · rw [(red_of hp w rr hy).2.1]; exact rr.lt y hy
  · rcases ins_mem hx with rfl | ⟨y, hy, rfl⟩
    · rw [w.led]; exact w.one
    · obtain ⟨_, r2, _, _, r5⟩ := red_of hp w rr hy
      rw [r2, r5 _ (w.zero y hy)]; exact rr.one y hy
theorem own_of (hP : isP p = true) {out : List (List Int)} {r : List Int} (rr : RR p m out) (hr : Can p m r) (hl : ld (rest p out r) ≠ (rest p out r).length) :
    Own p m (scl p (inv p (el (rest p out r) (ld (rest p out r)))) (rest p out r)) (ld (rest p out r)) out := by
  have hp := isP_pos hP
  have c := rest_can (p := p) (m := m) (by omega) rr.can hr
  have hlt : ld (rest p out r) < (rest p out r).length := by have := ld_le (rest p out r); omega
  have hne := ld_ne _ hlt
  have hmod : el (rest p out r) (ld (rest p out r)) % p ≠ 0 := by rw [c.mod]; exact hne
  obtain ⟨_, i2⟩ := inv_ok hP hmod
  have h1 : el (scl p (inv p (el (rest p out r) (ld (rest p out r)))) (rest p out r)) (ld (rest p out r)) = 1 := by rw [el_scl]; exact i2
  refine ⟨Can.scl (by omega) c.len, by rw [← c.len]; exact hlt, ld_eq (by rw [h1]; omega) fun j hj => ?_, h1, fun o ho => ?_⟩
  · rw [el_scl, ld_zero _ j hj]; simp
  · rw [el_scl, rest_zero (by omega) rr hr o ho]; simp
theorem stepR_RR (hP : isP p = true) {out : List (List Int)} {r : List Int} (rr : RR p m out) (hr : Can p m r) : RR p m (stepR p out r) := by
  have hp := isP_pos hP
  unfold stepR
  split
  · exact rr
  · rename_i h; exact ins_RR (by omega) (own_of hP rr hr h) rr
theorem fold_RR (hP : isP p = true) : ∀ {rows out : List (List Int)}, RR p m out → (∀ r ∈ rows, Can p m r) → RR p m (rows.foldl (stepR p) out)
  | [], out, rr, _ => rr
  | r :: rs, out, rr, h => fold_RR (rows := rs) hP (stepR_RR hP rr (h r (.head _))) fun x hx => h x (.tail _ hx)
theorem ech_RR (hP : isP p = true) {rows : List (List Int)} (h : ∀ r ∈ rows, Can p m r) : RR p m (ech p rows) := fold_RR hP .nil h
structure Lin (p : Int) (m : Nat) (Q : List Int → Prop) : Prop where
  sub : ∀ k a b, Can p m a → Can p m b → Q a → Q b → Q (subm p k a b)
  scl : ∀ c a, Can p m a → Q a → Q (scl p c a)
theorem rest_lin {Q : List Int → Prop} (hp : 0 < p) (l : Lin p m Q) : ∀ {out : List (List Int)} {r : List Int}, (∀ o ∈ out, Can p m o ∧ Q o) → Can p m r → Q r → Q (rest p out r)
  | [], r, _, _, h => h
  | o :: os, r, ho, c, h => rest_lin (out := os) hp l (fun x hx => ho x (.tail _ hx)) (Can.subm hp c.len (ho o (.head _)).1.len) (l.sub _ _ _ c (ho o (.head _)).1 h (ho o (.head _)).2)
theorem stepR_lin (hP : isP p = true) {Q : List Int → Prop} (l : Lin p m Q) {out : List (List Int)} {r : List Int} (rr : RR p m out) (hr : Can p m r) (h : ∀ o ∈ out, Q o) (hq : Q r) : ∀ x ∈ stepR p out r, Q x := by
  have hp := isP_pos hP
  unfold stepR
  split
  · exact h
  · rename_i hl
    have c := rest_can (p := p) (m := m) (by omega) rr.can hr
    have q := rest_lin (by omega) l (fun o ho => ⟨rr.can o ho, h o ho⟩) hr hq
    have w := own_of hP rr hr hl
    intro x hx
    rcases ins_mem hx with rfl | ⟨y, hy, rfl⟩
    · exact l.scl _ _ c q
    · exact l.sub _ _ _ (rr.can y hy) w.can (h y hy) (l.scl _ _ c q)
theorem fold_lin (hP : isP p = true) {Q : List Int → Prop} (l : Lin p m Q) : ∀ {rows out : List (List Int)}, RR p m out → (∀ r ∈ rows, Can p m r ∧ Q r) → (∀ o ∈ out, Q o) → ∀ x ∈ rows.foldl (stepR p) out, Q x
  | [], out, _, _, h => h
  | r :: rs, out, rr, hr, h => fold_lin (rows := rs) hP l (stepR_RR hP rr (hr r (.head _)).1) (fun x hx => hr x (.tail _ hx)) (stepR_lin hP l rr (hr r (.head _)).1 h (hr r (.head _)).2)
theorem ech_lin (hP : isP p = true) {Q : List Int → Prop} (l : Lin p m Q) {rows : List (List Int)} (h : ∀ r ∈ rows, Can p m r ∧ Q r) : ∀ x ∈ ech p rows, Q x := fold_lin hP l .nil h (by simp)
end
theorem iter_run {S α : Type} {step : S → (S → Option α) → Option α} {r : Option α} : ∀ (n F : Nat) (st : Nat → S), n < F → (∀ i, i < n → ∀ k, step (st i) k = k (st (i + 1))) → (∀ k, step (st n) k = r) → iter step F (st 0) = r
  | 0, F, st, hF, _, h => by
    obtain ⟨F, rfl⟩ : ∃ f, F = f + 1 := ⟨F - 1, by omega⟩
    exact h _
  | n + 1, F, st, hF, h1, h => by
    obtain ⟨F, rfl⟩ : ∃ f, F = f + 1 := ⟨F - 1, by omega⟩
    simp only [iter]
    rw [h1 0 (by omega)]
    exact iter_run n F (fun i => st (i + 1)) (by omega) (fun i hi k => h1 (i + 1) (by omega) k) h
theorem dlt_t {a b : Int} (h : a < b) : decide (a < b) = true := decide_eq_true h
theorem dlt_f {a b : Int} (h : b ≤ a) : decide (a < b) = false := decide_eq_false (by omega)
theorem dle_t {a b : Int} (h : a ≤ b) : decide (a ≤ b) = true := decide_eq_true h
theorem dle_f {a b : Int} (h : b < a) : decide (a ≤ b) = false := decide_eq_false (by omega)
theorem dln_t {a b : Nat} (h : a ≤ b) : decide (a ≤ b) = true := decide_eq_true h
theorem deq_t {a b : Int} (h : a = b) : decide (a = b) = true := decide_eq_true h
theorem deq_f {a b : Int} (h : a ≠ b) : decide (a = b) = false := decide_eq_false h
theorem ib_t {i n : Int} (h0 : 0 ≤ i) (h1 : i < n) : ib i n = true := by simp [ib, h0, h1]
theorem w6_id {x : Int} (h0 : -9223372036854775808 ≤ x) (h1 : x ≤ 9223372036854775807) : w6 x = x := by
  simp [w6, IntKind.wrap, IntKind.bits, IntKind.signed]; split <;> omega
theorem grow_t {a b : Nat} (h : a + b ≤ 1099511627776) : growOk a b = true := decide_eq_true h
theorem ofn (n : Nat) : Int.ofNat n = (n : Int) := rfl
theorem tn_cast (n : Nat) : tn (n : Int) = n := rfl
theorem tmod_md {p x : Int} (hp : 0 < p) : Int.tmod (Int.tmod x p + p) p = x % p ∧ -p < Int.tmod x p ∧ Int.tmod x p < p := by
  have h1 := Int.natAbs_tmod x p
  have h2 : x.natAbs % p.natAbs < p.natAbs := Nat.mod_lt _ (by omega)
  have h3 := Int.tmod_add_mul_tdiv x p
  have h4 : -p < Int.tmod x p ∧ Int.tmod x p < p := by omega
  refine ⟨?_, h4⟩
  rw [Int.tmod_eq_emod_of_nonneg (by omega), Int.add_emod_right]
  conv => rhs; rw [← h3]
  rw [Int.add_mul_emod_self_left]
theorem md_rng {p x : Int} (hp : 0 < p) : 0 ≤ x % p ∧ x % p < p := ⟨Int.emod_nonneg _ (by omega), Int.emod_lt_of_pos _ hp⟩
abbrev B : Nat := 1000000
def c74 (p a : Int) : Option (Int × Unit) := if 0 < p ∧ p ≤ 1000000 ∧ -1000000000000000000 ≤ a ∧ a ≤ 1000000000000000000 then some (a % p, ()) else none
def cf74 : Args [.v i64, .v i64] → Option R41 := fun x => c74 x.1 x.2.1
theorem k74 : KOne Try.prog 41 ⟨[.v i64, .v i64], [i64], false, false, 0, cf74⟩ := ok41 .nil cf74 fun x y h => by
  obtain ⟨p, a, _⟩ := x
  simp only [cf74, c74] at h
  split at h
  · rename_i hc
    injection h with h; subst h
    refine ⟨0, ?_⟩
    obtain ⟨h1, h2, h3⟩ := tmod_md (p := p) (x := a) (by omega)
    simp (disch := omega) only [fn41, deq_f, Bool.not_false, cond_true, w6_id, h1]
  · cases h
def cf82 : Args [.v i64] → Option R70 := fun x => some (isP x.1, ())
theorem isP_text (a b c d e f : Bool) : (bif a then (some (true, ())) else (bif (bif false then true else b) then (some (true, ())) else (bif (bif false then true else c) then (some (true, ())) else (bif (bif false then true else d) then (some (true, ())) else (bif (bif false then true else e) then (some (true, ())) else (some ((bif false then true else f), ()))))))) = some (a || (b || (c || (d || (e || f)))), ()) := by
  cases a <;> cases b <;> cases c <;> cases d <;> cases e <;> rfl
theorem k82 : KOne Try.prog 70 ⟨[.v i64], [.bool], false, false, 0, cf82⟩ := ok70 .nil cf82 fun x y h => by
  obtain ⟨p, _⟩ := x
  injection h with h; subst h
  exact ⟨0, isP_text _ _ _ _ _ _⟩
theorem k86 : KOne Try.prog 114 ⟨[.v i64], [.bool], false, false, 0, cf82⟩ := ok114 .nil cf82 fun x y h => by
  obtain ⟨p, _⟩ := x
  injection h with h; subst h
  exact ⟨0, isP_text _ _ _ _ _ _⟩
def cf73 : Args [.v i64, .v i64, .v i64] → Option R39 := fun x => some (decide (x.2.1 ≤ x.1) && decide (x.1 ≤ x.2.2.1), ())
theorem k73 : KOne Try.prog 39 ⟨[.v i64, .v i64, .v i64], [.bool], false, false, 0, cf73⟩ := ok39 .nil cf73 fun x y h => by
  obtain ⟨a, b, c, _⟩ := x
  injection h with h; subst h
  refine ⟨0, ?_⟩
  simp only [fn39]
  cases decide (b ≤ a) <;> rfl
def cf87 : Args [.v i64] → Option R115 := fun x => some (decide (1 ≤ x.1) && decide (x.1 ≤ 3), ())
theorem k87 : KOne Try.prog 115 ⟨[.v i64], [.bool], false, false, 0, cf87⟩ := ok115 .nil cf87 fun x y h => by
  obtain ⟨a, _⟩ := x
  injection h with h; subst h
  refine ⟨0, ?_⟩
  simp only [fn115]
  cases decide ((1 : Int) ≤ a) <;> rfl
def c155 (l : List Int) : Option (List Int × Unit) := if l.length ≤ B then some (l, ()) else none
def cf155 : Args [.v (.slice 2 i64)] → Option R153 := fun x => c155 x.1
theorem k155 : KOne Try.prog 153 ⟨[.v (.slice 2 i64)], [.slice 2 i64], true, false, 0, cf155⟩ := ok153 .nil cf155 fun x y h => by
  obtain ⟨l, _⟩ := x
  simp only [cf155, c155] at h
  split at h
  · rename_i hc
    injection h with h; subst h
    refine ⟨0, ?_⟩
    simp only [B] at hc
    simp (disch := omega) only [fn153, grow_t, cond_true, List.nil_append]
  · cases h
def ldI (r : List Int) : Int := if ld r = r.length then -1 else (ld r : Int)
def c153 (l : List Int) : Option (Int × Unit) := if l.length ≤ B then some (ldI l, ()) else none
def cf153 : Args [.v (.slice 2 i64)] → Option R130 := fun x => c153 x.1
theorem k153 : KOne Try.prog 130 ⟨[.v (.slice 2 i64)], [i64], false, false, 0, cf153⟩ := ok130 .nil cf153 fun x y h => by
  obtain ⟨l, _⟩ := x
  simp only [cf153, c153] at h
  split at h
  · rename_i hc
    injection h with h; subst h
    simp only [B] at hc
    have hle := ld_le l
    refine ⟨l.length + 1, ?_⟩
    simp only [fn130, ru130_2]
    refine iter_run (ld l) _ (fun i => ((l, ()), ((i : Int), ()), ())) (by omega) (fun i hi k => ?_) (fun k => ?_)
    · have h0 : l.getD i 0 = 0 := ld_zero l i hi
      simp (disch := omega) only [st130_2, dln_t, cond_true, ofn, dlt_t, ib_t, tn_cast, h0, deq_t, Bool.not_true, cond_false, w6_id]
      rfl
    · by_cases q : ld l = l.length
      · simp (disch := omega) only [st130_2, dln_t, cond_true, ofn, dlt_f, cond_false, ldI, if_pos q]
      · have hne : l.getD (ld l) 0 ≠ 0 := ld_ne l (by omega)
        simp (disch := first | omega | exact hne) only [st130_2, dln_t, cond_true, ofn, dlt_t, ib_t, tn_cast, deq_f, Bool.not_false, cond_false, ldI, if_neg q]
  · cases h
def marks (k : Int) : Nat → List Int
  | 0 => []
  | n + 1 => k :: marks (k + 1) n
def c20 (l : List Int) (k : Int) : Option (Int × Unit) := if l.length ≤ B ∧ 0 ≤ k ∧ k ≤ 1000000000000 ∧ l = marks k l.length then some (k + l.length, ()) else none
theorem g74_ok {p a : Int} (h : 0 < p ∧ p ≤ 1000000 ∧ -1000000000000000000 ≤ a ∧ a ≤ 1000000000000000000) : cf74 (p, a, ()) = some (a % p, ()) := if_pos h
theorem mul_rng {a b c d : Int} (h1 : 0 ≤ a) (h2 : a < c) (h3 : 0 ≤ b) (h4 : b < d) : 0 ≤ a * b ∧ a * b < c * d := by
  refine ⟨Int.mul_nonneg h1 h3, ?_⟩
  have : a * b ≤ a * d := Int.mul_le_mul_of_nonneg_left (by omega) h1
  have : a * d < c * d := Int.mul_lt_mul_of_pos_right h2 (by omega)
  omega
theorem sq_rng {p a b : Int} (hp : p ≤ 13) (h1 : 0 ≤ a) (h2 : a < p) (h3 : 0 ≤ b) (h4 : b < p) : 0 ≤ a * b ∧ a * b < 169 := by
  have := mul_rng (c := 13) (d := 13) h1 (by omega) h3 (by omega)
  omega
theorem run75a {p x : Int} (hp : 2 ≤ p ∧ p ≤ 13) (hx : -1000000000000 ≤ x ∧ x ≤ 1000000000000) {F0 : Nat} : ∀ (f F : Nat) (k : Int), 1 ≤ k → p - k < f → f < F →
    iter (fun s k => st42_2 cf74 F0 s k (fun s' => match s' with | ((t0, _), (t1, _), (t5, _), _) => (some ((0 : Int), ())))) F ((p, ()), ((x, ()), ((k, ()), ()))) = some (invA p (x % p) f k, ())
  | 0, F, k, h1, h2, h3 => by
    obtain ⟨F, rfl⟩ : ∃ f, F = f + 1 := ⟨F - 1, by omega⟩
    simp (disch := omega) only [iter, st42_2, dlt_f, cond_false, invA]
  | f + 1, F, k, h1, h2, h3 => by
    obtain ⟨F, rfl⟩ : ∃ f, F = f + 1 := ⟨F - 1, by omega⟩
    have r := md_rng (p := p) (x := x) (by omega)
    by_cases q : k < p
    · have s := sq_rng (p := p) (by omega) (show 0 ≤ k by omega) q r.1 r.2
      have g := g74_ok (p := p) (a := x) (by omega)
      have e : Int.tmod (w6 (k * (x % p))) p = k * (x % p) % p := by rw [w6_id (by omega) (by omega), Int.tmod_eq_emod_of_nonneg s.1]
      have ih := fun k h1 h2 => run75a hp hx (F0 := F0) f F k h1 h2 (by omega)
      simp only [iter]
      generalize iter _ F = G at ih ⊢
      simp (disch := omega) only [st42_2, dlt_t, cond_true, g, deq_f, Bool.not_false, e]
      by_cases z : k * (x % p) % p = 1
      · rw [decide_eq_true z]; simp only [cond_true, invA, if_pos q, if_pos z]
      · rw [decide_eq_false z]
        simp (disch := omega) only [cond_false, w6_id]
        rw [ih (k + 1) (by omega) (by omega)]
        simp only [invA, if_pos q, if_neg z]
    · simp (disch := omega) only [iter, st42_2, dlt_f, cond_false, invA, if_neg q]
theorem run75 {p x : Int} (hp : 2 ≤ p ∧ p ≤ 13) (hx : -1000000000000 ≤ x ∧ x ≤ 1000000000000) : fn42 cf74 20 (p, x, ()) = some (inv p x, ()) := by
  simp only [fn42, ru42_2]
  exact run75a hp hx 13 20 1 (by omega) (by omega) (by omega)
def c75 (p x : Int) : Option (Int × Unit) := if (2 ≤ p ∧ p ≤ 13) ∧ (-1000000000000 ≤ x ∧ x ≤ 1000000000000) then some (inv p x, ()) else none
def cf75 : Args [.v i64, .v i64] → Option R42 := fun x => c75 x.1 x.2.1
theorem k75 : KOne Try.prog 42 ⟨[.v i64, .v i64], [i64], false, false, 0, cf75⟩ := ok42 _ (.cons k74 .nil) cf75 fun x y h => by
  obtain ⟨p, a, _⟩ := x
  simp only [cf75, c75] at h
  split at h
  · rename_i hc
    injection h with h; subst h
    exact ⟨20, run75 hc.1 hc.2⟩
  · cases h
theorem take_snoc {α : Type} {l : List α} {i : Nat} (h : i < l.length) : l.take (i + 1) = l.take i ++ [l[i]] := by
  rw [List.take_add_one, List.getElem?_eq_getElem h]; rfl
theorem el_get {l : List Int} {i : Nat} (h : i < l.length) : el l i = l[i] := by
  simp [el, List.getD_eq_getElem?_getD, List.getElem?_eq_getElem h]
theorem run154 {p k : Int} {m : Nat} {r o : List Int} (hp : 2 ≤ p ∧ p ≤ 13) (hk : 0 ≤ k ∧ k < p) (h1 : Can p m r) (h2 : Can p m o) (hm : m ≤ 1000000) : fn135 cf74 (m + 1) (p, r, o, k, ()) = some (subm p k r o, ()) := by
  simp only [fn135, ru135_3]
  have l1 := h1.len
  have l2 := h2.len
  have l3 : (subm p k r o).length = m := by rw [subm_len (by omega)]; exact l1
  have key := iter_run (step := fun s k => st135_3 cf74 (m + 1) s k (fun s' => match s' with | ((t0, _), (t1, _), (t2, _), (t3, _), (t9, _), (t10, _), _) => (some (t9, ())))) (r := some (subm p k r o, ())) m (m + 1) (fun i => ((p, ()), ((r, ()), ((o, ()), ((k, ()), (((subm p k r o).take i, ()), (((i : Int), ()), ()))))))) (by omega) (fun i hi kk => ?_) (fun kk => ?_)
  · simpa using key
  · have z1 := h1.rng i
    have z2 := h2.rng i
    have z3 := sq_rng (p := p) (by omega) hk.1 hk.2 z2.1 z2.2
    have g : cf74 (p, w6 (r.getD i 0 - w6 (k * o.getD i 0)), ()) = some ((el r i - k * el o i) % p, ()) := by
      simp only [el] at z1 z2 z3
      rw [w6_id (x := k * o.getD i 0) (by omega) (by omega), w6_id (by omega) (by omega)]
      exact g74_ok (by omega)
    have l4 : (List.take i (subm p k r o)).length = i := by rw [List.length_take, l3]; omega
    have e : (el r i - k * el o i) % p = (subm p k r o)[i]'(by omega) := by rw [← el_subm (by omega), el_get]
    rw [show List.take (i + 1) (subm p k r o) = List.take i (subm p k r o) ++ [(el r i - k * el o i) % p] by rw [take_snoc (by omega), e]]
    clear e
    generalize List.take i (subm p k r o) = L at *
    simp (disch := omega) only [st135_3, dln_t, cond_true, ofn, dlt_t, ib_t, tn_cast, g, grow_t, List.length_singleton, w6_id]
    rfl
  · rw [show List.take m (subm p k r o) = subm p k r o by rw [← l3, List.take_length]]
    simp (disch := omega) only [st135_3, dln_t, cond_true, ofn, dlt_f, cond_false]
open Classical in
noncomputable def c154 (p : Int) (r o : List Int) (k : Int) : Option (List Int × Unit) := if (2 ≤ p ∧ p ≤ 13) ∧ (0 ≤ k ∧ k < p) ∧ r.length ≤ 1000000 ∧ Can p r.length r ∧ Can p r.length o then some (subm p k r o, ()) else none
noncomputable def cf154 : Args [.v i64, .v (.slice 2 i64), .v (.slice 2 i64), .v i64] → Option R135 := fun x => c154 x.1 x.2.1 x.2.2.1 x.2.2.2.1
theorem k154 : KOne Try.prog 135 ⟨[.v i64, .v (.slice 2 i64), .v (.slice 2 i64), .v i64], [.slice 2 i64], true, false, 0, cf154⟩ := ok135 _ (.cons k74 .nil) cf154 fun x y h => by
  obtain ⟨p, r, o, k, _⟩ := x
  simp only [cf154, c154] at h
  split at h
  · rename_i hc
    injection h with h; subst h
    exact ⟨_, run154 hc.1 hc.2.1 hc.2.2.2.1 hc.2.2.2.2 hc.2.2.1⟩
  · cases h
theorem g153_ok {l : List Int} (h : l.length ≤ 1000000) : cf153 (l, ()) = some (ldI l, ()) := if_pos h
theorem g155_ok {l : List Int} (h : l.length ≤ 1000000) : cf155 (l, ()) = some (l, ()) := if_pos h
theorem g154_ok {p k : Int} {m : Nat} {r o : List Int} (hp : 2 ≤ p ∧ p ≤ 13) (hk : 0 ≤ k ∧ k < p) (h1 : Can p m r) (h2 : Can p m o) (hm : m ≤ 1000000) : cf154 (p, r, o, k, ()) = some (subm p k r o, ()) :=
  if_pos ⟨hp, hk, by rw [h1.len]; exact hm, by rw [h1.len]; exact h1, by rw [h1.len]; exact h2⟩
theorem ldI_lt {r : List Int} {m : Nat} (hl : r.length = m) (h : ld r < m) : ldI r = (ld r : Int) := by unfold ldI; rw [if_neg (by omega)]
theorem subm_zero {p : Int} {m : Nat} {r o : List Int} (h1 : Can p m r) (h2 : o.length = m) : subm p 0 r o = r := by
  refine row_ext (subm_len (by rw [h1.len, h2])) fun i => ?_
  rw [el_subm (by rw [h1.len, h2]), Int.zero_mul, Int.sub_zero, h1.mod]
theorem rest_snoc {p : Int} : ∀ {a : List (List Int)} {o r : List Int}, rest p (a ++ [o]) r = subm p (el (rest p a r) (ld o)) (rest p a r) o
  | [], o, r => rfl
  | x :: a, o, r => by simp only [List.cons_append, rest]; exact rest_snoc
theorem run152 {p : Int} {m : Nat} {out : List (List Int)} {r : List Int} (hp : 2 ≤ p ∧ p ≤ 13) (rr : RR p m out) (hr : Can p m r) (hm : m ≤ 1000000) (ho : out.length ≤ 1000000) : fn134 cf155 cf154 cf153 (out.length + 1) (p, out, r, ()) = some (rest p out r, ()) := by
  simp only [fn134, ru134_3]
  rw [g155_ok (by rw [hr.len]; exact hm)]
  simp only
  have key := iter_run (step := fun s k => st134_3 cf155 cf154 cf153 (out.length + 1) s k (fun s' => match s' with | ((t0, _), (t1, _), (t7, _), (t8, _), _) => (some (t7, ())))) (r := some (rest p out r, ())) out.length (out.length + 1) (fun i => ((p, ()), ((out, ()), ((rest p (out.take i) r, ()), (((i : Int), ()), ()))))) (by omega) (fun i hi kk => ?_) (fun kk => ?_)
  · simpa [rest] using key
  · have ho1 : out.getD i [] = out[i] := by simp [List.getD_eq_getElem?_getD, List.getElem?_eq_getElem hi]
    have hmem : out[i] ∈ out := List.getElem_mem hi
    have co := rr.can _ hmem
    have lo := rr.lt _ hmem
    have cr : Can p m (rest p (out.take i) r) := rest_can (by omega) (fun o h => rr.can o (List.mem_of_mem_take h)) hr
    rw [show List.take (i + 1) out = List.take i out ++ [out[i]] from take_snoc hi, rest_snoc]
    generalize rest p (List.take i out) r = own at *
    generalize out[i] = o at *
    have g1 := g153_ok (l := o) (by rw [co.len]; exact hm)
    rw [ldI_lt co.len lo] at g1
    have lw := cr.len
    have z := cr.rng (ld o)
    by_cases q : el own (ld o) = 0
    · have q' : own.getD (ld o) 0 = 0 := q
      rw [q, subm_zero cr co.len]
      simp (disch := omega) only [st134_3, dln_t, cond_true, ofn, dlt_t, ib_t, tn_cast, ho1, g1, q', decide_true, Bool.not_true, cond_false, w6_id]
      rfl
    · have q' : own.getD (ld o) 0 ≠ 0 := q
      have g2 : cf154 (p, own, o, own.getD (ld o) 0, ()) = some (subm p (el own (ld o)) own o, ()) := g154_ok hp z cr co hm
      simp (disch := first | omega | exact q') only [st134_3, dln_t, cond_true, ofn, dlt_t, ib_t, tn_cast, ho1, g1, deq_f, Bool.not_false, g2, w6_id]
      rfl
  · rw [List.take_length]
    simp (disch := omega) only [st134_3, dln_t, cond_true, ofn, dlt_f, cond_false]
open Classical in
noncomputable def c152 (p : Int) (out : List (List Int)) (r : List Int) : Option (List Int × Unit) := if (2 ≤ p ∧ p ≤ 13) ∧ RR p r.length out ∧ Can p r.length r ∧ r.length ≤ 1000000 ∧ out.length ≤ 1000000 then some (rest p out r, ()) else none
noncomputable def cf152 : Args [.v i64, .v (.slice 26 (.slice 2 i64)), .v (.slice 2 i64)] → Option R134 := fun x => c152 x.1 x.2.1 x.2.2.1
theorem k152 : KOne Try.prog 134 ⟨[.v i64, .v (.slice 26 (.slice 2 i64)), .v (.slice 2 i64)], [.slice 2 i64], true, false, 0, cf152⟩ := ok134 _ _ _ (.cons k155 (.cons k154 (.cons k153 .nil))) cf152 fun x y h => by
  obtain ⟨p, out, r, _⟩ := x
  simp only [cf152, c152] at h
  split at h
  · rename_i hc
    injection h with h; subst h
    exact ⟨_, run152 hc.1 hc.2.1 hc.2.2.1 hc.2.2.2.1 hc.2.2.2.2⟩
  · cases h
theorem g152_ok {p : Int} {m : Nat} {out : List (List Int)} {r : List Int} (hp : 2 ≤ p ∧ p ≤ 13) (rr : RR p m out) (hr : Can p m r) (hm : m ≤ 1000000) (ho : out.length ≤ 1000000) : cf152 (p, out, r, ()) = some (rest p out r, ()) :=
  if_pos ⟨hp, by rw [hr.len]; exact rr, by rw [hr.len]; exact hr, by rw [hr.len]; exact hm, ho⟩
theorem split_len {a b : List Int} {i : Nat} (h : a.length = b.length) (hi : i ≤ a.length) : (a.take i ++ b.drop i).length = a.length := by simp; omega
theorem split_get {a b : List Int} {i : Nat} (h : a.length = b.length) (hi : i < a.length) : (a.take i ++ b.drop i).getD i 0 = el b i := by
  simp only [el, List.getD_eq_getElem?_getD]
  rw [List.getElem?_append_right (by simp; omega), List.length_take, Nat.min_eq_left (by omega), List.getElem?_drop]
  simp
theorem split_set {a b : List Int} {i : Nat} (h : a.length = b.length) (hi : i < a.length) : (a.take i ++ b.drop i).set i (el a i) = a.take (i + 1) ++ b.drop (i + 1) := by
  rw [take_snoc hi, ← el_get hi, List.set_append_right _ _ (by simp; omega)]
  rw [List.length_take, Nat.min_eq_left (by omega), Nat.sub_self, List.append_assoc]
  congr 1
  rw [List.drop_eq_getElem_cons (show i < b.length by omega)]
  rfl
theorem scale_loop {p c : Int} {m : Nat} {own : List Int} (hp : 2 ≤ p ∧ p ≤ 13) (hc : 0 ≤ c ∧ c < p) (h1 : Can p m own) (hm : m ≤ 1000000) {F0 F : Nat} (hF : m < F) {rows out : List (List Int)} {i at_ : Int} {kx : ShVal sh121_10 → Option R121} :
    iter (fun s k => st121_10 cf153 cf75 cf154 cf152 F0 s k kx) F ((p, ()), ((rows, ()), ((out, ()), ((i, ()), ((own, ()), ((at_, ()), ((c, ()), (((0 : Int), ()), ())))))))) =
      kx ((p, ()), ((rows, ()), ((out, ()), ((i, ()), ((scl p c own, ()), ((at_, ()), ((c, ()), ((((m : Nat) : Int), ()), ())))))))) := by
  have hl : (scl p c own).length = own.length := scl_len
  have lw := h1.len
  have key := iter_run (step := fun s k => st121_10 cf153 cf75 cf154 cf152 F0 s k kx) (r := kx ((p, ()), ((rows, ()), ((out, ()), ((i, ()), ((scl p c own, ()), ((at_, ()), ((c, ()), ((((m : Nat) : Int), ()), ())))))))))
    m F (fun j => ((p, ()), ((rows, ()), ((out, ()), ((i, ()), ((((scl p c own).take j ++ own.drop j), ()), ((at_, ()), ((c, ()), (((j : Int), ()), ()))))))))) hF (fun j hj k => ?_) (fun k => ?_)
  · simpa using key
  · have l1 := split_len (i := j) hl (by omega)
    have g1 := split_get (i := j) hl (by omega)
    have s1 := split_set (i := j) hl (by omega)
    have z := h1.rng j
    have z2 := sq_rng (p := p) (by omega) z.1 z.2 hc.1 hc.2
    have e : Int.tmod (el own j * c) p = el (scl p c own) j := by rw [Int.tmod_eq_emod_of_nonneg z2.1, el_scl]
    rw [← s1]
    generalize (scl p c own).take j ++ own.drop j = L at *
    simp (disch := omega) only [st121_10, dln_t, cond_true, ofn, dlt_t, ib_t, tn_cast, deq_f, Bool.not_false, g1, e, w6_id]
    rfl
  · rw [show (scl p c own).take m ++ own.drop m = scl p c own by rw [← lw, List.drop_length, List.append_nil, ← hl, List.take_length]]
    simp (disch := omega) only [st121_10, dln_t, cond_true, ofn, dlt_f, cond_false]
def anyG (at_ : Nat) (L : List (List Int)) : Bool := L.any fun o => decide (at_ < ld o)
def nextL (p : Int) (own : List Int) (at_ : Nat) (L : List (List Int)) : List (List Int) := bif anyG at_ L then ins p own at_ L else L.map (red p own at_)
theorem anyG_snoc {at_ : Nat} {L : List (List Int)} {o : List Int} : anyG at_ (L ++ [o]) = (anyG at_ L || decide (at_ < ld o)) := by simp [anyG]
theorem ins_none {p : Int} {own : List Int} {at_ : Nat} : ∀ {L : List (List Int)}, anyG at_ L = false → ins p own at_ L = L.map (red p own at_) ++ [own]
  | [], _ => rfl
  | o :: os, h => by
    simp only [anyG, List.any_cons, Bool.or_eq_false_iff, decide_eq_false_iff_not] at h
    simp only [ins, if_neg h.1, List.map_cons, List.cons_append]
    rw [ins_none (L := os) h.2]
theorem ins_put {p : Int} {own o : List Int} {at_ : Nat} : ∀ {L : List (List Int)}, anyG at_ L = true → ins p own at_ (L ++ [o]) = ins p own at_ L ++ [red p own at_ o]
  | [], h => by simp [anyG] at h
  | x :: os, h => by
    simp only [List.cons_append, ins]
    by_cases q : at_ < ld x
    · simp [if_pos q]
    · simp only [if_neg q, List.cons_append]
      simp only [anyG, List.any_cons, decide_eq_false q, Bool.false_or] at h
      rw [ins_put (L := os) h]
theorem ins_now {p : Int} {own o : List Int} {at_ : Nat} (ho : at_ < ld o) : ∀ {L : List (List Int)}, anyG at_ L = false → ins p own at_ (L ++ [o]) = L.map (red p own at_) ++ [own] ++ [red p own at_ o]
  | [], _ => by simp [ins, if_pos ho]
  | x :: os, h => by
    simp only [anyG, List.any_cons, Bool.or_eq_false_iff, decide_eq_false_iff_not] at h
    simp only [List.cons_append, ins, if_neg h.1, List.map_cons]
    rw [ins_now ho (L := os) h.2]
theorem nextL_len {p : Int} {own : List Int} {at_ : Nat} {L : List (List Int)} : (nextL p own at_ L).length ≤ L.length + 1 := by
  unfold nextL
  cases anyG at_ L with
  | true => simp [ins_len]
  | false => simp
theorem put_loop {p : Int} {m at_ : Nat} {own : List Int} {out : List (List Int)} (hp : 2 ≤ p ∧ p ≤ 13) (w : Own p m own at_ out) (rr : RR p m out) (hm : m ≤ 1000000) (ho : out.length ≤ 1000000) {F0 F : Nat} (hF : out.length < F) {rows : List (List Int)} {i : Int} {kx : ShVal sh121_15 → Option R121} :
    iter (fun s k => st121_15 cf153 cf75 cf154 cf152 F0 s k kx) F ((p, ()), ((rows, ()), ((out, ()), ((i, ()), ((own, ()), (((at_ : Int), ()), (([], ()), ((false, ()), (((0 : Int), ()), ()))))))))) =
      kx ((p, ()), ((rows, ()), ((out, ()), ((i, ()), ((own, ()), (((at_ : Int), ()), ((nextL p own at_ out, ()), ((anyG at_ out, ()), ((((out.length : Nat) : Int), ()), ()))))))))) := by
  have key := iter_run (step := fun s k => st121_15 cf153 cf75 cf154 cf152 F0 s k kx) (r := kx ((p, ()), ((rows, ()), ((out, ()), ((i, ()), ((own, ()), (((at_ : Int), ()), ((nextL p own at_ out, ()), ((anyG at_ out, ()), ((((out.length : Nat) : Int), ()), ()))))))))))
    out.length F (fun j => ((p, ()), ((rows, ()), ((out, ()), ((i, ()), ((own, ()), (((at_ : Int), ()), ((nextL p own at_ (out.take j), ()), ((anyG at_ (out.take j), ()), (((j : Int), ()), ())))))))))) hF (fun j hj k => ?_) (fun k => ?_)
  · simpa [nextL, anyG] using key
  · have ho1 : out.getD j [] = out[j] := by simp [List.getD_eq_getElem?_getD, List.getElem?_eq_getElem hj]
    have hmem : out[j] ∈ out := List.getElem_mem hj
    have co := rr.can _ hmem
    have lo := rr.lt _ hmem
    have l1 : (nextL p own at_ (out.take j)).length ≤ 1000001 := by
      have := nextL_len (p := p) (own := own) (at_ := at_) (L := out.take j)
      simp at this; omega
    have hn : nextL p own at_ (out.take (j + 1)) = if anyG at_ (out.take j) = false ∧ at_ < ld out[j] then nextL p own at_ (out.take j) ++ [own] ++ [red p own at_ out[j]] else nextL p own at_ (out.take j) ++ [red p own at_ out[j]] := by
      rw [take_snoc hj]
      unfold nextL
      rw [anyG_snoc]
      cases hg : anyG at_ (out.take j) with
      | true => simp only [Bool.true_or, cond_true]; rw [ins_put hg]; simp
      | false =>
        by_cases q : at_ < ld out[j]
        · rw [decide_eq_true q]; simp only [Bool.false_or, cond_true, cond_false]; rw [ins_now q hg, if_pos ⟨trivial, q⟩]
        · rw [decide_eq_false q]; simp only [Bool.false_or, cond_false]; rw [if_neg (fun h => q h.2), List.map_append]; rfl
    have hb : anyG at_ (out.take (j + 1)) = (anyG at_ (out.take j) || decide (at_ < ld out[j])) := by rw [take_snoc hj, anyG_snoc]
    rw [hn, hb]
    have g1 := g153_ok (l := out[j]) (by rw [co.len]; exact hm)
    rw [ldI_lt co.len lo] at g1
    have g2 : cf154 (p, out[j], own, out[j].getD at_ 0, ()) = some (red p own at_ out[j], ()) := g154_ok hp (co.rng at_) co w.can hm
    have lc := co.len
    have lt := w.lt
    generalize nextL p own at_ (out.take j) = N at *
    generalize anyG at_ (out.take j) = G at *
    clear hn hb
    generalize out[j] = o at *
    cases G with
    | true =>
      rw [if_neg (fun h => by cases h.1)]
      simp (disch := omega) only [st121_15, dln_t, cond_true, ofn, dlt_t, ib_t, tn_cast, Bool.not_true, cond_false, ho1, g2, grow_t, List.length_singleton, w6_id]
      rfl
    | false =>
      by_cases q : at_ < ld o
      · rw [if_pos ⟨rfl, q⟩, decide_eq_true q]
        simp (disch := first | omega | (simp only [List.length_append, List.length_singleton]; omega)) only [st121_15, dln_t, cond_true, ofn, dlt_t, ib_t, tn_cast, Bool.not_false, g1, ho1, g2, grow_t, List.length_singleton, w6_id]
        rfl
      · rw [if_neg (fun h => q h.2), decide_eq_false q]
        simp (disch := omega) only [st121_15, dln_t, cond_true, ofn, dlt_t, dlt_f, cond_false, ib_t, tn_cast, Bool.not_false, g1, ho1, g2, grow_t, List.length_singleton, w6_id]
        rfl
  · rw [List.take_length]
    simp (disch := omega) only [st121_15, dln_t, cond_true, ofn, dlt_f, cond_false]
theorem ech_snoc {p : Int} {a : List (List Int)} {r : List Int} : ech p (a ++ [r]) = stepR p (ech p a) r := by simp [ech, List.foldl_append]
theorem stepR_len {p : Int} {out : List (List Int)} {r : List Int} : (stepR p out r).length ≤ out.length + 1 := by
  unfold stepR; split
  · omega
  · rw [ins_len]; exact Nat.le_refl _
theorem fold_len {p : Int} : ∀ {rows out : List (List Int)}, (rows.foldl (stepR p) out).length ≤ out.length + rows.length
  | [], out => Nat.le_refl _
  | r :: rs, out => by
    have h1 := fold_len (p := p) (rows := rs) (out := stepR p out r)
    have h2 := stepR_len (p := p) (out := out) (r := r)
    simp only [List.foldl_cons, List.length_cons]; omega
theorem ech_len {p : Int} {rows : List (List Int)} : (ech p rows).length ≤ rows.length := by
  have := fold_len (p := p) (rows := rows) (out := []); simpa [ech] using this
theorem g75_ok {p x : Int} (h : (2 ≤ p ∧ p ≤ 13) ∧ (-1000000000000 ≤ x ∧ x ≤ 1000000000000)) : cf75 (p, x, ()) = some (inv p x, ()) := if_pos h
theorem run108 {p : Int} {m : Nat} {rows : List (List Int)} (hP : isP p = true) (hr : ∀ r ∈ rows, Can p m r) (hm : m ≤ 1000000) (hn : rows.length ≤ 500000) {F : Nat} (hF : m + rows.length + 1 < F) : fn121 cf153 cf75 cf154 cf152 F (p, rows, ()) = some (ech p rows, ()) := by
  have hp := isP_pos hP
  simp only [fn121, ru121_3]
  have key := iter_run (step := fun s k => st121_3 cf153 cf75 cf154 cf152 F s k (fun s' => match s' with | ((t0, _), (t1, _), (t5, _), (t6, _), _) => (some (t5, ())))) (r := some (ech p rows, ())) rows.length F (fun i => ((p, ()), ((rows, ()), ((ech p (rows.take i), ()), (((i : Int), ()), ()))))) (by omega) (fun i hi k => ?_) (fun k => ?_)
  · simpa [ech] using key
  · have hr1 : rows.getD i [] = rows[i] := by simp [List.getD_eq_getElem?_getD, List.getElem?_eq_getElem hi]
    have cr := hr _ (List.getElem_mem hi)
    have rr : RR p m (ech p (rows.take i)) := ech_RR hP fun r h => hr r (List.mem_of_mem_take h)
    have lo : (ech p (rows.take i)).length ≤ i := by have := ech_len (p := p) (rows := rows.take i); simp at this; omega
    rw [take_snoc hi, ech_snoc]
    generalize ech p (rows.take i) = out at *
    generalize rows[i] = r at *
    have g1 := g152_ok hp rr cr hm (by omega)
    have co := rest_can (p := p) (m := m) (by omega) rr.can cr
    have g2 := g153_ok (l := rest p out r) (by rw [co.len]; exact hm)
    have lw := co.len
    have hle := ld_le (rest p out r)
    by_cases q : ld (rest p out r) = (rest p out r).length
    · have e1 : stepR p out r = out := by unfold stepR; rw [if_pos q]
      have e2 : ldI (rest p out r) = -1 := by unfold ldI; rw [if_pos q]
      rw [e2] at g2
      rw [e1]
      simp (disch := omega) only [st121_3, dln_t, cond_true, ofn, dlt_t, ib_t, tn_cast, hr1, g1, g2, w6_id]
      rfl
    · have e2 : ldI (rest p out r) = (ld (rest p out r) : Int) := by unfold ldI; rw [if_neg q]
      rw [e2] at g2
      have w := own_of hP rr cr q
      have e1 : stepR p out r = ins p (scl p (inv p (el (rest p out r) (ld (rest p out r)))) (rest p out r)) (ld (rest p out r)) out := by unfold stepR; rw [if_neg q]
      rw [e1]
      have z := co.rng (ld (rest p out r))
      have g3 : cf75 (p, (rest p out r).getD (ld (rest p out r)) 0, ()) = some (inv p (el (rest p out r) (ld (rest p out r))), ()) := g75_ok (by simp only [el] at z; omega)
      have hi2 := (inv_ok hP (x := el (rest p out r) (ld (rest p out r))) (by rw [co.mod]; exact ld_ne _ (by omega))).1
      generalize ld (rest p out r) = at_ at *
      generalize rest p out r = own at *
      generalize inv p (el own at_) = c at *
      have L1 := fun kx => scale_loop (F0 := F) (F := F) (rows := rows) (out := out) (i := (i : Int)) (at_ := (at_ : Int)) (kx := kx) hp ⟨by omega, hi2.2⟩ co hm (by omega)
      have L2 := fun kx => put_loop (F0 := F) (F := F) (rows := rows) (i := (i : Int)) (kx := kx) hp w rr hm (by omega) (by omega)
      have ln := nextL_len (p := p) (own := scl p c own) (at_ := at_) (L := out)
      simp (disch := omega) only [st121_3, dln_t, cond_true, ofn, dlt_t, dlt_f, cond_false, ib_t, tn_cast, hr1, g1, g2, g3, ru121_10, ru121_15, L1, L2]
      unfold nextL at ln ⊢
      cases hg : anyG at_ out with
      | true =>
        simp (disch := omega) only [Bool.not_true, cond_false, cond_true, w6_id]
        rfl
      | false =>
        rw [hg] at ln
        simp only [cond_false] at ln
        rw [ins_none hg]
        simp (disch := first | omega | (simp only [List.length_singleton]; omega)) only [Bool.not_false, cond_false, cond_true, grow_t, List.length_singleton, w6_id]
        rfl
  · rw [List.take_length]
    simp (disch := omega) only [st121_3, dln_t, cond_true, ofn, dlt_f, cond_false]
open Classical in
noncomputable def c108 (p : Int) (rows : List (List Int)) : Option (List (List Int) × Unit) := if isP p = true ∧ (∃ m, m ≤ 1000000 ∧ ∀ r ∈ rows, Can p m r) ∧ rows.length ≤ 500000 then some (ech p rows, ()) else none
noncomputable def cf108 : Args [.v i64, .v (.slice 26 (.slice 2 i64))] → Option R121 := fun x => c108 x.1 x.2.1
theorem k108 : KOne Try.prog 121 ⟨[.v i64, .v (.slice 26 (.slice 2 i64))], [.slice 26 (.slice 2 i64)], false, false, 0, cf108⟩ := ok121 _ _ _ _ (.cons k153 (.cons k75 (.cons k154 (.cons k152 .nil)))) cf108 fun x y h => by
  obtain ⟨p, rows, _⟩ := x
  simp only [cf108, c108] at h
  split at h
  · rename_i hc
    injection h with h; subst h
    obtain ⟨h1, ⟨m, h2, h3⟩, h4⟩ := hc
    exact ⟨_, run108 h1 h3 h2 h4 (Nat.lt_succ_self _)⟩
  · cases h
theorem g108_ok {p : Int} {m : Nat} {rows : List (List Int)} (hP : isP p = true) (hr : ∀ r ∈ rows, Can p m r) (hm : m ≤ 1000000) (hn : rows.length ≤ 500000) : cf108 (p, rows, ()) = some (ech p rows, ()) := if_pos ⟨hP, ⟨m, hm, hr⟩, hn⟩
section
variable {p : Int} {m n : Nat}
theorem RR.incr {out : List (List Int)} (rr : RR p m out) {i j : Nat} (hij : i < j) (hj : j < out.length) : ld (out[i]'(by omega)) < ld out[j] :=
  (List.pairwise_iff_getElem.1 rr.ord i j (by omega) hj hij).1
theorem RR.ge {out : List (List Int)} (rr : RR p m out) : ∀ (i : Nat) (hi : i < out.length), i ≤ ld out[i]
  | 0, _ => Nat.zero_le _
  | i + 1, hi => by
    have h1 := rr.ge i (by omega)
    have h2 := rr.incr (i := i) (j := i + 1) (by omega) hi
    omega
theorem RR.le {out : List (List Int)} (rr : RR p m out) (h : ∀ r ∈ out, ld r < out.length) : ∀ (k i : Nat) (hi : i < out.length), out.length - 1 - i = k → ld out[i] ≤ i
  | 0, i, hi, hk => by
    have := h _ (List.getElem_mem hi); omega
  | k + 1, i, hi, hk => by
    have h1 := rr.le h k (i + 1) (by omega) (by omega)
    have h2 := rr.incr (i := i) (j := i + 1) (by omega) (by omega)
    omega
theorem RR.all {out : List (List Int)} (rr : RR p m out) (h : ∀ r ∈ out, ld r < out.length) (i : Nat) (hi : i < out.length) : ld out[i] = i := by
  have h1 := rr.ge i hi
  have h2 := rr.le h _ i hi rfl
  omega
theorem lin_zero {S : Nat → Prop} (hp : 0 < p) : Lin p m (fun r => ∀ i, S i → el r i = 0) where
  sub k a b ha hb qa qb i hi := by rw [el_subm (by rw [ha.len, hb.len]), qa i hi, qb i hi]; simp
  scl c a ha qa i hi := by rw [el_scl, qa i hi]; simp
theorem unit_len (hP : isP p = true) {rows : List (List Int)} (hl : rows.length = n) (hr : ∀ r ∈ rows, Can p (n + n) r) (hu : ∀ (i : Nat) (hi : i < rows.length), el rows[i] (n + i) = 1 ∧ ∀ i', i < i' → i' < n → el rows[i] (n + i') = 0) :
    ∀ i, i ≤ n → (ech p (rows.take i)).length = i ∧ ∀ r ∈ ech p (rows.take i), ∀ i', i ≤ i' → i' < n → el r (n + i') = 0
  | 0, _ => by simp [ech]
  | i + 1, hi => by
    have hp := isP_pos hP
    obtain ⟨h1, h2⟩ := unit_len hP hl hr hu i (by omega)
    have hil : i < rows.length := by omega
    have e : ech p (rows.take (i + 1)) = stepR p (ech p (rows.take i)) rows[i] := by
      rw [List.take_add_one, List.getElem?_eq_getElem hil]; simp only [Option.toList_some, ech, List.foldl_append, List.foldl_cons, List.foldl_nil]
    have rr : RR p (n + n) (ech p (rows.take i)) := ech_RR hP fun r h => hr r (List.mem_of_mem_take h)
    have cr := hr _ (List.getElem_mem hil)
    obtain ⟨u1, u2⟩ := hu i hil
    rw [e]
    generalize ech p (rows.take i) = out at *
    generalize rows[i] = r at *
    have k1 : el (rest p out r) (n + i) = 1 := by
      rw [rest_keep (m := n + n) (by omega) (fun o ho => ⟨rr.can o ho, h2 o ho i (Nat.le_refl _) (by omega)⟩) cr]; exact u1
    have k2 : ld (rest p out r) ≠ (rest p out r).length := by
      have := ld_lt (r := rest p out r) (i := n + i) (by rw [k1]; omega); omega
    refine ⟨by unfold stepR; rw [if_neg k2, ins_len, h1], fun x hx i' h3 h4 => ?_⟩
    have := stepR_lin hP (lin_zero (p := p) (m := n + n) (S := fun j => ∃ i', i + 1 ≤ i' ∧ i' < n ∧ j = n + i') (by omega)) rr cr
      (fun o ho j hj => by obtain ⟨i', q1, q2, rfl⟩ := hj; exact h2 o ho i' (by omega) q2) (fun j hj => by obtain ⟨i', q1, q2, rfl⟩ := hj; exact u2 i' (by omega) q2) x hx
    exact this _ ⟨i', h3, h4, rfl⟩
def sumN : Nat → (Nat → Int) → Int
  | 0, _ => 0
  | n + 1, f => sumN n f + f n
theorem sumN_mod {x G : Nat → Int} (hp : p ≠ 0) : ∀ n, p ∣ sumN n (fun l => x l % p * G l) - sumN n (fun l => x l * G l)
  | 0 => by simp [sumN]
  | n + 1 => by
    obtain ⟨u, hu⟩ := sumN_mod (x := x) (G := G) hp n
    have e := Int.emod_def (x n) p
    refine ⟨u - x n / p * G n, ?_⟩
    simp only [sumN]
    rw [e]
    grind
theorem sumN_sub {x y G : Nat → Int} {k : Int} : ∀ n, sumN n (fun l => (x l - k * y l) * G l) = sumN n (fun l => x l * G l) - k * sumN n (fun l => y l * G l)
  | 0 => by simp [sumN]
  | n + 1 => by simp only [sumN]; rw [sumN_sub n]; grind
theorem sumN_mul {x G : Nat → Int} {c : Int} : ∀ n, sumN n (fun l => (x l * c) * G l) = sumN n (fun l => x l * G l) * c
  | 0 => by simp [sumN]
  | n + 1 => by simp only [sumN]; rw [sumN_mul n]; grind
def Half (p : Int) (n : Nat) (G : Nat → Nat → Int) (r : List Int) : Prop := ∀ j, j < n → p ∣ el r j - sumN n (fun l => el r (n + l) * G l j)
theorem half_lin (hp : p ≠ 0) {G : Nat → Nat → Int} : Lin p (n + n) (Half p n G) where
  sub k a b ha hb qa qb j hj := by
    have hl : a.length = b.length := by rw [ha.len, hb.len]
    simp only [el_subm hl]
    obtain ⟨u1, h1⟩ := qa j hj
    obtain ⟨u2, h2⟩ := qb j hj
    obtain ⟨u3, h3⟩ := sumN_mod (x := fun l => el a (n + l) - k * el b (n + l)) (G := fun l => G l j) hp n
    simp only [sumN_sub (x := fun l => el a (n + l)) (y := fun l => el b (n + l))] at h3
    have e := Int.emod_def (el a j - k * el b j) p
    refine ⟨u1 - k * u2 - u3 - (el a j - k * el b j) / p, ?_⟩
    rw [e]
    grind
  scl c a ha qa j hj := by
    simp only [el_scl]
    obtain ⟨u1, h1⟩ := qa j hj
    obtain ⟨u3, h3⟩ := sumN_mod (x := fun l => el a (n + l) * c) (G := fun l => G l j) hp n
    simp only [sumN_mul (x := fun l => el a (n + l))] at h3
    have e := Int.emod_def (el a j * c) p
    refine ⟨u1 * c - u3 - el a j * c / p, ?_⟩
    rw [e]
    grind
theorem led_or {out : List (List Int)} (rr : RR p (n + n) out) (hl : out.length = n) : (∀ (i : Nat) (hi : i < out.length), ld out[i] = i) ∨ ∃ r ∈ out, (∀ j, j < n → el r j = 0) ∧ ∃ l, l < n ∧ el r (n + l) = 1 := by
  by_cases h : ∀ r ∈ out, ld r < out.length
  · exact .inl fun i hi => rr.all h i hi
  · right
    obtain ⟨r, hr⟩ := Classical.not_forall.1 h
    obtain ⟨hr, hge⟩ := Classical.not_imp.1 hr
    refine ⟨r, hr, fun j hj => ld_zero r j (by omega), ld r - n, ?_, ?_⟩
    · have := rr.lt r hr; omega
    · rw [show n + (ld r - n) = ld r by omega]; exact rr.one r hr
theorem led_unit {out : List (List Int)} (rr : RR p (n + n) out) (hl : out.length = n) (h : ∀ (i : Nat) (hi : i < out.length), ld out[i] = i) (i j : Nat) (hi : i < out.length) (hj : j < out.length) : el out[i] j = if i = j then 1 else 0 := by
  by_cases q : i = j
  · subst q
    rw [if_pos rfl]
    have := rr.one _ (List.getElem_mem hi); rw [h i hi] at this; exact this
  · rw [if_neg q]
    rcases Nat.lt_or_ge i j with z | z
    · have := (List.pairwise_iff_getElem.1 rr.ord i j hi hj z).2; rw [h j hj] at this; exact this
    · exact ld_zero _ j (by rw [h i hi]; omega)
def det1 (G : Nat → Nat → Int) : Int := G 0 0
def det2 (G : Nat → Nat → Int) : Int := G 0 0 * G 1 1 - G 0 1 * G 1 0
def det3 (G : Nat → Nat → Int) : Int := G 0 0 * (G 1 1 * G 2 2 - G 1 2 * G 2 1) - G 0 1 * (G 1 0 * G 2 2 - G 1 2 * G 2 0) + G 0 2 * (G 1 0 * G 2 1 - G 1 1 * G 2 0)
def detN (n : Nat) (G : Nat → Nat → Int) : Int := if n = 2 then det2 G else if n = 3 then det3 G else det1 G
theorem no_one (hp : 2 ≤ p) {x : Int} (h : p ∣ 1 + p * x) : False := by
  obtain ⟨u, hu⟩ := h
  have : p * (u - x) = 1 := by grind
  have h1 : p ∣ 1 := ⟨u - x, this.symm⟩
  have := Int.le_of_dvd (by omega) h1
  omega
theorem unit_det (hp : 2 ≤ p) (hn : n = 1 ∨ n = 2 ∨ n = 3) {G C : Nat → Nat → Int} (h : ∀ i, i < n → ∀ j, j < n → p ∣ (if i = j then 1 else 0) - sumN n (fun l => C i l * G l j)) : ¬ p ∣ detN n G := by
  intro hd
  obtain ⟨d, hd⟩ := hd
  rcases hn with rfl | rfl | rfl
  · obtain ⟨a, ha⟩ := h 0 (by omega) 0 (by omega)
    simp only [sumN, if_true] at ha
    simp only [detN, det1] at hd
    simp at hd
    exact no_one hp (x := -a) ⟨C 0 0 * d, by grind⟩
  · obtain ⟨a, ha⟩ := h 0 (by omega) 0 (by omega)
    obtain ⟨b, hb⟩ := h 0 (by omega) 1 (by omega)
    obtain ⟨c, hc⟩ := h 1 (by omega) 0 (by omega)
    obtain ⟨e, he⟩ := h 1 (by omega) 1 (by omega)
    simp only [sumN, if_true] at ha hb hc he
    simp at hb hc
    simp [detN, det2] at hd
    have e1 : (C 0 0 * G 0 0 + C 0 1 * G 1 0) * (C 1 0 * G 0 1 + C 1 1 * G 1 1) - (C 0 0 * G 0 1 + C 0 1 * G 1 1) * (C 1 0 * G 0 0 + C 1 1 * G 1 0) = (C 0 0 * C 1 1 - C 0 1 * C 1 0) * (G 0 0 * G 1 1 - G 0 1 * G 1 0) := by grind
    rw [hd] at e1
    have a1 : C 0 0 * G 0 0 + C 0 1 * G 1 0 = 1 - p * a := by omega
    have a2 : C 1 0 * G 0 1 + C 1 1 * G 1 1 = 1 - p * e := by omega
    have a3 : C 0 0 * G 0 1 + C 0 1 * G 1 1 = - (p * b) := by omega
    have a4 : C 1 0 * G 0 0 + C 1 1 * G 1 0 = - (p * c) := by omega
    rw [a1, a2, a3, a4] at e1
    exact no_one hp (x := - a - e + p * (a * e) - p * (b * c)) ⟨(C 0 0 * C 1 1 - C 0 1 * C 1 0) * d, by grind⟩
  · obtain ⟨x00, h00⟩ := h 0 (by omega) 0 (by omega)
    obtain ⟨x01, h01⟩ := h 0 (by omega) 1 (by omega)
    obtain ⟨x02, h02⟩ := h 0 (by omega) 2 (by omega)
    obtain ⟨x10, h10⟩ := h 1 (by omega) 0 (by omega)
    obtain ⟨x11, h11⟩ := h 1 (by omega) 1 (by omega)
    obtain ⟨x12, h12⟩ := h 1 (by omega) 2 (by omega)
    obtain ⟨x20, h20⟩ := h 2 (by omega) 0 (by omega)
    obtain ⟨x21, h21⟩ := h 2 (by omega) 1 (by omega)
    obtain ⟨x22, h22⟩ := h 2 (by omega) 2 (by omega)
    simp only [sumN, if_true] at h00 h01 h02 h10 h11 h12 h20 h21 h22
    simp only [Nat.zero_ne_one, Nat.one_ne_zero, if_false, show ((0 : Nat) = 2) = False by simp, show ((2 : Nat) = 0) = False by simp, show ((1 : Nat) = 2) = False by simp, show ((2 : Nat) = 1) = False by simp] at h01 h02 h10 h12 h20 h21
    simp [detN, det3] at hd
    generalize C 0 0 = c00 at *
    generalize C 0 1 = c01 at *
    generalize C 0 2 = c02 at *
    generalize C 1 0 = c10 at *
    generalize C 1 1 = c11 at *
    generalize C 1 2 = c12 at *
    generalize C 2 0 = c20 at *
    generalize C 2 1 = c21 at *
    generalize C 2 2 = c22 at *
    generalize G 0 0 = g00 at *
    generalize G 0 1 = g01 at *
    generalize G 0 2 = g02 at *
    generalize G 1 0 = g10 at *
    generalize G 1 1 = g11 at *
    generalize G 1 2 = g12 at *
    generalize G 2 0 = g20 at *
    generalize G 2 1 = g21 at *
    generalize G 2 2 = g22 at *
    clear h
    have e1 : (c00 * g00 + c01 * g10 + c02 * g20) * ((c10 * g01 + c11 * g11 + c12 * g21) * (c20 * g02 + c21 * g12 + c22 * g22) - (c10 * g02 + c11 * g12 + c12 * g22) * (c20 * g01 + c21 * g11 + c22 * g21))
        - (c00 * g01 + c01 * g11 + c02 * g21) * ((c10 * g00 + c11 * g10 + c12 * g20) * (c20 * g02 + c21 * g12 + c22 * g22) - (c10 * g02 + c11 * g12 + c12 * g22) * (c20 * g00 + c21 * g10 + c22 * g20))
        + (c00 * g02 + c01 * g12 + c02 * g22) * ((c10 * g00 + c11 * g10 + c12 * g20) * (c20 * g01 + c21 * g11 + c22 * g21) - (c10 * g01 + c11 * g11 + c12 * g21) * (c20 * g00 + c21 * g10 + c22 * g20))
        = (c00 * (c11 * c22 - c12 * c21) - c01 * (c10 * c22 - c12 * c20) + c02 * (c10 * c21 - c11 * c20)) * (g00 * (g11 * g22 - g12 * g21) - g01 * (g10 * g22 - g12 * g20) + g02 * (g10 * g21 - g11 * g20)) := by
      clear hd h00 h01 h02 h10 h11 h12 h20 h21 h22
      grind
    rw [hd] at e1
    have a00 : c00 * g00 + c01 * g10 + c02 * g20 = 1 - p * x00 := by omega
    have a01 : c00 * g01 + c01 * g11 + c02 * g21 = - (p * x01) := by omega
    have a02 : c00 * g02 + c01 * g12 + c02 * g22 = - (p * x02) := by omega
    have a10 : c10 * g00 + c11 * g10 + c12 * g20 = - (p * x10) := by omega
    have a11 : c10 * g01 + c11 * g11 + c12 * g21 = 1 - p * x11 := by omega
    have a12 : c10 * g02 + c11 * g12 + c12 * g22 = - (p * x12) := by omega
    have a20 : c20 * g00 + c21 * g10 + c22 * g20 = - (p * x20) := by omega
    have a21 : c20 * g01 + c21 * g11 + c22 * g21 = - (p * x21) := by omega
    have a22 : c20 * g02 + c21 * g12 + c22 * g22 = 1 - p * x22 := by omega
    rw [a00, a01, a02, a10, a11, a12, a20, a21, a22] at e1
    clear hd h00 h01 h02 h10 h11 h12 h20 h21 h22 a00 a01 a02 a10 a11 a12 a20 a21 a22
    generalize c00 * (c11 * c22 - c12 * c21) - c01 * (c10 * c22 - c12 * c20) + c02 * (c10 * c21 - c11 * c20) = D at e1
    refine no_one hp (x := - x00 - x11 - x22 + p * (x00 * x11 - x01 * x10 + x00 * x22 - x02 * x20 + x11 * x22 - x12 * x21) - p * p * (x00 * (x11 * x22 - x12 * x21) - x01 * (x10 * x22 - x12 * x20) + x02 * (x10 * x21 - x11 * x20))) ⟨D * d, ?_⟩
    rw [show p * (D * d) = D * (p * d) by grind, ← e1]
    clear e1
    grind
theorem zero_det (hn : n = 1 ∨ n = 2 ∨ n = 3) {G : Nat → Nat → Int} {c : Nat → Int} (h : ∀ j, j < n → p ∣ sumN n (fun l => c l * G l j)) {k : Nat} (hk : k < n) (hc : c k = 1) : p ∣ detN n G := by
  rcases hn with rfl | rfl | rfl
  · obtain ⟨a, ha⟩ := h 0 (by omega)
    obtain rfl : k = 0 := by omega
    simp only [sumN, hc] at ha
    exact ⟨a, by simp [detN, det1]; omega⟩
  · obtain ⟨a, ha⟩ := h 0 (by omega)
    obtain ⟨b, hb⟩ := h 1 (by omega)
    simp only [sumN] at ha hb
    simp [detN, det2]
    obtain rfl | rfl : k = 0 ∨ k = 1 := by omega
    · exact ⟨a * G 1 1 - b * G 1 0, by rw [hc] at ha hb; grind⟩
    · exact ⟨b * G 0 0 - a * G 0 1, by rw [hc] at ha hb; grind⟩
  · obtain ⟨a, ha⟩ := h 0 (by omega)
    obtain ⟨b, hb⟩ := h 1 (by omega)
    obtain ⟨d, hd⟩ := h 2 (by omega)
    simp only [sumN] at ha hb hd
    simp [detN, det3]
    obtain rfl | rfl | rfl : k = 0 ∨ k = 1 ∨ k = 2 := by omega
    · exact ⟨a * (G 1 1 * G 2 2 - G 1 2 * G 2 1) - b * (G 1 0 * G 2 2 - G 1 2 * G 2 0) + d * (G 1 0 * G 2 1 - G 1 1 * G 2 0), by rw [hc] at ha hb hd; grind⟩
    · exact ⟨- a * (G 0 1 * G 2 2 - G 0 2 * G 2 1) + b * (G 0 0 * G 2 2 - G 0 2 * G 2 0) - d * (G 0 0 * G 2 1 - G 0 1 * G 2 0), by rw [hc] at ha hb hd; grind⟩
    · exact ⟨a * (G 0 1 * G 1 2 - G 0 2 * G 1 1) - b * (G 0 0 * G 1 2 - G 0 2 * G 1 0) + d * (G 0 0 * G 1 1 - G 0 1 * G 1 0), by rw [hc] at ha hb hd; grind⟩
theorem unit_ech (hP : isP p = true) (hn : n = 1 ∨ n = 2 ∨ n = 3) {G : Nat → Nat → Int} {rows : List (List Int)} (hl : rows.length = n) (hr : ∀ r ∈ rows, Can p (n + n) r) (hu : ∀ (i : Nat) (hi : i < rows.length), ∀ l, l < n → el rows[i] (n + l) = if i = l then 1 else 0)
    (hg : ∀ (i : Nat) (hi : i < rows.length), ∀ j, j < n → el rows[i] j = G i j) :
    (ech p rows).length = n ∧ RR p (n + n) (ech p rows) ∧ ((∀ (i : Nat) (hi : i < (ech p rows).length), ld (ech p rows)[i] = i) ↔ detN n G % p ≠ 0) := by
  have hp := isP_pos hP
  have rr : RR p (n + n) (ech p rows) := ech_RR hP hr
  have h1 := (unit_len hP hl hr (fun i hi => ⟨by rw [hu i hi i (by omega), if_pos rfl], fun i' h1 h2 => by rw [hu i hi i' h2, if_neg (by omega)]⟩) n (Nat.le_refl _)).1
  rw [← hl, List.take_length, hl] at h1
  have hq : ∀ x ∈ ech p rows, Half p n G x := ech_lin hP (half_lin (by omega)) fun r h => ⟨hr r h, fun j hj => by
    obtain ⟨i, hi, rfl⟩ := List.getElem_of_mem h
    rw [hg i hi j hj]
    have : sumN n (fun l => el rows[i] (n + l) * G l j) = G i j := by
      have e : ∀ k, k ≤ n → sumN k (fun l => el rows[i] (n + l) * G l j) = if i < k then G i j else 0 := by
        intro k
        induction k with
        | zero => intro _; simp [sumN]
        | succ k ih =>
          intro hk
          simp only [sumN]
          rw [ih (by omega), hu i hi k (by omega)]
          by_cases q : i = k
          · subst q; rw [if_neg (by omega), if_pos rfl, if_pos (by omega)]; simp
          · rw [if_neg q]
            by_cases z : i < k
            · rw [if_pos z, if_pos (by omega)]; simp
            · rw [if_neg z, if_neg (by omega)]; simp
      rw [e n (Nat.le_refl _), if_pos (by omega)]
    rw [this]; simp⟩
  refine ⟨h1, rr, fun h hd => ?_, fun hd => ?_⟩
  · refine unit_det (by omega) hn (G := G) (C := fun i l => el ((ech p rows).getD i []) (n + l)) (fun i hi j hj => ?_) (Int.dvd_of_emod_eq_zero hd)
    have hi' : i < (ech p rows).length := by omega
    have e : (ech p rows).getD i [] = (ech p rows)[i] := by simp [List.getD_eq_getElem?_getD, List.getElem?_eq_getElem hi']
    simp only [e]
    have := hq _ (List.getElem_mem hi') j hj
    rw [led_unit rr h1 h i j hi' (by omega)] at this
    exact this
  · rcases led_or rr h1 with q | ⟨r, hr1, hz, l, hl1, hl2⟩
    · exact q
    · refine absurd (Int.emod_eq_zero_of_dvd (zero_det hn (G := G) (c := fun l => el r (n + l)) (fun j hj => ?_) hl1 hl2)) hd
      have := hq r hr1 j hj
      rw [hz j hj] at this
      obtain ⟨u, hu⟩ := this
      exact ⟨-u, by grind⟩
end
abbrev Mat : Type := mat.den
def me (g : Mat) (i j : Nat) : Int := tget (0 : Int) 3 (tget (Ty.dflt (.arr 3 (.int .u8))) 3 g i) j
def okM (g : Mat) : Bool := okV mat g
theorem kwf_u8 {x : Int} (h : kwf .u8 x = true) : 0 ≤ x ∧ x ≤ 255 := by
  simpa [kwf, IntKind.min, IntKind.max, IntKind.bits, IntKind.signed] using h
theorem me_rng {g : Mat} (h : okM g = true) (i j : Nat) : 0 ≤ me g i j ∧ me g i j ≤ 255 := by
  obtain ⟨⟨a, b, c, _⟩, ⟨d, e, f, _⟩, ⟨x, y, z, _⟩, _⟩ := g
  simp only [okM, okV, okV.okT, Bool.and_eq_true, and_true] at h
  obtain ⟨⟨h1, h2, h3⟩, ⟨h4, h5, h6⟩, h7, h8, h9⟩ := h
  have h1 := kwf_u8 h1
  have h2 := kwf_u8 h2
  have h3 := kwf_u8 h3
  have h4 := kwf_u8 h4
  have h5 := kwf_u8 h5
  have h6 := kwf_u8 h6
  have h7 := kwf_u8 h7
  have h8 := kwf_u8 h8
  have h9 := kwf_u8 h9
  have z0 : (0 : Int) ≤ 0 ∧ (0 : Int) ≤ 255 := by omega
  rcases i with _ | _ | _ | i <;> rcases j with _ | _ | _ | j <;> first | exact h1 | exact h2 | exact h3 | exact h4 | exact h5 | exact h6 | exact h7 | exact h8 | exact h9 | exact z0
def cf60 : Args [.v ex] → Option R109 := fun x => some (x.1, ())
theorem k60 : KOne Try.prog 109 ⟨[.v ex], [ex], false, false, 0, cf60⟩ := ok109 .nil cf60 fun x y h => by
  obtain ⟨⟨a, b, c, _⟩, _⟩ := x
  injection h with h; subst h
  exact ⟨5, rfl⟩
def cf16 : Args [.v mat] → Option R77 := fun x => some (x.1, ())
theorem k16 : KOne Try.prog 77 ⟨[.v mat], [mat], false, false, 0, cf16⟩ := ok77 _ (.cons k60 .nil) cf16 fun x y h => by
  obtain ⟨⟨⟨a, b, c, _⟩, ⟨d, e, f, _⟩, ⟨u, v, z, _⟩, _⟩, _⟩ := x
  injection h with h; subst h
  exact ⟨5, rfl⟩
def cf166 : Args [.v i64, .v i64, .p mat] → Option R110 := fn110 0
theorem k166 : KOne Try.prog 110 ⟨[.v i64, .v i64, .p mat], [i64], false, false, 0, cf166⟩ := ok110 .nil cf166 fun x y h => ⟨0, h⟩
theorem g166_ok {g : Mat} (hg : okM g = true) {i j : Int} (hi : 0 ≤ i ∧ i < 3) (hj : 0 ≤ j ∧ j < 3) : cf166 (i, j, g, ()) = some (me g (tn i) (tn j), ()) := by
  have h := me_rng hg (tn i) (tn j)
  simp only [me] at h ⊢
  simp (disch := omega) only [cf166, fn110, ib_t, ofn, cond_true, w6_id]
theorem by2 {x y : Int} (h1 : 0 ≤ x ∧ x ≤ 255) (h2 : 0 ≤ y ∧ y ≤ 255) : 0 ≤ x * y ∧ x * y ≤ 65025 := by
  have := mul_rng (c := 256) (d := 256) h1.1 (by omega) h2.1 (by omega)
  refine ⟨this.1, ?_⟩
  have : x * y ≤ 255 * y := Int.mul_le_mul_of_nonneg_right h1.2 h2.1
  omega
theorem by3 {x y : Int} (h1 : 0 ≤ x ∧ x ≤ 255) (h2 : -65025 ≤ y ∧ y ≤ 65025) : -16581375 ≤ x * y ∧ x * y ≤ 16581375 := by
  have a : x * y ≤ x * 65025 := Int.mul_le_mul_of_nonneg_left h2.2 h1.1
  have b : x * (-65025) ≤ x * y := Int.mul_le_mul_of_nonneg_left h2.1 h1.1
  omega
def cf133 : Args [.v i64, .v i64, .v mat] → Option R79 := fn79 cf166 0
theorem k133 : KOne Try.prog 79 ⟨[.v i64, .v i64, .v mat], [i64], false, false, 0, cf133⟩ := ok79 _ (.cons k166 .nil) cf133 fun x y h => ⟨0, h⟩
theorem g133_ok {p n : Int} {g : Mat} (hg : okM g = true) (hp : 2 ≤ p ∧ p ≤ 13) (hn : n = 1 ∨ n = 2 ∨ n = 3) : cf133 (p, n, g, ()) = some (detN (tn n) (me g) % p, ()) := by
  have r := me_rng hg
  have G := fun i j hi hj => g166_ok (g := g) (i := i) (j := j) hg hi hj
  have m := fun (x : Int) => tmod_md (p := p) (x := x) (by omega)
  rcases hn with rfl | rfl | rfl
  · have := r 0 0
    simp (disch := omega) only [cf133, fn79, G, deq_f, Bool.not_false, cond_true, cond_false]
    have z := m (me g (tn 0) (tn 0))
    rw [w6_id (by omega) (by omega), z.1]; rfl
  · have a := by2 (r 0 0) (r 1 1)
    have b := by2 (r 0 1) (r 1 0)
    simp (disch := omega) only [cf133, fn79, G, deq_f, deq_t, decide_true, Bool.not_false, cond_true, cond_false]
    rw [show tn 0 = 0 from rfl, show tn 1 = 1 from rfl]
    have z := m (me g 0 0 * me g 1 1 - me g 0 1 * me g 1 0)
    simp (disch := omega) only [w6_id, z.1]
    rfl
  · have a := by2 (r 1 1) (r 2 2)
    have b := by2 (r 1 2) (r 2 1)
    have c := by2 (r 1 0) (r 2 2)
    have d := by2 (r 1 2) (r 2 0)
    have e := by2 (r 1 0) (r 2 1)
    have f := by2 (r 1 1) (r 2 0)
    have a1 := by3 (r 0 0) (y := me g 1 1 * me g 2 2 - me g 1 2 * me g 2 1) (by omega)
    have a2 := by3 (r 0 1) (y := me g 1 0 * me g 2 2 - me g 1 2 * me g 2 0) (by omega)
    have a3 := by3 (r 0 2) (y := me g 1 0 * me g 2 1 - me g 1 1 * me g 2 0) (by omega)
    simp (disch := omega) only [cf133, fn79, G, deq_f, deq_t, decide_true, Bool.not_false, cond_true, cond_false]
    rw [show tn 0 = 0 from rfl, show tn 1 = 1 from rfl, show tn 2 = 2 from rfl]
    have z := m (me g 0 0 * (me g 1 1 * me g 2 2 - me g 1 2 * me g 2 1) - me g 0 1 * (me g 1 0 * me g 2 2 - me g 1 2 * me g 2 0) + me g 0 2 * (me g 1 0 * me g 2 1 - me g 1 1 * me g 2 0))
    simp (disch := omega) only [w6_id, z.1]
    rfl
def cellB (p n i j v : Int) : Bool := decide (v < p) && ((decide (i < n) && decide (j < n)) || decide (v = 0))
def rowB (p n : Int) (g : Mat) (i : Nat) : Bool := cellB p n i 0 (me g i 0) && (cellB p n i 1 (me g i 1) && cellB p n i 2 (me g i 2))
def rngB (p n : Int) (g : Mat) : Bool := rowB p n g 0 && (rowB p n g 1 && rowB p n g 2)
theorem step58 {p n i j : Int} {g : Mat} (hg : okM g = true) (hi : 0 ≤ i ∧ i < 3) (hj : 0 ≤ j ∧ j < 3) {g82 : Args [.v i64] → Option (Ress [.bool])} {g73 : Args [.v i64, .v i64, .v i64] → Option (Ress [.bool])} {g129 : Args [.v i64, .v i64, .v mat] → Option (Ress [mat, .bool])} {F : Nat} {k kx : ShVal sh71_7 → Option R71} :
    st71_7 g82 g73 g129 F ((p, ()), ((n, ()), ((g, ()), ((i, ()), ((j, ()), ()))))) k kx = bif cellB p n i j (me g (tn i) (tn j)) then k ((p, ()), ((n, ()), ((g, ()), ((i, ()), ((j + 1, ()), ()))))) else some (false, ()) := by
  have r := me_rng hg (tn i) (tn j)
  simp (disch := omega) only [st71_7, dlt_t, cond_true, ib_t, ofn, w6_id (x := j + 1)]
  rw [show tget (0 : Int) 3 (tget (Ty.dflt (.arr 3 (.int .u8))) 3 g (tn i)) (tn j) = me g (tn i) (tn j) from rfl]
  rw [w6_id (by omega) (by omega)]
  generalize me g (tn i) (tn j) = v at *
  unfold cellB
  by_cases h1 : p ≤ v
  · rw [decide_eq_true h1, decide_eq_false (show ¬ v < p by omega)]; rfl
  · rw [decide_eq_false h1, decide_eq_true (show v < p by omega)]
    by_cases h2 : n ≤ i
    · rw [decide_eq_true h2, decide_eq_false (show ¬ i < n by omega)]
      by_cases h4 : v = 0
      · rw [decide_eq_true h4]; rfl
      · rw [decide_eq_false h4]; rfl
    · rw [decide_eq_false h2, decide_eq_true (show i < n by omega)]
      by_cases h3 : n ≤ j
      · rw [decide_eq_true h3, decide_eq_false (show ¬ j < n by omega)]
        by_cases h4 : v = 0
        · rw [decide_eq_true h4]; rfl
        · rw [decide_eq_false h4]; rfl
      · rw [decide_eq_false h3, decide_eq_true (show j < n by omega)]; rfl
theorem row58 {p n i : Int} {g : Mat} (hg : okM g = true) (hi : 0 ≤ i ∧ i < 3) {g82 : Args [.v i64] → Option (Ress [.bool])} {g73 : Args [.v i64, .v i64, .v i64] → Option (Ress [.bool])} {g129 : Args [.v i64, .v i64, .v mat] → Option (Ress [mat, .bool])} {F0 F : Nat} {kx : ShVal sh71_7 → Option R71} :
    iter (fun s k => st71_7 g82 g73 g129 F0 s k kx) (F + 4) ((p, ()), ((n, ()), ((g, ()), ((i, ()), (((0 : Int), ()), ()))))) = bif rowB p n g (tn i) then kx ((p, ()), ((n, ()), ((g, ()), ((i, ()), (((3 : Int), ()), ()))))) else some (false, ()) := by
  have hi' : ((tn i : Nat) : Int) = i := Int.toNat_of_nonneg hi.1
  simp only [iter]
  rw [step58 hg hi (by omega)]
  simp only [iter]
  rw [step58 hg hi (by omega)]
  simp only [iter]
  rw [step58 hg hi (by omega)]
  unfold rowB
  rw [hi']
  simp only [show ((0 : Int) + 1) = 1 from rfl, show ((1 : Int) + 1) = 2 from rfl, show ((2 : Int) + 1) = 3 from rfl, show tn 0 = 0 from rfl, show tn 1 = 1 from rfl, show tn 2 = 2 from rfl]
  cases cellB p n i 0 (me g (tn i) 0) with
  | false => rfl
  | true =>
    cases cellB p n i 1 (me g (tn i) 1) with
    | false => rfl
    | true =>
      cases cellB p n i 2 (me g (tn i) 2) with
      | false => rfl
      | true => simp (disch := omega) only [cond_true, Bool.and_self, st71_7, dlt_f, cond_false]
theorem loop58 {p n : Int} {g : Mat} (hg : okM g = true) {g82 : Args [.v i64] → Option (Ress [.bool])} {g73 : Args [.v i64, .v i64, .v i64] → Option (Ress [.bool])} {g129 : Args [.v i64, .v i64, .v mat] → Option (Ress [mat, .bool])} {F : Nat} {kx : ShVal sh71_4 → Option R71} :
    iter (fun s k => st71_4 g82 g73 g129 (F + 4) s k kx) (F + 4) ((p, ()), ((n, ()), ((g, ()), (((0 : Int), ()), ())))) = bif rngB p n g then kx ((p, ()), ((n, ()), ((g, ()), (((3 : Int), ()), ())))) else some (false, ()) := by
  have one : ∀ (i : Int) (hi : 0 ≤ i ∧ i < 3) (k : ShVal sh71_4 → Option R71), st71_4 g82 g73 g129 (F + 4) ((p, ()), ((n, ()), ((g, ()), ((i, ()), ())))) k kx = bif rowB p n g (tn i) then k ((p, ()), ((n, ()), ((g, ()), ((i + 1, ()), ())))) else some (false, ()) := by
    intro i hi k
    simp (disch := omega) only [st71_4, dlt_t, cond_true, ru71_7]
    rw [row58 hg hi]
    simp (disch := omega) only [w6_id]
  simp only [iter]
  rw [one 0 (by omega)]
  simp only [iter]
  rw [one _ (by omega)]
  simp only [iter]
  rw [one _ (by omega)]
  unfold rngB
  simp only [show ((0 : Int) + 1) = 1 from rfl, show ((1 : Int) + 1) = 2 from rfl, show ((2 : Int) + 1) = 3 from rfl, show tn 0 = 0 from rfl, show tn 1 = 1 from rfl, show tn 2 = 2 from rfl]
  cases rowB p n g 0 with
  | false => rfl
  | true =>
    cases rowB p n g 1 with
    | false => rfl
    | true =>
      cases rowB p n g 2 with
      | false => rfl
      | true => simp (disch := omega) only [cond_true, Bool.and_self, st71_4, dlt_f, cond_false]
theorem step131 {p n i j : Int} {g : Mat} (hg : okM g = true) (hi : 0 ≤ i ∧ i < 3) (hj : 0 ≤ j ∧ j < 3) {g86 : Args [.v i64] → Option (Ress [.bool])} {g87 : Args [.v i64] → Option (Ress [.bool])} {g133 : Args [.v i64, .v i64, .v mat] → Option (Ress [i64])} {F : Nat} {i' : Int} {k kx : ShVal sh123_7 → Option R123} :
    st123_7 g86 g87 g133 F ((p, ()), ((n, ()), ((g, ()), ((i, ()), ((i', ()), ((j, ()), ())))))) k kx = bif cellB p n i j (me g (tn i) (tn j)) then k ((p, ()), ((n, ()), ((g, ()), ((i, ()), ((i', ()), ((j + 1, ()), ())))))) else some (false, ()) := by
  have r := me_rng hg (tn i) (tn j)
  simp (disch := omega) only [st123_7, dlt_t, cond_true, ib_t, ofn, w6_id (x := j + 1)]
  rw [show tget (0 : Int) 3 (tget (Ty.dflt (.arr 3 (.int .u8))) 3 g (tn i)) (tn j) = me g (tn i) (tn j) from rfl]
  rw [w6_id (by omega) (by omega)]
  generalize me g (tn i) (tn j) = v at *
  unfold cellB
  by_cases h1 : p ≤ v
  · rw [decide_eq_true h1, decide_eq_false (show ¬ v < p by omega)]; rfl
  · rw [decide_eq_false h1, decide_eq_true (show v < p by omega)]
    by_cases h2 : n ≤ i
    · rw [decide_eq_true h2, decide_eq_false (show ¬ i < n by omega)]
      by_cases h4 : v = 0
      · rw [decide_eq_true h4]; rfl
      · rw [decide_eq_false h4]; rfl
    · rw [decide_eq_false h2, decide_eq_true (show i < n by omega)]
      by_cases h3 : n ≤ j
      · rw [decide_eq_true h3, decide_eq_false (show ¬ j < n by omega)]
        by_cases h4 : v = 0
        · rw [decide_eq_true h4]; rfl
        · rw [decide_eq_false h4]; rfl
      · rw [decide_eq_false h3, decide_eq_true (show j < n by omega)]; rfl
theorem row131 {p n i : Int} {g : Mat} (hg : okM g = true) (hi : 0 ≤ i ∧ i < 3) {g86 : Args [.v i64] → Option (Ress [.bool])} {g87 : Args [.v i64] → Option (Ress [.bool])} {g133 : Args [.v i64, .v i64, .v mat] → Option (Ress [i64])} {F0 F : Nat} {i' : Int} {kx : ShVal sh123_7 → Option R123} :
    iter (fun s k => st123_7 g86 g87 g133 F0 s k kx) (F + 4) ((p, ()), ((n, ()), ((g, ()), ((i, ()), ((i', ()), (((0 : Int), ()), ())))))) = bif rowB p n g (tn i) then kx ((p, ()), ((n, ()), ((g, ()), ((i, ()), ((i', ()), (((3 : Int), ()), ())))))) else some (false, ()) := by
  have hi' : ((tn i : Nat) : Int) = i := Int.toNat_of_nonneg hi.1
  simp only [iter]
  rw [step131 hg hi (by omega)]
  simp only [iter]
  rw [step131 hg hi (by omega)]
  simp only [iter]
  rw [step131 hg hi (by omega)]
  unfold rowB
  rw [hi']
  simp only [show ((0 : Int) + 1) = 1 from rfl, show ((1 : Int) + 1) = 2 from rfl, show ((2 : Int) + 1) = 3 from rfl, show tn 0 = 0 from rfl, show tn 1 = 1 from rfl, show tn 2 = 2 from rfl]
  cases cellB p n i 0 (me g (tn i) 0) with
  | false => rfl
  | true =>
    cases cellB p n i 1 (me g (tn i) 1) with
    | false => rfl
    | true =>
      cases cellB p n i 2 (me g (tn i) 2) with
      | false => rfl
      | true => simp (disch := omega) only [cond_true, Bool.and_self, st123_7, dlt_f, cond_false]
theorem loop131 {p n : Int} {g : Mat} (hg : okM g = true) {g86 : Args [.v i64] → Option (Ress [.bool])} {g87 : Args [.v i64] → Option (Ress [.bool])} {g133 : Args [.v i64, .v i64, .v mat] → Option (Ress [i64])} {F : Nat} {kx : ShVal sh123_4 → Option R123} :
    iter (fun s k => st123_4 g86 g87 g133 (F + 4) s k kx) (F + 4) ((p, ()), ((n, ()), ((g, ()), (((0 : Int), ()), ())))) = bif rngB p n g then kx ((p, ()), ((n, ()), ((g, ()), (((3 : Int), ()), ())))) else some (false, ()) := by
  have one : ∀ (i : Int) (hi : 0 ≤ i ∧ i < 3) (k : ShVal sh123_4 → Option R123), st123_4 g86 g87 g133 (F + 4) ((p, ()), ((n, ()), ((g, ()), ((i, ()), ())))) k kx = bif rowB p n g (tn i) then k ((p, ()), ((n, ()), ((g, ()), ((i + 1, ()), ())))) else some (false, ()) := by
    intro i hi k
    simp (disch := omega) only [st123_4, dlt_t, cond_true, ru123_7]
    rw [row131 hg hi]
    simp (disch := omega) only [w6_id]
  simp only [iter]
  rw [one 0 (by omega)]
  simp only [iter]
  rw [one _ (by omega)]
  simp only [iter]
  rw [one _ (by omega)]
  unfold rngB
  simp only [show ((0 : Int) + 1) = 1 from rfl, show ((1 : Int) + 1) = 2 from rfl, show ((2 : Int) + 1) = 3 from rfl, show tn 0 = 0 from rfl, show tn 1 = 1 from rfl, show tn 2 = 2 from rfl]
  cases rowB p n g 0 with
  | false => rfl
  | true =>
    cases rowB p n g 1 with
    | false => rfl
    | true =>
      cases rowB p n g 2 with
      | false => rfl
      | true => simp (disch := omega) only [cond_true, Bool.and_self, st123_4, dlt_f, cond_false]
def inR (n : Int) : Bool := decide (1 ≤ n) && decide (n ≤ 3)
theorem inR_cases {n : Int} (h : inR n = true) : n = 1 ∨ n = 2 ∨ n = 3 := by
  simp [inR] at h; omega
def matB (p n : Int) (g : Mat) : Bool := isP p && (inR n && (rngB p n g && !decide (detN (tn n) (me g) % p = 0)))
def cf131 : Args [.v i64, .v i64, .v mat] → Option R123 := fn123 cf82 cf87 cf133 6
theorem k131 : KOne Try.prog 123 ⟨[.v i64, .v i64, .v mat], [.bool], false, false, 0, cf131⟩ := ok123 _ _ _ (.cons k86 (.cons k87 (.cons k133 .nil))) cf131 fun x y h => ⟨6, h⟩
theorem g131_ok {p n : Int} {g : Mat} (hg : okM g = true) : cf131 (p, n, g, ()) = some (matB p n g, ()) := by
  simp only [cf131, fn123]
  rw [show cf82 (p, ()) = some (isP p, ()) from rfl, show cf87 (n, ()) = some (inR n, ()) from rfl]
  simp only
  unfold matB
  cases hP : isP p with
  | false => rfl
  | true =>
    cases hR : inR n with
    | false => rfl
    | true =>
      simp only [Bool.not_true, cond_false, Bool.true_and]
      rw [show ru123_4 cf82 cf87 cf133 6 = fun s kx => iter (fun s k => st123_4 cf82 cf87 cf133 (2 + 4) s k kx) (2 + 4) s from rfl]
      simp only
      rw [loop131 hg]
      cases rngB p n g with
      | false => rfl
      | true =>
        simp only [cond_true]
        rw [g133_ok hg (isP_pos hP) (inR_cases hR)]
        rfl
end Go.Proofs.YtmdpmnjnpnjppaaEv
