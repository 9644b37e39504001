/- The program's operations on plain typed data, that the machine does the same, what the functions come to, and what they give (part 4). No condition. -/
import Derived.Test.YtmdpmnjnpnjppaaGreatEA3003
set_option linter.unusedVariables false
set_option linter.unusedSimpArgs false
namespace Go.Proofs.YtmdpmnjnpnjppaaGreatEv
open Go Go.RowKit
def boxInit (t : Ty) (x : t.den) : List Leaf :=
  match boxLeaves t [mkfz t 0 true x] with
  | some ls => ls
  | none => [mkfz t 0 true x]
def initEnv : Nat → (ps : List PK) → Args ps → Env
  | _, [], _ => []
  | i, .v t :: r, x => (i, .val t.agg [mkfz t 0 true x.1]) :: initEnv (i + 1) r x.2
  | i, .p t :: r, x => (i, .box true (boxInit t x.1)) :: initEnv (i + 1) r x.2
  | i, .fn f :: r, x => (i, .fn f []) :: initEnv (i + 1) r x.2
  | i, .m _ _ :: r, x => (i, .dead) :: initEnv (i + 1) r x.2
def leavesOf (T : TTab) (env : Env) (rv : ResultVar) (t : Ty) : Option (List Leaf) :=
  match rv with
  | .tmp s => (match env.get s with
    | .val agg ls => bif (agg && t.agg) || (!agg && !t.agg) then some ls else none
    | _ => none)
  | .cell s ty => (match env.get s, tyOf T ty with
    | .box _ ls, some t' => bif t'.eqb t then some ls else none
    | _, _ => none)
def collect (T : TTab) (env : Env) : List ResultVar → (rs : List Ty) → Option (List (List Leaf) × Ress rs)
  | [], [] => some ([], ())
  | rv :: r, t :: ts => (match leavesOf T env rv t with
    | some ls => (match valAs t ls, collect T env r ts with
      | some x, some (lss, y) => some (ls :: lss, (x, y))
      | _, _ => none)
    | none => none)
  | _, _ => none
def regsOf : List Leaf → Option (List Nat)
  | [] => some []
  | .fz t reg lin _ :: r => bif t.flat then regsOf r else bif lin && !(Nat.beq reg 0) then (match regsOf r with | some l => some (reg :: l) | none => none) else none
  | .rt _ _ tag _ lin _ _ :: r => bif lin && !(Nat.beq tag 0) then (match regsOf r with | some l => some (tag :: l) | none => none) else none
def distinct : List Nat → Bool
  | [] => true
  | x :: r => !(memN r x) && distinct r
def freshOk (lss : List (List Leaf)) : Bool :=
  match regsOf lss.flatten with
  | some l => distinct l
  | none => false
def strictOk : List Ty → List (List Leaf) → Bool
  | .slice _ _ :: r, ls :: lss => (match ls with | [.rt _ _ _ _ _ true _] => true | [.rt _ _ _ _ _ false v] => !v.isEmpty | [.fz (.slice _ _) _ _ v] => !v.isEmpty | _ => false) && strictOk r lss
  | _ :: r, _ :: lss => strictOk r lss
  | _, _ => true
def litRes : List ResultVar → Env → Env
  | [], env => env
  | .tmp s :: r, env => litRes r (litArg env (.tmp s))
  | .cell _ _ :: r, env => litRes r env
def endK (T : TTab) (rvs : List ResultVar) (rs : List Ty) (fresh st : Bool) (env : Env) : Option (Ress rs) :=
  match collect T (litRes rvs env) rvs rs with
  | some (lss, y) => bif (!fresh || freshOk lss) && (!st || strictOk rs lss) then some y else none
  | none => none
def fnK (T : TTab) (K : CTab) (H : List (Nat × List Nat)) (rs : List Ty) (LT : LTab (Ress rs)) (c : Code) (rvs : List ResultVar) (ps : List PK) (fresh st : Bool) (x : Args ps) : Option (Ress rs) :=
  evL T K H LT c (initEnv 0 ps x) (endK T rvs rs fresh st) (fun _ _ => none) (endK T rvs rs fresh st)
section
variable {P : Program} {T : TTab} {K : CTab} {n : NS} {w0 w : World} {W : Nat → Prop} {g : Gh} {a : Act}
theorem litRes_sound : ∀ {rvs : List ResultVar} {env : Env} {g : Gh}, (∀ b, W b → g.al b) → St n w0 W g env.get a w → ∃ g', g'.al = g.al ∧ St n w0 W g' (litRes rvs env).get a w
  | [], env, g, hw, st => ⟨g, rfl, st⟩
  | .tmp s :: r, env, g, hw, st => by
    obtain ⟨g1, q1, q2⟩ := litArg_sound (x := .tmp s) hw st
    obtain ⟨g2, q3, q4⟩ := litRes_sound (rvs := r) (fun b hb => by rw [q1]; exact hw b hb) q2
    exact ⟨g2, q3.trans q1, q4⟩
  | .cell s t :: r, env, g, hw, st => litRes_sound (rvs := r) hw st
def resOne (tmps : Array Value) : ResultVar → Sem Value
  | .tmp t => pure (tmps.getD t undef)
  | .cell a t => do loadVar t (← asAddr (tmps.getD a undef))
theorem leavesOf_sound {env : Env} {rv : ResultVar} {t : Ty} {ls : List Leaf} {y : t.den} (hT : TOK P T) (he : ∀ s, EntR g w.heap s (env.get s) (a.tmps.getD s undef)) (h : leavesOf T env rv t = some ls) (hy : valAs t ls = some y) :
    ∃ v, (resOne a.tmps rv).run P w = .ok v w ∧ ValR g w.heap t.agg ls v := by
  unfold leavesOf at h
  split at h
  · rename_i s
    split at h
    · rename_i agg ls' hg
      cases hq : ((agg && t.agg) || (!agg && !t.agg)) with
      | false => rw [hq] at h; cases h
      | true =>
        rw [hq] at h; injection h with h; subst h
        have e : agg = t.agg := by cases agg <;> cases ht : t.agg <;> simp [ht] at hq <;> rfl
        have := he s; rw [hg] at this
        exact ⟨_, rfl, by rw [← e]; exact this⟩
    · cases h
  · rename_i s ty
    split at h
    · rename_i ro ls' t' hg ht
      cases hq : t'.eqb t with
      | false => rw [hq] at h; cases h
      | true =>
        rw [hq] at h; injection h with h; subst h
        have := eqb_eq hq; subst this
        have hb := he s; rw [hg] at hb
        obtain ⟨b, c, e, fr, bs, h1, h2, h3, _⟩ := hb
        have k := hT _ _ ht
        have hl := h3.length
        have hz := valAs_size hy
        have hrd := valAs_rd hy h3
        have hsz : t'.size = c.toList.length := by omega
        refine ⟨_, ?_, ⟨c.toList, bs, rfl, fun ha => ?_, h3⟩⟩
        · simp only [resOne, h1]
          have ho : 0 + t'.size ≤ c.size := by rw [hsz]; simp
          have e1 : (asAddr (.pointer (some ⟨b, 0, none⟩))).run P w = .ok ⟨b, 0, none⟩ w := rfl
          simp only [Sem.run_bind, e1, Result.andThen_ok, run_loadVar k h2 ho]
          rw [List.drop_zero, hsz, List.take_length]
        · obtain ⟨v, hv1, hv2⟩ := hrd.one ha
          rw [hv1, ha]; exact ⟨rfl, hv2⟩
    · cases h
theorem valAs_shape {h : Mem} {t : Ty} {ls : List Leaf} {v : Value} {y : t.den} (hv : ValR g h t.agg ls v) (hy : valAs t ls = some y) : ∃ bs, LeavesB g h ls v.cells.toList bs ∧ OneV h t y v bs := by
  obtain ⟨bs, hl⟩ := ValR.cells hv
  exact ⟨bs, hl, valAs_rd hy hl, (ValR.shape hv).1, (ValR.shape hv).2⟩
theorem distinct_nodup : ∀ {l : List Nat}, distinct l = true → l.Nodup
  | [], _ => List.nodup_nil
  | x :: r, h => by
    simp only [distinct, Bool.and_eq_true, Bool.not_eq_true'] at h
    refine List.nodup_cons.2 ⟨fun hm => ?_, distinct_nodup h.2⟩
    rw [memN_iff.2 hm] at h; cases h.1
theorem fresh_nodup {h : Mem} : ∀ {ls : List Leaf} {cs : List Value} {bs : List Nat} {l : List Nat}, LeavesB g h ls cs bs → regsOf ls = some l → l.Nodup → bs.Nodup ∧ ∀ b ∈ bs, g.own b ∈ l ∧ g.own b ≠ 0
  | [], cs, bs, l, ⟨_, h2⟩, _, _ => by subst h2; exact ⟨List.nodup_nil, fun b hb => (by cases hb)⟩
  | .fz t reg lin v :: r, cs, bs, l, ⟨b1, b2, h1, h2, h3⟩, hr, hn => by
    subst h3
    simp only [regsOf] at hr
    cases hf : t.flat with
    | true =>
      rw [hf] at hr
      have : b1 = [] := h1.1.flat hf
      subst this
      exact fresh_nodup h2 hr hn
    | false =>
      rw [hf] at hr; simp only [cond_false] at hr
      cases hq : (lin && !(Nat.beq reg 0)) with
      | false => rw [hq] at hr; cases hr
      | true =>
        rw [hq] at hr; simp only [cond_true] at hr
        simp only [Bool.and_eq_true, Bool.not_eq_true'] at hq
        split at hr
        · rename_i l' hl
          injection hr with hr; subst hr
          have hn' := List.nodup_cons.1 hn
          obtain ⟨p1, p2⟩ := fresh_nodup h2 hl hn'.2
          have o1 : ∀ b ∈ b1, g.own b = reg := h1.2.2.1 (nbeq_ne hq.2)
          refine ⟨List.nodup_append.2 ⟨(h1.2.2.2 hq.1).1 (nbeq_ne hq.2), p1, fun x hx z hz e => ?_⟩, fun b hb => ?_⟩
          · subst e; have := (p2 x hz).1; rw [o1 x hx] at this; exact hn'.1 this
          · rcases List.mem_append.1 hb with hb | hb
            · rw [o1 b hb]; exact ⟨by simp, nbeq_ne hq.2⟩
            · obtain ⟨z1, z2⟩ := p2 b hb; exact ⟨by simp [z1], z2⟩
        · cases hr
  | .rt e t tag sub lin st v :: r, cs, bs, l, ⟨b1, b2, h1, h2, h3⟩, hr, hn => by
    subst h3
    simp only [regsOf] at hr
    cases hq : (lin && !(Nat.beq tag 0)) with
    | false => rw [hq] at hr; cases hr
    | true =>
      rw [hq] at hr; simp only [cond_true] at hr
      simp only [Bool.and_eq_true, Bool.not_eq_true'] at hq
      split at hr
      · rename_i l' hl
        injection hr with hr; subst hr
        have hn' := List.nodup_cons.1 hn
        obtain ⟨p1, p2⟩ := fresh_nodup h2 hl hn'.2
        obtain ⟨hd, blk, bs', e1, e2, _, _, _, e5, e6, e7⟩ := h1
        subst e2
        obtain ⟨z1, z2⟩ := e7 hq.1
        have o1 : ∀ b ∈ blk.toList ++ bs', g.own b = tag := by
          intro b hb
          rcases List.mem_append.1 hb with hb | hb
          · exact (e6 b (by simpa using hb)).2.1
          · exact z1 b hb
        have nd1 : (blk.toList ++ bs').Nodup := by
          refine List.nodup_append.2 ⟨by cases blk <;> simp, z2, fun x hx y hy e => ?_⟩
          subst e
          have := (e6 x (by simpa using hx)).1
          rw [e5 x hy] at this; cases this
        refine ⟨List.nodup_append.2 ⟨nd1, p1, fun x hx z hz e => ?_⟩, fun b hb => ?_⟩
        · subst e; have := (p2 x hz).1; rw [o1 x hx] at this; exact hn'.1 this
        · rcases List.mem_append.1 hb with hb | hb
          · rw [o1 b hb]; exact ⟨by simp, nbeq_ne hq.2⟩
          · obtain ⟨z1, z2⟩ := p2 b hb; exact ⟨by simp [z1], z2⟩
      · cases hr
theorem LeavesB.mine {h : Mem} : ∀ {ls : List Leaf} {cs : List Value} {bs : List Nat}, LeavesB g h ls cs bs → ∀ b ∈ bs, g.kd b = .fz ∨ ∃ t, g.kd b = .mu t
  | [], cs, bs, ⟨_, h2⟩ => by subst h2; intro b hb; cases hb
  | l :: r, cs, bs, ⟨b1, b2, h1, h2, h3⟩ => by
    subst h3; intro b hb
    rcases List.mem_append.1 hb with hb | hb
    · exact h1.mine b hb
    · exact LeavesB.mine h2 b hb
theorem strict_one {h : Mem} {e : TypeId} {u : Ty} {e' : TypeId} {u' : Ty} {tag : Nat} {sub lin : Bool} {x : List u'.den} {v : Value} {y : List u.den} {cs : List Value} {bs : List Nat} (hl : LeavesB g h [.rt e' u' tag sub lin true x] cs bs)
    (hy : valAs (.slice e u) [.rt e' u' tag sub lin true x] = some y) (hc : v.cells = #[v]) (hcs : cs = v.cells.toList) : v = .slice none 0 0 ↔ y = [] := by
  have hl := hl.one
  obtain ⟨hd, blk, bs', e1, e2, _, e4, _⟩ := hl
  rw [hcs, hc] at e1
  injection e1 with e1 _
  rw [e1, e4 rfl]
  unfold valAs at hy
  simp only at hy
  cases hq : (Leaf.rt e' u' tag sub lin true x).ty.eqb (.slice e u) with
  | false => rw [hq] at hy; simp [valMany] at hy
  | true =>
    rw [hq] at hy; simp only [cond_true] at hy
    obtain ⟨ee, hy⟩ := Ty.cast_eq hy
    injection ee with ee1 ee2
    subst ee1; subst ee2
    have hy : x = y := hy
    rw [hy]
theorem strict_ne {h : Mem} {e : TypeId} {u : Ty} {y : List u.den} {v : Value} {bs : List Nat} (ho : OneV h (.slice e u) y v bs) (hy : y ≠ []) : v = .slice none 0 0 ↔ y = [] := by
  constructor
  · intro hv
    obtain ⟨⟨hd, blk, bs', h1, h2, _⟩, _, h3⟩ := ho
    rw [h3 rfl] at h1
    injection h1 with h1 _
    rcases h2 with ⟨_, _, q, _⟩ | ⟨b, o, cap, c, fr, q, _⟩
    · exact q
    · rw [← h1, hv] at q; cases q
  · intro q; exact absurd q hy
theorem valAs_len {e : TypeId} {u : Ty} {l : Leaf} {y : List u.den} {m : Nat} (hy : valAs (.slice e u) [l] = some y) (hm : lenL l = some m) : y.length = m := by
  unfold valAs at hy
  simp only at hy
  cases hq : l.ty.eqb (.slice e u) with
  | false => rw [hq] at hy; simp [valMany] at hy
  | true =>
    rw [hq] at hy; simp only [cond_true] at hy
    obtain ⟨ee, hy⟩ := Ty.cast_eq hy
    cases l with
    | rt e' u' tag sub lin st x =>
      injection ee with ee1 ee2
      subst ee1; subst ee2
      have hy : x = y := hy
      subst hy
      simpa [lenL] using hm
    | fz t reg lin x =>
      have ee : t = .slice e u := ee
      subst ee
      have hy : x = y := hy
      subst hy
      simpa [lenL] using hm
theorem collect_sound {env : Env} {st : Bool} (hT : TOK P T) (he : ∀ s, EntR g w.heap s (env.get s) (a.tmps.getD s undef)) : ∀ {rvs : List ResultVar} {rs : List Ty} {lss : List (List Leaf)} {y : Ress rs}, collect T env rvs rs = some (lss, y) → (st = true → strictOk rs lss = true) →
    ∃ vs bs, (rvs.mapM (resOne a.tmps)).run P w = .ok vs w ∧ ResV w.heap st rs y vs bs ∧ (∀ b ∈ bs, g.kd b = .fz ∨ ∃ t, g.kd b = .mu t) ∧ ∃ cs, LeavesB g w.heap lss.flatten cs bs
  | [], [], lss, y, h, hs => by
    simp only [collect, Option.some.injEq, Prod.mk.injEq] at h
    obtain ⟨rfl, -⟩ := h
    exact ⟨[], [], rfl, ⟨rfl, rfl⟩, fun b hb => (by cases hb), [], rfl, rfl⟩
  | rv :: r, t :: ts, lss, y, h, hs => by
    simp only [collect] at h
    split at h
    · rename_i ls hls
      split at h
      · rename_i x lss' y' hx hr
        simp only [Option.some.injEq, Prod.mk.injEq] at h
        obtain ⟨rfl, rfl⟩ := h
        obtain ⟨v, q1, q2⟩ := leavesOf_sound hT he hls hx
        obtain ⟨b1, q3, q4⟩ := valAs_shape q2 hx
        have hs' : st = true → strictOk ts lss' = true := by
          intro hst
          have := hs hst
          cases t <;> simp only [strictOk, Bool.and_eq_true] at this <;> first | exact this.2 | exact this
        obtain ⟨vs, bs, z1, z2, z3, cs, z4⟩ := collect_sound (st := st) hT he hr hs'
        refine ⟨v :: vs, b1 ++ bs, ?_, ⟨v, vs, b1, bs, rfl, q4, fun hst => ?_, z2, rfl⟩, fun b hb => ?_, v.cells.toList ++ cs, ?_⟩
        · rw [List.mapM_cons]
          simp only [Sem.run_bind, q1, Result.andThen_ok, z1, Sem.run_pure]
        · have hh := hs hst
          cases t with
          | slice e u =>
            simp only [strictOk, Bool.and_eq_true] at hh
            obtain ⟨hh, _⟩ := hh
            split at hh
            · exact strict_one q3 hx (q4.2.2 rfl) rfl
            · refine strict_ne q4 fun hy => ?_
              have := valAs_len hx (m := _) rfl
              rw [show x = [] from hy] at this
              simp only [Bool.not_eq_true', List.isEmpty_eq_false_iff] at hh
              exact hh (List.eq_nil_of_length_eq_zero this.symm)
            · refine strict_ne q4 fun hy => ?_
              have := valAs_len hx (m := _) rfl
              rw [show x = [] from hy] at this
              simp only [Bool.not_eq_true', List.isEmpty_eq_false_iff] at hh
              exact hh (List.eq_nil_of_length_eq_zero this.symm)
            · cases hh
          | _ => trivial
        · rcases List.mem_append.1 hb with hb | hb
          · exact q3.mine b hb
          · exact z3 b hb
        · simp only [List.flatten_cons]
          have app : ∀ {ls rest : List Leaf} {cs cs' : List Value} {b1 b2 : List Nat}, LeavesB g w.heap ls cs b1 → LeavesB g w.heap rest cs' b2 → LeavesB g w.heap (ls ++ rest) (cs ++ cs') (b1 ++ b2) := by
            intro ls
            induction ls with
            | nil => rintro rest cs cs' b1 b2 ⟨rfl, rfl⟩ h; simpa using h
            | cons l ls ih =>
              rintro rest cs cs' b1 b2 ⟨c1, c2, k1, k2, rfl⟩ k3
              have hlen : l.ty.size ≤ cs.length := by have := k1.rd.length; simp at this; omega
              rw [List.append_assoc]
              refine ⟨c1, c2 ++ b2, ?_, ?_, rfl⟩
              · rw [List.take_append_of_le_length hlen]; exact k1
              · rw [List.drop_append_of_le_length hlen]; exact ih k2 k3
          exact app q3 z4
      · cases h
    · cases h
  | [], _ :: _, _, _, h, _ => by cases h
  | _ :: _, [], _, _, h, _ => by cases h
end
section
variable {P : Program} {T : TTab} {K : CTab} {H : List (Nat × List Nat)} {n : NS} {w0 w : World} {W : Nat → Prop} {g : Gh} {a : Act}
def blkOf : Value → Nat
  | .pointer (some ⟨b, _, _⟩) => b
  | _ => 0
open Classical in
noncomputable def gh0 (w : World) (vs : List Value) (ba : List Nat) : Gh where
  kd b := if w.heap.size ≤ b ∨ b ∈ ba then .fz else .no
  own _ := 0
  H _ := undef
  bx s := blkOf (vs.getD s undef)
  al b := b ∈ ba
  mt _ := (.unit, .unit)
theorem mkfz_old {h : Mem} (t : Ty) (v : t.den) {cs : List Value} {bs : List Nat} (hr : Rd h t v cs bs) (hk : ∀ b ∈ bs, g.kd b = .fz) (ho : ∀ b ∈ bs, g.own b = 0) : LeavesB g h [mkfz t 0 true v] cs bs :=
  (mkfz_B hr hk (fun q => absurd rfl q) (fun _ => ⟨fun q => absurd rfl q, fun _ => ho⟩)).many
theorem boxInit_B {h : Mem} {t : Ty} {x : t.den} {cs : List Value} {bs : List Nat} (hr : Rd h t x cs bs) (hk : ∀ b ∈ bs, g.kd b = .fz) (ho : ∀ b ∈ bs, g.own b = 0) : LeavesB g h (boxInit t x) cs bs := by
  have h0 := mkfz_old t x hr hk ho
  unfold boxInit
  split
  · rename_i ls hls; exact (boxLeaves_B hls h0).1
  · exact h0
theorem ArgsV.blocks {h : Mem} : ∀ {ps : List PK} {x : Args ps} {vs : List Value} {ba : List Nat}, ArgsV h ps x vs ba → vs.length = ps.length
  | [], x, vs, ba, ⟨h1, _⟩ => by subst h1; rfl
  | .v t :: r, x, vs, ba, hh => by obtain ⟨v, vr, b1, b2, h1, _, _, h4⟩ := hh; subst h1; simp [ArgsV.blocks h4]
  | .p t :: r, x, vs, ba, hh => by obtain ⟨b, vr, c, e, fr, b1, b2, h1, _, _, _, h4⟩ := hh; subst h1; simp [ArgsV.blocks h4]
  | .fn f :: r, x, vs, ba, hh => by obtain ⟨vr, h1, h4⟩ := hh; subst h1; simp [ArgsV.blocks h4]
  | .m kt vt :: r, x, vs, ba, hh => by obtain ⟨b, vr, es, c, h1, _, _, h4⟩ := hh; subst h1; simp [ArgsV.blocks h4]
theorem init_ent {w : World} {all : List Value} {bal : List Nat} {tm : Nat → Value} : ∀ {ps : List PK} {x : Args ps} {vs : List Value} {ba : List Nat} {i : Nat}, ArgsV w.heap ps x vs ba → (∀ j, j < vs.length → tm (i + j) = vs.getD j undef) → (∀ j, all.getD (i + j) undef = vs.getD j undef) → (∀ b ∈ ba, b ∈ bal) →
    ∀ s, EntR (gh0 w all bal) w.heap s ((initEnv i ps x).get s) (tm s)
  | [], x, vs, ba, i, _, _, _, _, s => trivial
  | .v t :: r, x, vs, ba, i, hh, ht, ha, hb, s => by
    obtain ⟨v, vr, b1, b2, h1, h2, h3, h4⟩ := hh
    subst h1; subst h2
    simp only [initEnv, Env.get]
    cases hq : Nat.beq i s with
    | true =>
      have := Nat.eq_of_beq_eq_true hq; subst this
      have hv : tm i = v := by have := ht 0 (by simp); simpa using this
      rw [hv]
      refine leaves_of (mkfz_old t x.1 h3.1 (fun b hb' => ?_) (fun _ _ => rfl)) h3.2.1 h3.2.2
      simp only [gh0]; rw [if_pos (.inr (hb b (List.mem_append_left _ hb')))]
    | false =>
      refine init_ent (i := i + 1) h4 (fun j hj => ?_) (fun j => ?_) (fun b hb' => hb b (List.mem_append_right _ hb')) s
      · have := ht (j + 1) (by simpa using hj); rw [show i + 1 + j = i + (j + 1) by omega]; simpa using this
      · have := ha (j + 1); rw [show i + 1 + j = i + (j + 1) by omega]; simpa using this
  | .p t :: r, x, vs, ba, i, hh, ht, ha, hb, s => by
    obtain ⟨b, vr, c, e, fr, b1, b2, h1, h2, h3, h3', h4⟩ := hh
    subst h1; subst h2
    simp only [initEnv, Env.get]
    cases hq : Nat.beq i s with
    | true =>
      have := Nat.eq_of_beq_eq_true hq; subst this
      have hv : tm i = .pointer (some ⟨b, 0, none⟩) := by have := ht 0 (by simp); simpa using this
      rw [hv]
      refine ⟨b, c, e, fr, b1, rfl, h3, boxInit_B h3' (fun b hb' => ?_) (fun _ _ => rfl), ?_, fun q => (by cases q), fun _ => ?_⟩
      · simp only [gh0]; rw [if_pos (.inr (hb b (List.mem_append_left _ hb')))]
      · have := ha 0; simp only [Nat.add_zero] at this
        simp only [gh0, this]; rfl
      · simp only [gh0]
        split
        · exact .inl rfl
        · exact .inr rfl
    | false =>
      refine init_ent (i := i + 1) h4 (fun j hj => ?_) (fun j => ?_) (fun b hb' => hb b (List.mem_append_right _ hb')) s
      · have := ht (j + 1) (by simpa using hj); rw [show i + 1 + j = i + (j + 1) by omega]; simpa using this
      · have := ha (j + 1); rw [show i + 1 + j = i + (j + 1) by omega]; simpa using this
  | .fn f :: r, x, vs, ba, i, hh, ht, ha, hb, s => by
    obtain ⟨vr, h1, h4⟩ := hh
    subst h1
    simp only [initEnv, Env.get]
    cases hq : Nat.beq i s with
    | true =>
      have := Nat.eq_of_beq_eq_true hq; subst this
      have hv : tm i = .func (.func f) #[] #[] := by have := ht 0 (by simp); simpa using this
      rw [hv]; rfl
    | false =>
      refine init_ent (i := i + 1) h4 (fun j hj => ?_) (fun j => ?_) hb s
      · have := ht (j + 1) (by simpa using hj); rw [show i + 1 + j = i + (j + 1) by omega]; simpa using this
      · have := ha (j + 1); rw [show i + 1 + j = i + (j + 1) by omega]; simpa using this
  | .m kt vt :: r, x, vs, ba, i, hh, ht, ha, hb, s => by
    obtain ⟨b, vr, es, c, h1, _, _, h4⟩ := hh
    subst h1
    simp only [initEnv, Env.get]
    cases hq : Nat.beq i s with
    | true => trivial
    | false =>
      refine init_ent (i := i + 1) h4 (fun j hj => ?_) (fun j => ?_) hb s
      · have := ht (j + 1) (by simpa using hj); rw [show i + 1 + j = i + (j + 1) by omega]; simpa using this
      · have := ha (j + 1); rw [show i + 1 + j = i + (j + 1) by omega]; simpa using this
theorem init_St {w : World} {ps : List PK} {x : Args ps} {vs : List Value} {ba : List Nat} {n : Nat} (hv : ArgsV w.heap ps x vs ba) (hn : ps.length ≤ n) :
    St ⟨n, false, undef⟩ w (fun _ => False) (gh0 w vs ba) (initEnv 0 ps x).get { tmps := vs.toArray ++ Array.replicate (n - vs.toArray.size) undef, defers := [] } w where
  inv := by
    refine ⟨Nat.le_refl _, fun b _ _ => rfl, fun b => ?_, fun b hb => ?_, fun b hb => ?_, fun b hb => absurd rfl hb, fun b hb => absurd rfl hb⟩
    · simp only [gh0]
      split
      · exact .inl rfl
      · exact .inr (.inl rfl)
    · simp only [gh0] at hb
      split at hb
      · cases hb
      · rename_i h; exact Nat.lt_of_not_le fun q => h (.inl q)
    · simp only [gh0] at hb
      split at hb
      · rename_i h; exact h
      · cases hb
  ent := by
    refine init_ent hv (fun j hj => ?_) (fun j => by simp) (fun b hb => hb)
    simp only [Nat.zero_add]
    rw [Array.getD_eq_getD_getElem?, Array.getElem?_append_left (by simpa using hj), List.getElem?_toArray, List.getD_eq_getElem?_getD]
  sz := by
    have := ArgsV.blocks hv
    exact ⟨by simp; omega, fun h => (by cases h)⟩
  df := rfl
  os := rfl
  tape := Tp.refl
  output := rfl
theorem endK_inv {rvs : List ResultVar} {rs : List Ty} {fresh st : Bool} {env : Env} {y : Ress rs} (h : endK T rvs rs fresh st env = some y) : ∃ lss, collect T (litRes rvs env) rvs rs = some (lss, y) ∧ (fresh = true → freshOk lss = true) ∧ (st = true → strictOk rs lss = true) := by
  unfold endK at h
  split at h
  · rename_i lss y' hc
    cases hq : ((!fresh || freshOk lss) && (!st || strictOk rs lss)) with
    | false => rw [hq] at h; cases h
    | true =>
      rw [hq] at h; injection h with h; subst h
      simp only [Bool.and_eq_true, Bool.or_eq_true, Bool.not_eq_true'] at hq
      exact ⟨lss, hc, fun hf => hq.1.resolve_left (by rw [hf]; simp), fun hf => hq.2.resolve_left (by rw [hf]; simp)⟩
  · cases h
theorem retV_of (vs : List Value) : (if h : vs.toArray.size = 1 then vs.toArray[0] else .tuple vs.toArray) = retV vs := by
  match vs with
  | [] => rfl
  | [v] => rfl
  | v :: v' :: r => rfl
theorem results_run {fn : Func} {vs : List Value} (h : (fn.results.toList.mapM (resOne a.tmps)).run P w = .ok vs w) : (results fn a.tmps).run P w = .ok (retV vs) w := by
  have e : (results fn a.tmps) = (do let vs ← fn.results.mapM (resOne a.tmps); pure (if h : vs.size = 1 then vs[0] else .tuple vs)) := by
    unfold results
    have : ∀ rv, (match rv with | .tmp t => pure (a.tmps.getD t undef) | .cell b t => do loadVar t (← asAddr (a.tmps.getD b undef)) : Sem Value) = resOne a.tmps rv := by
      intro rv; cases rv <;> rfl
    congr 1
  rw [e, Array.mapM_eq_mapM_toList]
  simp only [Sem.run_bind, Sem.run_map, h, Result.andThen_ok, Sem.run_pure]
  rw [← retV_of vs]
theorem After_of {C : Ctr} {y : Ress C.rs} {w w1 : World} {ba : List Nat} {g1 : Gh} {a1 : Act} {fn : Func} {n : NS} {env : Env} (hT : TOK P T) (st : St n w (fun _ => False) g1 env.get a1 w1) (hA : g1.al = fun b => b ∈ ba)
    (h : endK T fn.results.toList C.rs C.fresh C.st env = some y) : a1.defers = [] ∧ ∃ v, (results fn a1.tmps).run P w1 = .ok v w1 ∧ After C y w ba (.returned v) w1 := by
  obtain ⟨lss, h1, h2, h3⟩ := endK_inv h
  obtain ⟨g2, q1, q2⟩ := litRes_sound (rvs := fn.results.toList) (fun b hb => by cases hb) st
  obtain ⟨vs, bs, z1, z2, z3, cs, z4⟩ := collect_sound (st := C.st) hT q2.ent h1 h3
  have blw : Below w.heap.size w w1 := ⟨st.os, st.tape.tape, st.output, st.inv.size, fun k hk => st.inv.old k hk (fun h => h)⟩
  have news : ∀ b, g2.own b ≠ 0 → w.heap.size ≤ b := fun b hb => by
    rcases (q2.inv.own b hb).2 with q | q
    · exact q
    · cases q
  refine ⟨st.df, retV vs, results_run z1, vs, bs, rfl, z2, blw, st.tape.dr, fun b hb => ?_, fun hf => ?_⟩
  · rcases z3 b hb with q | ⟨t, q⟩
    · rcases q2.inv.al b q with q | q
      · exact .inl q
      · rw [q1, hA] at q; exact .inr q
    · rcases q2.inv.kd b with r | r | r
      · rw [q] at r; cases r
      · rw [q] at r; cases r
      · rcases r.2 with r | r
        · exact .inl r
        · cases r
  · have hfr := h2 hf
    unfold freshOk at hfr
    split at hfr
    · rename_i l hl
      obtain ⟨p1, p2⟩ := fresh_nodup z4 hl (distinct_nodup hfr)
      exact ⟨p1, fun b hb => ⟨news b (p2 b hb).2, q2.inv.wr b (p2 b hb).2⟩⟩
    · cases hfr
theorem fn_ok {k : Nat} {C : Ctr} {fn : Func} {c : Code} (hm : P.follows .mixedOrders = true) (hT : TOK P T) (hK : KOK P K) (hf : P.funcs[k]? = some fn) (hb : fn.body = some c) (hc : okCode ⟨fn.ntmps, false, undef⟩ c = true) (hp : C.ps.length ≤ fn.ntmps)
    (h : ∀ (x : Args C.ps) (y : Ress C.rs), C.f x = some y → ∃ LT : LTab (Ress C.rs), LTOK P ⟨fn.ntmps, false, undef⟩ LT (endK T fn.results.toList C.rs C.fresh C.st) c ∧ fnK T K H C.rs LT c fn.results.toList C.ps C.fresh C.st x = some y) : FnOK P k C := by
  intro x y hxy w vs ba hv
  obtain ⟨LT, hL, hF⟩ := h x y hxy
  refine calls_of_wp hf hb ?_
  exact evL_sound (W := fun _ => False) (A := fun b => b ∈ ba) hm hT hK (fun b hb => (by cases hb)) hc hL hF (init_St hv hp) rfl (fun env' a' w' g' q1 q2 q3 => After_of hT q2 q3 q1) (fun id env' a' w' g' q1 => (by cases q1)) (fun env' a' w' g' q1 q2 q3 => After_of hT q2 q3 q1)
theorem fn_one {k : Nat} {C : Ctr} {fn : Func} {c : Code} (hi : C.inp = 0) (hm : P.follows .mixedOrders = true) (hT : TOK P T) (hK : KOK P K) (hf : P.funcs[k]? = some fn) (hb : fn.body = some c) (hc : okCode ⟨fn.ntmps, false, undef⟩ c = true) (hp : C.ps.length ≤ fn.ntmps) (hn : fn.name ≠ "runtime.NumGoroutine")
    (h : ∀ (x : Args C.ps) (y : Ress C.rs), C.f x = some y → ∃ LT : LTab (Ress C.rs), LTOK P ⟨fn.ntmps, false, undef⟩ LT (endK T fn.results.toList C.rs C.fresh C.st) c ∧ fnK T K H C.rs LT c fn.results.toList C.ps C.fresh C.st x = some y) : KOne P k C :=
  ⟨fun _ => fn_ok hm hT hK hf hb hc hp h, fun q => (by rw [hi] at q; cases q), fun q => (by rw [hi] at q; cases q), fn, hf, hn, by rw [hb]; rfl⟩
def loopsOf : Code → List Code
  | .seq a b => loopsOf a ++ loopsOf b
  | .cond _ a b => loopsOf a ++ loopsOf b
  | .block _ b => loopsOf b
  | .loop b => [b]
  | _ => []
def loopAt (id : Nat) : Code → Option Code
  | .seq a b => (match loopAt id a with | some c => some c | none => loopAt id b)
  | .cond _ a b => (match loopAt id a with | some c => some c | none => loopAt id b)
  | .block _ b => loopAt id b
  | .loop b => bif Nat.beq (headId b) id then some b else loopAt id b
  | _ => none
def bodyOf (f : Func) : Code := match f.body with | some c => c | none => .skip
def loopOf (f : Func) (id : Nat) : Code := match loopAt id (bodyOf f) with | some c => c | none => .skip
def LTs {α : Type} (P : Program) (n : NS) (LT : LTab α) (kr : Env → Option α) : List Code → Prop
  | [] => True
  | b :: r => (∀ ls, findN LT (headId b) = some ls → LSOK P n ls b kr) ∧ LTs P n LT kr r
theorem LTs_append {α : Type} {LT : LTab α} {kr : Env → Option α} : ∀ {a b : List Code}, LTs P n LT kr (a ++ b) → LTs P n LT kr a ∧ LTs P n LT kr b
  | [], b, h => ⟨trivial, h⟩
  | x :: a, b, h => ⟨⟨h.1, (LTs_append h.2).1⟩, (LTs_append h.2).2⟩
theorem LTOK_of {α : Type} {LT : LTab α} {kr : Env → Option α} : ∀ {c : Code}, LTs P n LT kr (loopsOf c) → LTOK P n LT kr c := by
  intro c
  induction c with
  | seq a b iha ihb => intro h; exact ⟨iha (LTs_append h).1, ihb (LTs_append h).2⟩
  | cond c a b iha ihb => intro h; exact ⟨iha (LTs_append h).1, ihb (LTs_append h).2⟩
  | block id b ih => intro h; exact ih h
  | loop b _ => intro h; exact h.1
  | _ => intro _; exact trivial
theorem LTOK_by {α : Type} {LT : LTab α} {kr : Env → Option α} {c : Code} {l : List Code} (e : loopsOf c = l) (h : LTs P n LT kr l) : LTOK P n LT kr c := LTOK_of (by rw [e]; exact h)
theorem ls_at {α : Type} {LT : LTab α} {kr : Env → Option α} {b : Code} {ls0 : LS α} (h : findN LT (headId b) = some ls0) (ok : LSOK P n ls0 b kr) : ∀ ls, findN LT (headId b) = some ls → LSOK P n ls b kr := by
  intro ls h'
  rw [h] at h'; injection h' with h'; rw [← h']; exact ok
end
section
variable {P : Program} {T : TTab} {K : CTab} {H : List (Nat × List Nat)}
end
def initX (i : IntKind) (e : TypeId) (u t : Ty) (p : Int) (l : List u.den) (r : t.den) : Env :=
  [(0, intE i p), (1, .val false [.rt e u 17 false true false l]), (2, .val t.agg [mkfz t 0 true r])]
def fnX (T : TTab) (K : CTab) (H : List (Nat × List Nat)) (i : IntKind) (e : TypeId) (u t t' : Ty) (LT : LTab (Ress [t'])) (c : Code) (rvs : List ResultVar) (x : Args [.v (.int i), .v (.slice e u), .v t]) : Option (Ress [t']) :=
  evL T K H LT c (initX i e u t x.1 x.2.1 x.2.2.1) (endK T rvs [t'] true false) (fun _ _ => none) (endK T rvs [t'] true false)
section
variable {P : Program} {T : TTab} {K : CTab} {H : List (Nat × List Nat)}
open Classical in
noncomputable def ghX (w : World) (v1 : Value) (blk : Option Nat) (be br : List Nat) : Gh where
  kd b := if blk = some b then .mu 17 else if b ∈ be ∨ b ∈ br ∨ w.heap.size ≤ b then .fz else .no
  own b := if b ∈ be then 17 else 0
  H _ := v1
  bx _ := 0
  al b := b ∈ be ∨ b ∈ br
  mt _ := (.unit, .unit)
theorem initX_St {w : World} {i : IntKind} {e : TypeId} {u t : Ty} {p : Int} {l : List u.den} {r : t.den} {vl vr : Value} {be br : List Nat} {n : Nat} (h0 : (Lit.int i p).wf = true) (h1 : OneV w.heap (.slice e u) l vl be) (h2 : OneV w.heap t r vr br) (hn : 3 ≤ n)
    (hd : be.Nodup) (hw : ∀ b ∈ be, ∃ c e, w.heap[b]? = some (.cells c e (0, 0))) (hx : ∀ b ∈ br, b ∉ be) :
    ∃ g, g.al = (fun b => b ∈ be ∨ b ∈ br) ∧ St ⟨n, false, undef⟩ w (fun b => b ∈ be) g (initX i e u t p l r).get { tmps := [.int i p, vl, vr].toArray ++ Array.replicate (n - [Value.int i p, vl, vr].toArray.size) undef, defers := [] } w := by
  obtain ⟨⟨hd', blk, bs', z1, z2, z3⟩, _, z4⟩ := h1
  have hc := z4 rfl
  have eh : hd' = vl := by rw [hc] at z1; injection z1 with z1 _; exact z1.symm
  subst eh
  have lt : ∀ b ∈ be, b < w.heap.size := fun b hb => by
    obtain ⟨c, e, q⟩ := hw b hb
    rcases Nat.lt_or_ge b w.heap.size with k | k
    · exact k
    · rw [Array.getElem?_eq_none k] at q; cases q
  have nd := List.nodup_append.1 (z3 ▸ hd)
  have inb : ∀ b, blk = some b → b ∈ be := fun b hb => by rw [z3, hb]; simp
  refine ⟨ghX w hd' blk be br, rfl, ⟨⟨Nat.le_refl _, fun b _ _ => rfl, fun b => ?_, fun b hb => ?_, fun b hb => ?_, fun b hb => ?_, fun b hb => ?_⟩, fun s => ?_, ⟨by simp; omega, fun q => (by cases q)⟩, rfl, rfl, Tp.refl, rfl⟩⟩
  · simp only [ghX]
    by_cases q : blk = some b
    · rw [if_pos q]; exact .inr (.inr ⟨lt b (inb b q), .inr (inb b q)⟩)
    · rw [if_neg q]
      split
      · exact .inl rfl
      · exact .inr (.inl rfl)
  · simp only [ghX] at hb
    split at hb
    · cases hb
    · split at hb
      · cases hb
      · rename_i q; exact Nat.lt_of_not_le fun k => q (.inr (.inr k))
  · simp only [ghX] at hb ⊢
    split at hb
    · cases hb
    · split at hb
      · rename_i q
        rcases q with q | q | q
        · exact .inr (.inl q)
        · exact .inr (.inr q)
        · exact .inl q
      · cases hb
  · simp only [ghX] at hb
    split at hb
    · rename_i q; exact ⟨lt b q, .inr q⟩
    · exact absurd rfl hb
  · simp only [ghX] at hb
    split at hb
    · rename_i q; exact hw b q
    · exact absurd rfl hb
  · simp only [initX, Env.get]
    have ev : ∀ j, j < 3 → ([Value.int i p, hd', vr].toArray ++ Array.replicate (n - [Value.int i p, hd', vr].toArray.size) undef).getD j undef = [Value.int i p, hd', vr].getD j undef := by
      intro j hj
      rw [Array.getD_eq_getD_getElem?, Array.getElem?_append_left (by simpa using hj), List.getElem?_toArray, List.getD_eq_getElem?_getD]
    cases q0 : Nat.beq 0 s with
    | true =>
      have := Nat.eq_of_beq_eq_true q0; subst this
      simp only [cond_true]
      rw [ev 0 (by omega)]
      exact intE_sound h0
    | false =>
      simp only [cond_false]
      cases q1 : Nat.beq 1 s with
      | true =>
        have := Nat.eq_of_beq_eq_true q1; subst this
        simp only [cond_true]
        rw [ev 1 (by omega)]
        refine ⟨[hd'], be, rfl, fun _ => ⟨rfl, hc⟩, LeafB.many ⟨hd', blk, bs', rfl, z3, fun _ => rfl, fun q => (by cases q), z2, fun b hb => ?_, fun b hb => ⟨?_, ?_, ?_⟩, fun _ => ⟨fun b hb => ?_, nd.2.1⟩⟩⟩
        · simp only [ghX]
          rw [if_neg (fun q => nd.2.2 b (by rw [q]; simp) b hb rfl), if_pos (.inl (by rw [z3]; exact List.mem_append_right _ hb))]
        · simp only [ghX]; rw [if_pos hb]
        · simp only [ghX]; rw [if_pos (inb b hb)]
        · obtain ⟨c', e', q3⟩ := hw b (inb b hb)
          rcases z2 with ⟨_, _, _, q, _⟩ | ⟨b', o, cap, c, fr, _, q1, _, q2, _⟩
          · rw [hb] at q; cases q
          · rw [hb] at q1; injection q1 with q1; subst q1
            exact ⟨c', e', q3⟩
        · simp only [ghX]; rw [if_pos (by rw [z3]; exact List.mem_append_right _ hb)]
      | false =>
        simp only [cond_false]
        cases q2 : Nat.beq 2 s with
        | true =>
          have := Nat.eq_of_beq_eq_true q2; subst this
          simp only [cond_true]
          rw [ev 2 (by omega)]
          refine leaves_of (mkfz_old t r h2.1 (fun b hb => ?_) (fun b hb => ?_)) h2.2.1 h2.2.2
          · simp only [ghX]
            rw [if_neg (fun q => hx b hb (inb b q)), if_pos (.inr (.inl hb))]
          · simp only [ghX]; rw [if_neg (hx b hb)]
        | false => trivial
theorem fnX_one {k : Nat} {i : IntKind} {e : TypeId} {u t t' : Ty} {fn : Func} {c : Code} {F : Args [.v (.int i), .v (.slice e u), .v t] → Option (Ress [t'])} (hm : P.follows .mixedOrders = true) (hT : TOK P T) (hK : KOK P K) (hf : P.funcs[k]? = some fn) (hb : fn.body = some c) (hc : okCode ⟨fn.ntmps, false, undef⟩ c = true) (hp : 3 ≤ fn.ntmps) (hn : fn.name ≠ "runtime.NumGoroutine")
    (h : ∀ (x : Args [.v (.int i), .v (.slice e u), .v t]) (y : Ress [t']), F x = some y → ∃ LT : LTab (Ress [t']), LTOK P ⟨fn.ntmps, false, undef⟩ LT (endK T fn.results.toList [t'] true false) c ∧ fnX T K H i e u t t' LT c fn.results.toList x = some y) :
    KOne P k ⟨[.v (.int i), .v (.slice e u), .v t], [t'], true, false, 2, F⟩ := by
  refine ⟨fun q => (by cases q), fun q => (by cases q), fun _ => ?_, fn, hf, hn, by rw [hb]; rfl⟩
  intro p l r y hxy w vl vr be br h0 h1 h2 hd hw hx
  obtain ⟨LT, hL, hF⟩ := h (p, l, r, ()) y hxy
  obtain ⟨g0, al0, st0⟩ := initX_St (n := fn.ntmps) h0 h1 h2 hp hd hw hx
  refine calls_of_wp hf hb ?_
  have fin : ∀ (env : Env) (a1 : Act) (w1 : World) (g1 : Gh), endK T fn.results.toList [t'] true false env = some y → St ⟨fn.ntmps, false, undef⟩ w (fun b => b ∈ be) g1 env.get a1 w1 → g1.al = (fun b => b ∈ be ∨ b ∈ br) →
      a1.defers = [] ∧ ∃ v, (results fn a1.tmps).run P w1 = .ok v w1 ∧ ∃ rv bs, Ending.returned v = .returned rv ∧ OneV w1.heap t' y.1 rv bs ∧ w1.os = w.os ∧ Tp w1 w ∧ w1.output = w.output ∧ w.heap.size ≤ w1.heap.size ∧
        (∀ b, b < w.heap.size → b ∉ be → w1.heap[b]? = w.heap[b]?) ∧ bs.Nodup ∧ (∀ b ∈ bs, w.heap.size ≤ b ∨ b ∈ be) ∧ ∀ b ∈ bs, ∃ c e, w1.heap[b]? = some (.cells c e (0, 0)) := by
    intro env a1 w1 g1 hk st hA
    obtain ⟨lss, q1, q2, q3⟩ := endK_inv hk
    obtain ⟨g2, r1, r2⟩ := litRes_sound (rvs := fn.results.toList) (fun b hb => by rw [hA]; exact .inl hb) st
    obtain ⟨vs, bs, z1, z2, z3, cs, z4⟩ := collect_sound (st := false) hT r2.ent q1 q3
    obtain ⟨v, rr, b1, b2, e1, e2, _, ⟨e3, e4⟩, e5⟩ := z2
    subst e3; subst e4; subst e1
    rw [List.append_nil] at e5; subst e5
    have hfr := q2 rfl
    unfold freshOk at hfr
    split at hfr
    · rename_i ll hl
      obtain ⟨p1, p2⟩ := fresh_nodup z4 hl (distinct_nodup hfr)
      exact ⟨st.df, v, results_run z1, v, bs, rfl, e2, st.os, st.tape, st.output, st.inv.size, fun b hb hn => st.inv.old b hb hn, p1, fun b hb => (r2.inv.own b (p2 b hb).2).2, fun b hb => r2.inv.wr b (p2 b hb).2⟩
    · cases hfr
  exact evL_sound (W := fun b => b ∈ be) (A := fun b => b ∈ be ∨ b ∈ br) hm hT hK (fun b hb => .inl hb) hc hL hF st0 al0 (fun env' a' w' g' q1 q2 q3 => fin env' a' w' g' q1 q2 q3) (fun id env' a' w' g' q1 => (by cases q1)) (fun env' a' w' g' q1 q2 q3 => fin env' a' w' g' q1 q2 q3)
end
section
variable {P : Program} {T : TTab} {K : CTab} {H : List (Nat × List Nat)}
end
def Ent.isIt : Ent → Bool
  | .it _ _ => true
  | _ => false
def envAt (p : Ent → Bool) : Env → Bool
  | [] => false
  | (_, e) :: r => p e || envAt p r
theorem envAt_get {p : Ent → Bool} (hp : p .dead = false) : ∀ {env : Env}, envAt p env = false → ∀ s, p (env.get s) = false
  | [], _, s => hp
  | (j, e) :: r, h, s => by
    simp only [envAt, Bool.or_eq_false_iff] at h
    simp only [Env.get]
    cases Nat.beq j s with
    | true => exact h.1
    | false => exact envAt_get hp h.2 s
section
variable {P : Program} {T : TTab} {K : CTab} {n : NS} {w0 w : World} {W : Nat → Prop} {g : Gh} {a : Act} {d : Nat}
theorem wpOps_cons {ops : Array Oper} {i : Nat} {rest : List Nat} {Q : Exit → Act → World → Prop} {o : Oper} (h : ops[i]? = some o) (hg : o.guard = none) (hw : o.wp P a w (wpOps P ops Q rest) Q) : wpOps P ops Q (i :: rest) a w := by
  simp only [wpOps, h]
  have : Region.wanted o (yielded ops a.tmps) = true := by simp [Region.wanted, hg]
  rw [this]
  exact .inl hw
theorem St.passed {env : Env} {v : Value} (st : St n w0 W g env.get a w) (hd : n.has d) (he : env.get d = .dead) : St n w0 W g env.get (a.put (some d) v) w := by
  refine (st.putA (e := .dead) hd trivial).get_eq ?_
  funext s
  unfold upd
  split
  · rename_i h; subst h; exact he
  · rfl
theorem St.tmpAt {env : Nat → Ent} {v : Value} {s : Nat} (st : St n w0 W g env a w) (hd : d < n.n) : (a.put (some d) v).tmps.getD s Go.undef = if s = d then v else a.tmps.getD s Go.undef := put_getD (by rw [st.sz.1]; exact hd)
theorem St.iterNew {env : Env} {o : Obj} (st : St n w0 W g env.get a w) (hd : n.has d) (ho : ∃ m s l c, o = .mapIter m s l c) (hc : envAt (Ent.at d) env = false) :
    St n w0 W g (env.put d (.it w.heap.size o)).get (a.put (some d) (.pointer (some ⟨w.heap.size, 0, none⟩))) (w.alloc o) := by
  have hfz : g.kd w.heap.size = .fz := st.inv.fresh (Nat.le_refl _)
  have hown : g.own w.heap.size = 0 := by
    rcases Nat.eq_zero_or_pos (g.own w.heap.size) with q | q
    · exact q
    · have := (st.inv.own w.heap.size (by omega)).1; omega
  have grow : ∀ b, b < w.heap.size → (w.alloc o).heap[b]? = w.heap[b]? := fun b hb => by show (w.heap.push o)[b]? = _; rw [Array.getElem?_push, if_neg (by omega)]
  have hs : (w.alloc o).heap.size = w.heap.size + 1 := by show (w.heap.push o).size = _; simp
  have i := st.inv
  refine (st.put (g' := g) (w' := w.alloc o) (e := .it w.heap.size o) hd ⟨by omega, fun b hb => .inl (grow b hb), fun _ _ => rfl, fun _ _ => rfl, fun _ _ => rfl, fun _ _ => rfl, fun _ _ => rfl⟩
    ⟨by have := i.size; omega, fun b hb hw => by rw [grow b (by have := i.size; omega)]; exact i.old b hb hw, fun b => ?_, i.no, i.al, fun b hb => ?_, fun b hb => ?_⟩ rfl ⟨rfl, Nat.le_refl _⟩ rfl (fun s _ => envAt_get rfl hc s) ⟨rfl, ?_, ho, hfz, hown⟩).get_eq ?_
  · rcases i.kd b with q | q | q
    · exact .inl q
    · exact .inr (.inl q)
    · exact .inr (.inr ⟨by omega, q.2⟩)
  · have := i.own b hb; exact ⟨by omega, this.2⟩
  · rw [grow b (i.own b hb).1]; exact i.wr b hb
  · show (w.heap.push o)[w.heap.size]? = _; simp
  · funext s; rw [Env.get_put]; rfl
theorem St.iterSet {env : Env} {r : Nat} {o o' : Obj} {w1 : World} (st : St n w0 W g env.get a w) (hk : n.k = true → d ≠ 0) (hd : env.get d = .it r o) (ho : ∃ m s l c, o' = .mapIter m s l c) (hc : envAt (fun e => e.isIt) (env.put d .dead) = false) (hr : w0.heap.size ≤ r) (h1 : w1 = w ∨ w1 = w.drew) :
    St n w0 W g (env.put d (.it r o')).get a (ChangeMaps.setBlock w1 r o') := by
  have he := st.ent d
  rw [hd] at he
  obtain ⟨e0, e1, ⟨m1, s1, l1, c1, e2⟩, e3, e4⟩ := he
  have hh : w1.heap = w.heap := by rcases h1 with rfl | rfl <;> rfl
  have lt : r < w.heap.size := by
    rcases Nat.lt_or_ge r w.heap.size with hlt | hge
    · exact hlt
    · rw [Array.getElem?_eq_none hge] at e1; cases e1
  have hw : (ChangeMaps.setBlock w1 r o').heap = w.heap.setIfInBounds r o' := by rw [← hh]; rfl
  have oth : ∀ b, b ≠ r → (w.heap.setIfInBounds r o')[b]? = w.heap[b]? := fun b hb => by rw [Array.getElem?_setIfInBounds, if_neg (fun q => hb q.symm)]
  have kc : KeepC w.heap (w.heap.setIfInBounds r o') := fun b c e fr hq => oth b fun q => by subst q; rw [e1, e2] at hq; cases hq
  have km : ∀ (b : Nat) (es : Array MapEntry) (c : Nat), w.heap[b]? = some (Obj.map es c) → (w.heap.setIfInBounds r o')[b]? = w.heap[b]? := fun b es c hq => oth b fun q => by subst q; rw [e1, e2] at hq; cases hq
  have i := st.inv
  have hos : w1.os = w.os := by rcases h1 with rfl | rfl <;> rfl
  have hou : w1.output = w.output := by rcases h1 with rfl | rfl <;> rfl
  have htp : Tp w1 w := by
    rcases h1 with rfl | rfl
    · exact Tp.refl
    · exact ⟨rfl, Nat.le_succ _⟩
  refine ⟨?_, fun s => ?_, st.sz, st.df, hos.trans st.os, (⟨htp.1, htp.2⟩ : Tp (ChangeMaps.setBlock w1 r o') w).trans st.tape, hou.trans st.output⟩
  · rw [hw]
    refine ⟨by have := i.size; simp; omega, fun b hb hw => ?_, fun b => ?_, i.no, i.al, fun b q => ?_, fun b q => ?_⟩
    · rw [oth b (by omega)]; exact i.old b hb hw
    · rcases i.kd b with q | q | q
      · exact .inl q
      · exact .inr (.inl q)
      · exact .inr (.inr ⟨by simp; exact q.1, q.2⟩)
    · have := i.own b q; exact ⟨by simp; exact this.1, this.2⟩
    · obtain ⟨c2, e5, q1⟩ := i.wr b q
      exact ⟨c2, e5, by rw [kc _ _ _ _ q1]; exact q1⟩
  · rw [hw, Env.get_put]
    by_cases hs : s = d
    · subst hs
      rw [if_pos rfl]
      exact ⟨e0, by rw [Array.getElem?_setIfInBounds, if_pos rfl, if_pos lt], ho, e3, e4⟩
    · rw [if_neg hs]
      have hni : (env.get s).isIt = false := by
        have := envAt_get (p := fun e => e.isIt) rfl hc s
        rw [Env.get_put, if_neg hs] at this; exact this
      have he := st.ent s
      revert he hni
      generalize env.get s = e
      generalize a.tmps.getD s Go.undef = v
      intro hni he
      cases e with
      | dead => trivial
      | val agg ls => exact ValR.keepC kc he
      | lit e t pp =>
        obtain ⟨b, c1, bs, h1, h2, h3, h4, h5, h6, h7⟩ := he
        exact ⟨b, c1, bs, h1, by rw [kc _ _ _ _ h2]; exact h2, h3, h4, h5, h6.keepC kc, h7⟩
      | box ro ls =>
        obtain ⟨b, c1, e, fr, bs, h1, h2, h3, h4⟩ := he
        exact ⟨b, c1, e, fr, bs, h1, by rw [kc _ _ _ _ h2]; exact h2, h3.keepC kc, h4⟩
      | ref s' base t p => exact he
      | eref l i p => obtain ⟨bs, b, o, m, cap, h1, h2⟩ := he; exact ⟨bs, b, o, m, cap, h1.keepC kc, h2⟩
      | fn f caps => exact he
      | tup ls => obtain ⟨vs, h1, h2⟩ := he; exact ⟨vs, h1, h2.keepC kc⟩
      | mp d' kt' vt' m => obtain ⟨h0, es, c, h1, h2⟩ := he; exact ⟨h0, es, c, by rw [km _ _ _ h1]; exact h1, h2⟩
      | ment d' kt' vt' k => obtain ⟨z, n, h0, es, c, e, h1, h2⟩ := he; exact ⟨z, n, h0, es, c, e, by rw [km _ _ _ h1]; exact h1, h2⟩
      | stamp d' kt' vt' k => obtain ⟨n, h0, es, c, e, h1, h2⟩ := he; exact ⟨n, h0, es, c, e, by rw [km _ _ _ h1]; exact h1, h2⟩
      | it b o => cases hni
theorem vk_ent {t : Ty} {x : t.den} {v : Value} (h : Vk t x v) (h' : Mem) (s : Nat) : EntR g h' s (.val t.agg [.fz t 0 false x]) v :=
  leaves_of (LeafB.many ⟨h.1.frame (by simp), by simp, by simp, by simp⟩) h.2.1 h.2.2
theorem ev_wp {c : Code} {A : Nat → Prop} {env env1 : Env} {ks : List Nat} {Q : Exit → Act → World → Prop} (hm : P.follows .mixedOrders = true) (hT : TOK P T) (hK : KOK P K) (hwal : ∀ b, W b → A b) (hc : okCode n c = true) (hl : LTOK P n ([] : LTab Env) (fun _ => none) c)
    (h : evL T K [] [] c env (fun e => some (keepK ks e)) (fun _ _ => none) (fun _ => none) = some env1) (st : St n w0 W g env.get a w) (hA : g.al = A) (hk : ∀ a' w' g', St n w0 W g' env1.get a' w' → g'.al = A → Q .normal a' w') : c.wp P Q a w :=
  evL_sound (Q := Q) hm hT hK hwal hc hl h st hA (fun env' a' w' g' q1 q2 q3 => hk a' w' g' (by injection q1 with q1; rw [← q1]; exact q2.kill (keepK_get ks env')) q3) (fun _ _ _ _ _ q => (by cases q)) (fun _ _ _ _ q => (by cases q))
end
open Go Go.RowKit Go.ChangeShapes Go.WideShapes
def okV : (t : Ty) → t.den → Bool
  | .int k, x => kwf k x
  | .arr n t, x => okT (okV t) n x
  | .pair a b, x => okV a x.1 && okV b x.2
  | .slice _ t, x => decide (x.length ≤ 9223372036854775807) && x.all (okV t)
  | _, _ => true
where
  okT {α : Type} (f : α → Bool) : (n : Nat) → Tup α n → Bool
    | 0, _ => true
    | n + 1, x => f x.1 && okT f n x.2
def okA : (ps : List PK) → Args ps → Bool
  | [], _ => true
  | .v t :: r, x => okV t x.1 && okA r x.2
  | .p t :: r, x => okV t x.1 && okA r x.2
  | .fn _ :: r, x => okA r x.2
  | .m _ _ :: r, x => okA r x.2
theorem wf_kwf {k : IntKind} {n : Int} (h : (Lit.int k n).wf = true) : kwf k n = true := by
  simpa [Lit.wf, kwf] using h
section
variable {P : Program} {T : TTab} {H : Type} {enc : TypeId × Value → H} {w : World} {base : Nat} {spare : Nat → Bool} {held : Bool}
theorem cells_size {t : TypeId} {ty : Ty} (k : TyOK P T t ty) : P.cellsOf t = ty.size := by
  obtain ⟨i, h1, h2, _⟩ := k.info
  simp [Program.cellsOf, h1, h2]
end
section
variable {P : Program} {T : TTab} {H : Type} {enc : TypeId × Value → H} {w : World} {base : Nat} {spare : Nat → Bool} {held : Bool}
theorem mkTupB {α : Type} {R : α → List Value → List Nat → Prop} {f : α → Bool} {s : Nat} : ∀ (n : Nat) (cs : List Value), (∀ i, i < n → ∃ y b, R y ((cs.drop (i * s)).take s) b ∧ f y = true) → ∃ (x : Tup α n) (bs : List Nat), RdL R s (tlist n x) cs bs ∧ okV.okT f n x = true
  | 0, cs, _ => ⟨(), [], by simp [RdL, tlist], rfl⟩
  | n + 1, cs, h => by
    obtain ⟨y, b, h1, h2⟩ := h 0 (by omega)
    obtain ⟨x, bs, q1, q2⟩ := mkTupB n (cs.drop s) (fun i hi => by
      obtain ⟨z, b', z1, z2⟩ := h (i + 1) (by omega)
      refine ⟨z, b', ?_, z2⟩
      rw [List.drop_drop]
      rw [show s + i * s = (i + 1) * s by rw [Nat.succ_mul]; omega]
      exact z1)
    refine ⟨(y, x), b ++ bs, ⟨b, bs, by simpa using h1, q1, rfl⟩, ?_⟩
    simp only [okV.okT, h2, q2, Bool.and_self]
theorem mkLst {α : Type} {R : α → List Value → List Nat → Prop} {f : α → Bool} {s : Nat} : ∀ (n : Nat) (cs : List Value), (∀ i, i < n → ∃ y b, R y ((cs.drop (i * s)).take s) b ∧ f y = true) → ∃ (l : List α) (bs : List Nat), l.length = n ∧ RdL R s l cs bs ∧ l.all f = true
  | 0, cs, _ => ⟨[], [], rfl, rfl, rfl⟩
  | n + 1, cs, h => by
    obtain ⟨y, b, h1, h2⟩ := h 0 (by omega)
    obtain ⟨x, bs, q0, q1, q2⟩ := mkLst n (cs.drop s) (fun i hi => by
      obtain ⟨z, b', z1, z2⟩ := h (i + 1) (by omega)
      refine ⟨z, b', ?_, z2⟩
      rw [List.drop_drop]
      rw [show s + i * s = (i + 1) * s by rw [Nat.succ_mul]; omega]
      exact z1)
    refine ⟨y :: x, b ++ bs, by simp [q0], ⟨b, bs, by simpa using h1, q1, rfl⟩, ?_⟩
    simp only [List.all_cons, h2, q2, Bool.and_self]
theorem cell_at {a : Addr} {v : Value} (h : w.cell? a = some v) : a.spot = none ∧ ∃ c e fr, w.heap[a.block]? = some (.cells c e fr) ∧ c[a.off]? = some v := by
  unfold World.cell? at h
  split at h
  · rename_i c e fr hc
    split at h
    · cases h
    · rename_i hs
      exact ⟨by cases hq : a.spot <;> simp_all, c, e, fr, hc, h⟩
  · cases h
theorem cells_get {a : Addr} {n : Nat} {cs : List Value} (h : w.cells? base a n = some cs) : cs.length = n ∧ ∀ i, i < n → w.cell? (a.add i) = cs[i]? := by
  unfold World.cells? at h
  split at h
  · refine ⟨by simpa using mapM_some_length h, fun i hi => ?_⟩
    exact mapM_some_get h i i (by simp [hi])
  · cases h
theorem open_any (hT : TOK P T) : ∀ {ty : Ty},
    (∀ {t : TypeId} {fuel : Nat} {cs : List Value} {x : DataW H × List MemPlace}, TyOK P T t ty → DataW.trod enc P w base spare held fuel t cs = some x → (∀ b, spare b = true) → ∃ (y : ty.den) (bs : List Nat), Rd w.heap ty y cs bs ∧ okV ty y = true) ∧
    (∀ (fs : List Field) (off n : Nat) (cs : List Value), FsOK P T fs ty off → (cs.drop off).length = ty.size → (∀ b, spare b = true) →
      (∀ f, f ∈ fs → ∃ y, DataW.trod enc P w base spare held n f.type ((cs.drop f.offset).take (P.cellsOf f.type)) = some y) → ∃ (y : ty.den) (bs : List Nat), Rd w.heap ty y (cs.drop off) bs ∧ okV ty y = true) := by
  intro ty
  induction ty with
  | int k =>
    refine ⟨fun {t fuel cs x} kk h _ => ?_, fun fs off n cs h => by cases fs <;> exact h.elim⟩
    obtain ⟨m, rfl, _, hw⟩ := DataW.trod_int kk.und h
    exact ⟨m, [], ⟨rfl, hw, rfl⟩, wf_kwf hw⟩
  | bool =>
    refine ⟨fun {t fuel cs x} kk h _ => ?_, fun fs off n cs h => by cases fs <;> exact h.elim⟩
    obtain ⟨m, rfl, _⟩ := DataW.trod_bool kk.und h
    exact ⟨m, [], ⟨rfl, rfl⟩, rfl⟩
  | unit =>
    have F : ∀ (fs : List Field) (off n : Nat) (cs : List Value), FsOK P T fs .unit off → (cs.drop off).length = Ty.unit.size → (∀ b, spare b = true) →
      (∀ f, f ∈ fs → ∃ y, DataW.trod enc P w base spare held n f.type ((cs.drop f.offset).take (P.cellsOf f.type)) = some y) → ∃ (y : Ty.unit.den) (bs : List Nat), Rd w.heap .unit y (cs.drop off) bs ∧ okV .unit y = true :=
      fun fs off n cs _ hl _ _ => ⟨(), [], ⟨List.eq_nil_of_length_eq_zero hl, rfl⟩, rfl⟩
    refine ⟨fun {t fuel cs x} kk h hs => ?_, F⟩
    obtain ⟨fs, u1, _, u3⟩ := kk.und
    obtain ⟨xs, n, _, _, hlen, hxl, hx⟩ := DataW.trod_struct u1 h
    rw [cells_size kk] at hlen
    exact F fs.toList 0 n cs u3 hlen hs (fun f hf => by
      obtain ⟨i, hi, e⟩ := List.getElem_of_mem hf
      have hi' : i < xs.length := by rw [hxl]; simpa using hi
      exact ⟨xs[i], by rw [hx i f (by rw [Array.getElem?_eq_getElem (by simpa using hi)]; simpa using e), List.getElem?_eq_getElem hi']⟩)
  | pair a b iha ihb =>
    have F : ∀ (fs : List Field) (off n : Nat) (cs : List Value), FsOK P T fs (.pair a b) off → (cs.drop off).length = (Ty.pair a b).size → (∀ b, spare b = true) →
      (∀ f, f ∈ fs → ∃ y, DataW.trod enc P w base spare held n f.type ((cs.drop f.offset).take (P.cellsOf f.type)) = some y) → ∃ (y : (Ty.pair a b).den) (bs : List Nat), Rd w.heap (.pair a b) y (cs.drop off) bs ∧ okV (.pair a b) y = true := by
      intro fs off n cs hf hl hs hr
      cases fs with
      | nil => exact hf.elim
      | cons f fs =>
        obtain ⟨f1, f2, _, _, f3⟩ := hf
        have kf := hT _ _ f2
        obtain ⟨x, hx⟩ := hr f (.head _)
        rw [f1, cells_size kf] at hx
        obtain ⟨y1, b1, q1, q2⟩ := iha.1 kf hx hs
        have hl' : (cs.drop (off + a.size)).length = b.size := by
          have : (Ty.pair a b).size = a.size + b.size := rfl
          rw [this] at hl
          simp only [List.length_drop] at hl ⊢
          omega
        obtain ⟨y2, b2, q3, q4⟩ := ihb.2 fs (off + a.size) n cs f3 hl' hs (fun f' h' => hr f' (.tail _ h'))
        refine ⟨(y1, y2), b1 ++ b2, ⟨b1, b2, q1, ?_, rfl⟩, ?_⟩
        · rw [List.drop_drop]; exact q3
        · simp only [okV, q2, q4, Bool.and_self]
    refine ⟨fun {t fuel cs x} kk h hs => ?_, F⟩
    obtain ⟨fs, u1, _, u3⟩ := kk.und
    obtain ⟨xs, n, _, _, hlen, hxl, hx⟩ := DataW.trod_struct u1 h
    rw [cells_size kk] at hlen
    exact F fs.toList 0 n cs u3 hlen hs (fun f hf => by
      obtain ⟨i, hi, e⟩ := List.getElem_of_mem hf
      have hi' : i < xs.length := by rw [hxl]; simpa using hi
      exact ⟨xs[i], by rw [hx i f (by rw [Array.getElem?_eq_getElem (by simpa using hi)]; simpa using e), List.getElem?_eq_getElem hi']⟩)
  | arr n u ih =>
    refine ⟨fun {t fuel cs x} kk h hs => ?_, fun fs off n cs h => by cases fs <;> exact h.elim⟩
    obtain ⟨e, u1, u2, _, _⟩ := kk.und
    obtain ⟨xs, m, _, _, hlen, hxl, hx⟩ := DataW.trod_array u1 h
    have ke := hT _ _ u2
    rw [cells_size kk] at hlen
    rw [cells_size ke] at hx
    obtain ⟨y, bs, q1, q2⟩ := mkTupB (R := Rd w.heap u) (f := okV u) n cs (fun i hi => by
      have e0 := hx i hi
      rw [List.getElem?_eq_getElem (by omega)] at e0
      exact ih.1 ke e0 hs)
    exact ⟨y, bs, ⟨hlen, q1⟩, q2⟩
  | slice e u ih =>
    refine ⟨fun {t fuel cs x} kk h hs => ?_, fun fs off n cs h => by cases fs <;> exact h.elim⟩
    obtain ⟨u1, u2, u3⟩ := kk.und
    have ke := hT _ _ u2
    rcases DataW.trod_slice u1 h with ⟨rfl, _⟩ | ⟨a, len, cap, elems, rest, n, _, rfl, _, _, hlc, hmx, hel, he, hr, _⟩
    · exact ⟨[], [], ⟨_, none, [], rfl, .inl ⟨none, rfl, rfl, rfl, rfl⟩, rfl⟩, rfl⟩
    · obtain ⟨hrl, hr⟩ := hr (hs _)
      rw [cells_size ke] at he hr
      rcases Nat.eq_zero_or_pos cap with hc | hc
      · have hl0 : len = 0 := by omega
        subst hc; subst hl0
        exact ⟨[], [], ⟨_, none, [], rfl, .inl ⟨some a, rfl, rfl, rfl, rfl⟩, rfl⟩, rfl⟩
      · have hC : ∀ i, i < cap → ∃ cs', w.cells? base (a.add (i * u.size)) u.size = some cs' ∧ (i < len → ∃ y, DataW.trod enc P w base spare held n e cs' = some y) := by
          intro i hi
          by_cases q : i < len
          · have e0 := he i q
            rw [List.getElem?_eq_getElem (by omega)] at e0
            obtain ⟨cs', z1, z2⟩ := Option.bind_eq_some_iff.1 e0
            exact ⟨cs', z1, fun _ => ⟨_, z2⟩⟩
          · have e0 := hr (i - len) (by omega)
            rw [List.getElem?_eq_getElem (by omega), show len + (i - len) = i by omega] at e0
            obtain ⟨cs', z1, z2⟩ := Option.bind_eq_some_iff.1 e0
            exact ⟨cs', z1, fun h => absurd h q⟩
        have hus : 0 < u.size := Nat.pos_of_ne_zero u3
        have s1 : a.spot = none := by
          obtain ⟨cs0, z1, _⟩ := hC 0 hc
          obtain ⟨z2, z3⟩ := cells_get z1
          have z4 := z3 0 (by omega)
          rw [List.getElem?_eq_getElem (by omega)] at z4
          have e0 : (a.add (0 * u.size)).add 0 = a := by simp [Addr.add]
          rw [e0] at z4
          exact (cell_at z4).1
        obtain ⟨b0, o0, sp⟩ := a
        have s1 : sp = none := s1
        subst s1
        obtain ⟨csl, z1, _⟩ := hC (cap - 1) (by omega)
        obtain ⟨z2, z3⟩ := cells_get z1
        have z4 := z3 (u.size - 1) (by omega)
        rw [List.getElem?_eq_getElem (by omega)] at z4
        rw [addr_add, addr_add] at z4
        obtain ⟨_, c, e', fr, s2, s3⟩ := cell_at z4
        have s2 : w.heap[b0]? = some (.cells c e' fr) := s2
        have hsz : o0 + cap * u.size ≤ c.size := by
          have : o0 + (cap - 1) * u.size + (u.size - 1) < c.size := by
            rcases Nat.lt_or_ge (o0 + (cap - 1) * u.size + (u.size - 1)) c.size with q | q
            · exact q
            · have s3 : c[o0 + (cap - 1) * u.size + (u.size - 1)]? = some csl[u.size - 1] := s3
              rw [Array.getElem?_eq_none q] at s3; cases s3
          have e1 : cap * u.size = (cap - 1) * u.size + u.size := by
            rw [← Nat.succ_mul]; congr 1; omega
          omega
        obtain ⟨l, bs, q0, q1, q2⟩ := mkLst (R := Rd w.heap u) (f := okV u) len (c.toList.drop o0) (fun i hi => by
          obtain ⟨cs', y1, y2⟩ := hC i (by omega)
          obtain ⟨x', y2⟩ := y2 hi
          obtain ⟨y3, y4⟩ := cells_get y1
          have hi2 : (i + 1) * u.size ≤ cap * u.size := Nat.mul_le_mul_right _ (by omega)
          rw [Nat.succ_mul] at hi2
          have ecs : ((c.toList.drop o0).drop (i * u.size)).take u.size = cs' := by
            apply List.ext_getElem?
            intro j
            by_cases hj : j < u.size
            · rw [List.getElem?_take_of_lt hj, List.getElem?_drop, List.getElem?_drop, ← y4 j hj]
              have : w.cell? (((⟨b0, o0, none⟩ : Addr).add (i * u.size)).add j) = c[o0 + i * u.size + j]? := by
                rw [addr_add, addr_add]
                unfold World.cell?
                show (match w.heap[b0]? with | some (.cells c _ _) => if (none : Option Nat).isSome then none else c[o0 + i * u.size + j]? | _ => none) = _
                rw [s2]; rfl
              rw [this]; simp; congr 1; omega
            · rw [List.getElem?_eq_none (by simp; omega), List.getElem?_eq_none (by omega)]
          rw [ecs]
          exact ih.1 ke y2 hs)
        exact ⟨l, [b0] ++ bs, ⟨_, some b0, bs, rfl, .inr ⟨b0, o0, cap, c, fr, by rw [q0], rfl, ⟨by omega, hc⟩, ⟨e', s2⟩, hsz, q1⟩, rfl⟩, by
          have hmx : cap ≤ 9223372036854775807 := hmx
          have : decide (l.length ≤ 9223372036854775807) = true := decide_eq_true (by omega)
          show (decide (l.length ≤ 9223372036854775807) && l.all (okV u)) = true
          rw [this, q2]; rfl⟩
theorem open_val (hT : TOK P T) {ty : Ty} {t : TypeId} {r : Reach} {v : Value} {d : DataW H} {ps : List MemPlace} (ht : tyOf T t = some ty) {base2 : Nat} (hval : Value.okWide P w r base2 t v) (hs : ∀ b, spare b = true) (h : DataW.Trod enc P w base spare held t v d ps) :
    ∃ (y : ty.den) (bs : List Nat), OneV w.heap ty y v bs ∧ okV ty y = true := by
  obtain ⟨fuel, hx⟩ := h
  have k := hT _ _ ht
  obtain ⟨y, bs, q1, q2⟩ := (open_any hT).1 k hx hs
  refine ⟨y, bs, ⟨q1, fun ha => ?_, fun ha => ?_⟩, q2⟩
  · cases ty with
    | arr n u =>
      obtain ⟨e, u1, _⟩ := k.und
      simp only [Value.okWide, u1] at hval
      obtain ⟨cs, h1, _⟩ := hval
      subst h1; rfl
    | int k => cases ha
    | bool => cases ha
    | slice e u => cases ha
    | unit =>
      obtain ⟨fs, u1, _⟩ := k.und
      simp only [Value.okWide, u1] at hval
      obtain ⟨cs, h1, _⟩ := hval
      subst h1; rfl
    | pair a b =>
      obtain ⟨fs, u1, _⟩ := k.und
      simp only [Value.okWide, u1] at hval
      obtain ⟨cs, h1, _⟩ := hval
      subst h1; rfl
  · cases ty with
    | int kk =>
      obtain ⟨m, rfl⟩ := okWide_int k.und hval
      rfl
    | bool =>
      have u1 : P.underlying t = some .bool := k.und
      simp only [Value.okWide, Cell.okWide, Cell.ok, u1] at hval
      cases v <;> first | rfl | exact hval.elim
    | slice e u =>
      have u1 := k.und.1
      simp only [Value.okWide, Cell.okWide, Cell.ok, u1] at hval
      cases v <;> first | rfl | exact hval.elim
    | arr n u => cases ha
    | unit => cases ha
    | pair a b => cases ha
end
abbrev i64 : Ty := .int .i64
abbrev u8 : Ty := .int .u8
abbrev ex : Ty := .arr 3 u8
abbrev mat : Ty := .arr 3 ex
abbrev term : Ty := .pair ex (.pair i64 .unit)
abbrev poly : Ty := .pair i64 (.pair i64 (.pair (.slice 135 term) .unit))
abbrev lterm : Ty := .pair ex (.pair i64 .unit)
abbrev lpoly : Ty := .pair i64 (.pair i64 (.pair (.slice 147 lterm) .unit))
abbrev TT : TTab := [(2, i64), (3, i64), (4, .bool), (5, u8), (106, ex), (111, mat), (44, .slice 2 i64), (112, mat), (82, .slice 44 (.slice 2 i64)), (32, .slice 135 term), (34, poly), (107, ex), (135, term), (54, .pair i64 (.pair i64 (.pair (.slice 111 mat) .unit))), (55, .pair i64 (.pair i64 (.pair (.slice 111 mat) .unit))), (61, .pair i64 (.pair i64 (.pair (.slice 112 mat) .unit))), (59, .slice 112 mat), (53, .slice 111 mat), (30, .slice 34 poly), (179, .slice 30 (.slice 34 poly)), (23, .slice 147 lterm), (25, lpoly), (147, lterm), (22, .slice 25 lpoly), (141, .slice 107 ex), (168, mapT 107 2), (169, mapT 107 2)]
theorem tt_ok : TOK Tryz.prog TT := tokB_ok (by kernel_rfl)
abbrev vv (t : Ty) : Sh := .val false [.fz t 0 false]
abbrev va (t : Ty) : Sh := .val true [.fz t 0 false]
abbrev bb (t : Ty) : Sh := .box false [.fz t 0 false]
abbrev vr (e : TypeId) (t : Ty) (tag : Nat) (st : Bool) : Sh := .val false [.rt e t tag false true st]
abbrev w6 (x : Int) : Int := IntKind.wrap .i64 x
abbrev w8 (x : Int) : Int := IntKind.wrap .u8 x
abbrev tn (x : Int) : Nat := Int.toNat x
abbrev ib (i n : Int) : Bool := decide ((0 : Int) ≤ i) && decide (i < n)
theorem mixed : Tryz.prog.follows .mixedOrders = true := by kernel_rfl
abbrev R167 : Type := Ress [i64]
abbrev G167 : Type := Args [.v ex] → Option R167
abbrev kp167 : List (Nat × List Nat) := [(0, [1]), (1, [2])]
abbrev ct167 : CTab := []
def fn167 (F : Nat) (x : Args [.v ex]) : Option R167 :=
  match x with
  | (x0, _) => (some ((w6 ((w6 ((w6 (tget (0 : Int) 3 x0 (tn (0 : Int)))) + (w6 (tget (0 : Int) 3 x0 (tn (1 : Int)))))) + (w6 (tget (0 : Int) 3 x0 (tn (2 : Int)))))), ()))
theorem ev167 (F : Nat) (x : Args [.v ex]) : fnK TT (ct167 ) kp167 [i64] [] (bodyOf Tryz.f167) [.tmp 2] [.v ex] false false x = fn167 F x := by
  obtain ⟨x0, _⟩ := x
  kernel_rfl
theorem ok167 (hK : KOK Tryz.prog (ct167 )) (cf : G167) (h : ∀ x y, cf x = some y → ∃ F, fn167 F x = some y) : KOne Tryz.prog 167 ⟨[.v ex], [i64], false, false, 0, cf⟩ :=
  fn_one rfl (c := bodyOf Tryz.f167) mixed tt_ok hK Tryz.func167 (by kernel_rfl) (by kernel_rfl) (Nat.le_of_ble_eq_true (by kernel_rfl)) (by decide) fun x y hxy => by
    obtain ⟨F, hF⟩ := h x y hxy
    exact ⟨[], LTOK_by (l := []) (by kernel_rfl) trivial, (ev167 F x).trans hF⟩
abbrev R168 : Type := Ress [i64]
abbrev G168 : Type := Args [.v ex, .v ex] → Option R168
abbrev kp168 : List (Nat × List Nat) := [(0, [2, 3]), (1, [2, 3, 5]), (2, [12, 2, 3, 5]), (3, [4]), (4, [18, 3, 2]), (5, [4]), (6, [4])]
abbrev ct168 (g167 : G167) : CTab := [(167, ⟨[.v ex], [i64], false, false, 0, g167⟩)]
def fn168 (g167 : G167) (F : Nat) (x : Args [.v ex, .v ex]) : Option R168 :=
  match x with
  | (x0, x1, _) => (match (g167 (x0, ())) with | some r5 => (match (g167 (x1, ())) with | some r6 => (bif (!decide ((w6 (r5.1 - r6.1)) = (0 : Int))) then (some ((w6 (r5.1 - r6.1)), ())) else (bif (!decide ((tget (0 : Int) 3 x0 (tn (0 : Int))) = (tget (0 : Int) 3 x1 (tn (0 : Int))))) then (some ((w6 ((w6 (tget (0 : Int) 3 x1 (tn (0 : Int)))) - (w6 (tget (0 : Int) 3 x0 (tn (0 : Int)))))), ())) else (some ((w6 ((w6 (tget (0 : Int) 3 x1 (tn (1 : Int)))) - (w6 (tget (0 : Int) 3 x0 (tn (1 : Int)))))), ())))) | none => none) | none => none)
theorem ev168 (g167 : G167) (F : Nat) (x : Args [.v ex, .v ex]) : fnK TT (ct168 g167 ) kp168 [i64] [] (bodyOf Tryz.f168) [.tmp 4] [.v ex, .v ex] false false x = fn168 g167 F x := by
  obtain ⟨x0, x1, _⟩ := x
  kernel_rfl
theorem ok168 (g167 : G167) (hK : KOK Tryz.prog (ct168 g167 )) (cf : G168) (h : ∀ x y, cf x = some y → ∃ F, fn168 g167 F x = some y) : KOne Tryz.prog 168 ⟨[.v ex, .v ex], [i64], false, false, 0, cf⟩ :=
  fn_one rfl (c := bodyOf Tryz.f168) mixed tt_ok hK Tryz.func168 (by kernel_rfl) (by kernel_rfl) (Nat.le_of_ble_eq_true (by kernel_rfl)) (by decide) fun x y hxy => by
    obtain ⟨F, hF⟩ := h x y hxy
    exact ⟨[], LTOK_by (l := []) (by kernel_rfl) trivial, (ev168 g167 F x).trans hF⟩
abbrev R234 : Type := Ress [i64]
abbrev G234 : Type := Args [.v term, .v term] → Option R234
abbrev kp234 : List (Nat × List Nat) := [(0, [2, 3]), (1, [4])]
abbrev ct234 (g168 : G168) : CTab := [(168, ⟨[.v ex, .v ex], [i64], false, false, 0, g168⟩)]
def fn234 (g168 : G168) (F : Nat) (x : Args [.v term, .v term]) : Option R234 :=
  match x with
  | (x0, x1, _) => (match (g168 (x0.1, (x1.1, ()))) with | some r5 => (some (r5.1, ())) | none => none)
theorem ev234 (g168 : G168) (F : Nat) (x : Args [.v term, .v term]) : fnK TT (ct234 g168 ) kp234 [i64] [] (bodyOf Tryz.f234) [.tmp 4] [.v term, .v term] false false x = fn234 g168 F x := by
  obtain ⟨x0, x1, _⟩ := x
  kernel_rfl
theorem ok234 (g168 : G168) (hK : KOK Tryz.prog (ct234 g168 )) (cf : G234) (h : ∀ x y, cf x = some y → ∃ F, fn234 g168 F x = some y) : KOne Tryz.prog 234 ⟨[.v term, .v term], [i64], false, false, 0, cf⟩ :=
  fn_one rfl (c := bodyOf Tryz.f234) mixed tt_ok hK Tryz.func234 (by kernel_rfl) (by kernel_rfl) (Nat.le_of_ble_eq_true (by kernel_rfl)) (by decide) fun x y hxy => by
    obtain ⟨F, hF⟩ := h x y hxy
    exact ⟨[], LTOK_by (l := []) (by kernel_rfl) trivial, (ev234 g168 F x).trans hF⟩
end Go.Proofs.YtmdpmnjnpnjppaaGreatEv
namespace Go.Proofs
open Go.Shelf
def Tryz.l225_ren : Go.Shelf.Ren := ⟨fun | 6 => 225 | 15 => 242 | 14 => 241 | 28 => 257 | 29 => 258 | 20 => 249 | 21 => 250 | 22 => 251 | 23 => 252 | 24 => 253 | 25 => 254 | 26 => 255 | 27 => 256 | 46 => 268 | 47 => 269 | 48 => 270 | 49 => 271 | 50 => 272 | 57 => 276 | n => n, fun | 22 => 82 | 24 => 44 | 25 => 184 | 3 => 3 | 39 => 200 | 0 => 0 | 53 => 214 | 55 => 216 | 4 => 4 | 46 => 207 | 45 => 206 | 50 => 211 | 5 => 5 | 9 => 9 | 66 => 223 | 70 => 227 | 76 => 231 | 77 => 232 | n => n, fun | n => n⟩
theorem Tryz.l225 : Go.Proofs.SlLaysF.n6 Tryz.prog Tryz.l225_ren := {
  mixed := by kernel_rfl
  f6 := ⟨Tryz.f225.name, by decide, Tryz.func225.trans (congrArg some (by kernel_rfl))⟩
  f14 := ⟨Tryz.f241.name, by decide, Tryz.func241.trans (congrArg some (by kernel_rfl))⟩
  f15 := Tryz.func242.trans (congrArg some (by kernel_rfl))
  f20 := ⟨Tryz.f249.name, by decide, Tryz.func249.trans (congrArg some (by kernel_rfl))⟩
  f21 := ⟨Tryz.f250.name, by decide, Tryz.func250.trans (congrArg some (by kernel_rfl))⟩
  f22 := ⟨Tryz.f251.name, by decide, Tryz.func251.trans (congrArg some (by kernel_rfl))⟩
  f23 := ⟨Tryz.f252.name, by decide, Tryz.func252.trans (congrArg some (by kernel_rfl))⟩
  f24 := ⟨Tryz.f253.name, by decide, Tryz.func253.trans (congrArg some (by kernel_rfl))⟩
  f25 := ⟨Tryz.f254.name, by decide, Tryz.func254.trans (congrArg some (by kernel_rfl))⟩
  f26 := ⟨Tryz.f255.name, by decide, Tryz.func255.trans (congrArg some (by kernel_rfl))⟩
  f27 := ⟨Tryz.f256.name, by decide, Tryz.func256.trans (congrArg some (by kernel_rfl))⟩
  f28 := Tryz.func257.trans (congrArg some (by kernel_rfl))
  f29 := Tryz.func258.trans (congrArg some (by kernel_rfl))
  f46 := ⟨Tryz.f268.name, by decide, Tryz.func268.trans (congrArg some (by kernel_rfl))⟩
  f47 := Tryz.func269.trans (congrArg some (by kernel_rfl))
  f48 := Tryz.func270.trans (congrArg some (by kernel_rfl))
  f49 := ⟨Tryz.f271.name, by decide, Tryz.func271.trans (congrArg some (by kernel_rfl))⟩
  f50 := ⟨Tryz.f272.name, by decide, Tryz.func272.trans (congrArg some (by kernel_rfl))⟩
  f57 := ⟨Tryz.f276.name, by decide, Tryz.func276.trans (congrArg some (by kernel_rfl))⟩
  t0 := Tryz.underlying0
  a0 := Tryz.isAgg0
  z0 := Tryz.sizeOf0
  v0 := Tryz.zeroValue0
  t3 := Tryz.underlying3
  a3 := Tryz.isAgg3
  z3 := Tryz.sizeOf3
  v3 := Tryz.zeroValue3
  t4 := Tryz.underlying4
  a4 := Tryz.isAgg4
  z4 := Tryz.sizeOf4
  v4 := Tryz.zeroValue4
  t5 := Tryz.underlying5
  a5 := Tryz.isAgg5
  z5 := Tryz.sizeOf5
  v5 := Tryz.zeroValue5
  t9 := Tryz.underlying9
  a9 := Tryz.isAgg9
  z9 := Tryz.sizeOf9
  v9 := Tryz.zeroValue9
  t22 := Tryz.underlying82
  a22 := Tryz.isAgg82
  z22 := Tryz.sizeOf82
  v22 := Tryz.zeroValue82
  a24 := Tryz.isAgg44
  z24 := Tryz.sizeOf44
  t25 := Tryz.underlying184
  a25 := Tryz.isAgg184
  z25 := Tryz.sizeOf184
  v25 := Tryz.zeroValue184
  t39 := Tryz.underlying200
  a39 := Tryz.isAgg200
  z39 := Tryz.sizeOf200
  v39 := Tryz.zeroValue200
  t45 := Tryz.underlying206
  a45 := Tryz.isAgg206
  z45 := Tryz.sizeOf206
  v45 := Tryz.zeroValue206
  t46 := Tryz.underlying207
  a46 := Tryz.isAgg207
  z46 := Tryz.sizeOf207
  v46 := Tryz.zeroValue207
  t50 := Tryz.underlying211
  a50 := Tryz.isAgg211
  z50 := Tryz.sizeOf211
  v50 := Tryz.zeroValue211
  t53 := Tryz.underlying214
  a53 := Tryz.isAgg214
  z53 := Tryz.sizeOf214
  v53 := Tryz.zeroValue214
  t55 := Tryz.underlying216
  a55 := Tryz.isAgg216
  z55 := Tryz.sizeOf216
  v55 := Tryz.zeroValue216
  t66 := Tryz.underlying223
  a66 := Tryz.isAgg223
  z66 := Tryz.sizeOf223
  v66 := Tryz.zeroValue223
  t70 := Tryz.underlying227
  a70 := Tryz.isAgg227
  z70 := Tryz.sizeOf227
  v70 := Tryz.zeroValue227
  t76 := Tryz.underlying231
  a76 := Tryz.isAgg231
  z76 := Tryz.sizeOf231
  v76 := Tryz.zeroValue231
  t77 := Tryz.underlying232
  a77 := Tryz.isAgg232
  z77 := Tryz.sizeOf232
  v77 := Tryz.zeroValue232 }
def Tryz.l233_ren : Go.Shelf.Ren := ⟨fun | 6 => 233 | 15 => 242 | 14 => 246 | 28 => 257 | 29 => 258 | 20 => 260 | 21 => 261 | 22 => 262 | 23 => 263 | 24 => 264 | 25 => 265 | 26 => 266 | 27 => 267 | 46 => 273 | 47 => 269 | 48 => 270 | 49 => 274 | 50 => 275 | 57 => 277 | n => n, fun | 22 => 32 | 24 => 135 | 25 => 192 | 3 => 3 | 39 => 200 | 0 => 0 | 53 => 214 | 55 => 216 | 4 => 4 | 46 => 207 | 45 => 206 | 50 => 211 | 5 => 5 | 9 => 9 | 66 => 223 | 70 => 227 | 76 => 231 | 77 => 232 | n => n, fun | n => n⟩
theorem Tryz.l233 : Go.Proofs.SlLaysF0.n6 Tryz.prog Tryz.l233_ren := {
  mixed := by kernel_rfl
  f6 := ⟨Tryz.f233.name, by decide, Tryz.func233.trans (congrArg some (by kernel_rfl))⟩
  f14 := ⟨Tryz.f246.name, by decide, Tryz.func246.trans (congrArg some (by kernel_rfl))⟩
  f15 := Tryz.func242.trans (congrArg some (by kernel_rfl))
  f20 := ⟨Tryz.f260.name, by decide, Tryz.func260.trans (congrArg some (by kernel_rfl))⟩
  f21 := ⟨Tryz.f261.name, by decide, Tryz.func261.trans (congrArg some (by kernel_rfl))⟩
  f22 := ⟨Tryz.f262.name, by decide, Tryz.func262.trans (congrArg some (by kernel_rfl))⟩
  f23 := ⟨Tryz.f263.name, by decide, Tryz.func263.trans (congrArg some (by kernel_rfl))⟩
  f24 := ⟨Tryz.f264.name, by decide, Tryz.func264.trans (congrArg some (by kernel_rfl))⟩
  f25 := ⟨Tryz.f265.name, by decide, Tryz.func265.trans (congrArg some (by kernel_rfl))⟩
  f26 := ⟨Tryz.f266.name, by decide, Tryz.func266.trans (congrArg some (by kernel_rfl))⟩
  f27 := ⟨Tryz.f267.name, by decide, Tryz.func267.trans (congrArg some (by kernel_rfl))⟩
  f28 := Tryz.func257.trans (congrArg some (by kernel_rfl))
  f29 := Tryz.func258.trans (congrArg some (by kernel_rfl))
  f46 := ⟨Tryz.f273.name, by decide, Tryz.func273.trans (congrArg some (by kernel_rfl))⟩
  f47 := Tryz.func269.trans (congrArg some (by kernel_rfl))
  f48 := Tryz.func270.trans (congrArg some (by kernel_rfl))
  f49 := ⟨Tryz.f274.name, by decide, Tryz.func274.trans (congrArg some (by kernel_rfl))⟩
  f50 := ⟨Tryz.f275.name, by decide, Tryz.func275.trans (congrArg some (by kernel_rfl))⟩
  f57 := ⟨Tryz.f277.name, by decide, Tryz.func277.trans (congrArg some (by kernel_rfl))⟩
  t0 := Tryz.underlying0
  a0 := Tryz.isAgg0
  z0 := Tryz.sizeOf0
  v0 := Tryz.zeroValue0
  t3 := Tryz.underlying3
  a3 := Tryz.isAgg3
  z3 := Tryz.sizeOf3
  v3 := Tryz.zeroValue3
  t4 := Tryz.underlying4
  a4 := Tryz.isAgg4
  z4 := Tryz.sizeOf4
  v4 := Tryz.zeroValue4
  t5 := Tryz.underlying5
  a5 := Tryz.isAgg5
  z5 := Tryz.sizeOf5
  v5 := Tryz.zeroValue5
  t9 := Tryz.underlying9
  a9 := Tryz.isAgg9
  z9 := Tryz.sizeOf9
  v9 := Tryz.zeroValue9
  t22 := Tryz.underlying32
  a22 := Tryz.isAgg32
  z22 := Tryz.sizeOf32
  v22 := Tryz.zeroValue32
  t25 := Tryz.underlying192
  a25 := Tryz.isAgg192
  z25 := Tryz.sizeOf192
  v25 := Tryz.zeroValue192
  t39 := Tryz.underlying200
  a39 := Tryz.isAgg200
  z39 := Tryz.sizeOf200
  v39 := Tryz.zeroValue200
  t45 := Tryz.underlying206
  a45 := Tryz.isAgg206
  z45 := Tryz.sizeOf206
  v45 := Tryz.zeroValue206
  t46 := Tryz.underlying207
  a46 := Tryz.isAgg207
  z46 := Tryz.sizeOf207
  v46 := Tryz.zeroValue207
  t50 := Tryz.underlying211
  a50 := Tryz.isAgg211
  z50 := Tryz.sizeOf211
  v50 := Tryz.zeroValue211
  t53 := Tryz.underlying214
  a53 := Tryz.isAgg214
  z53 := Tryz.sizeOf214
  v53 := Tryz.zeroValue214
  t55 := Tryz.underlying216
  a55 := Tryz.isAgg216
  z55 := Tryz.sizeOf216
  v55 := Tryz.zeroValue216
  t66 := Tryz.underlying223
  a66 := Tryz.isAgg223
  z66 := Tryz.sizeOf223
  v66 := Tryz.zeroValue223
  t70 := Tryz.underlying227
  a70 := Tryz.isAgg227
  z70 := Tryz.sizeOf227
  v70 := Tryz.zeroValue227
  t76 := Tryz.underlying231
  a76 := Tryz.isAgg231
  z76 := Tryz.sizeOf231
  v76 := Tryz.zeroValue231
  t77 := Tryz.underlying232
  a77 := Tryz.isAgg232
  z77 := Tryz.sizeOf232
  v77 := Tryz.zeroValue232 }
end Go.Proofs
namespace Go.Proofs.YtmdpmnjnpnjppaaGreatEv
open Go Go.RowKit Go.Proofs Go.Shelf Go.Sort
def sortK {α : Type} (key : α → Int) (l : List α) : List α := l.mergeSort fun a b => decide (key a ≤ key b)
theorem sortK_unique {α : Type} {key : α → Int} {l l' : List α} (hp : l'.Perm l) (hs : l'.Pairwise fun a b => key a ≤ key b) (hn : (l.map key).Nodup) : l' = sortK key l := by
  have inj : ∀ a b, a ∈ l → b ∈ l → key a = key b → a = b := by
    clear hp hs
    intro a b ha hb he
    induction l with
    | nil => cases ha
    | cons x r ih =>
      simp only [List.map_cons, List.nodup_cons, List.mem_map, not_exists, not_and] at hn
      rcases List.mem_cons.1 ha with rfl | ha' <;> rcases List.mem_cons.1 hb with rfl | hb'
      · rfl
      · exact absurd he.symm (hn.1 b hb')
      · exact absurd he (hn.1 a ha')
      · exact ih hn.2 ha' hb'
  have hp2 := List.mergeSort_perm l fun a b => decide (key a ≤ key b)
  refine List.Perm.eq_of_pairwise (le := fun a b => key a ≤ key b) (fun a b ha hb h1 h2 => inj a b (hp.mem_iff.1 ha) (hp2.mem_iff.1 hb) (by omega)) hs ?_ (hp.trans hp2.symm)
  have := List.pairwise_mergeSort (le := fun a b : α => decide (key a ≤ key b)) (fun a b c h1 h2 => by simp at *; omega) (fun a b => by simp; omega) l
  exact this.imp fun h => by simpa using h
theorem perm_sorted {α β : Type} [Inhabited α] {key : β → Int} {val : α → β} {cf : α → α → Int} {d d' : Array α} (hk : ∀ x y, cf x y < 0 ↔ key (val x) < key (val y)) (hp : PermIn 0 d.size d d') (hs : SortedIn (ltOf cf) 0 d.size d') (hn : (d.toList.map fun x => key (val x)).Nodup) :
    d'.toList.Perm d.toList ∧ d'.toList.map val = sortK key (d.toList.map val) := by
  obtain ⟨h1, _, h3⟩ := hp
  have e1 : d'.extract 0 d.size = d' := by rw [← h1]; exact Array.extract_size
  have e2 : d.extract 0 d.size = d := Array.extract_size
  rw [e1, e2] at h3
  refine ⟨h3, sortK_unique (h3.map val) ?_ (by rw [List.map_map]; exact hn)⟩
  rw [List.pairwise_map]
  refine List.pairwise_iff_getElem.2 fun i j hi hj hij => ?_
  simp only [Array.length_toList] at hi hj
  have := hs i j (Nat.zero_le _) hij (by omega)
  rw [getElem!_pos d' i (by omega), getElem!_pos d' j (by omega)] at this
  simp only [ltOf, decide_eq_false_iff_not, hk] at this
  simp only [Array.getElem_toList]
  omega
theorem swo_key {α : Type} {cf : α → α → Int} {key : α → Int} (hk : ∀ x y, cf x y < 0 ↔ key x < key y) : SWO (ltOf cf) where
  irrefl x := by simp [ltOf, hk]
  trans x y z h1 h2 := by simp only [ltOf, decide_eq_true_eq, hk] at *; omega
  ntrans x y z h1 h2 := by simp only [ltOf, decide_eq_false_iff_not, hk] at *; omega
theorem grown_of {P : Program} {W w' : World} (h : Below W.heap.size W w') (hd : W.drawn ≤ w'.drawn) : ∃ q os', w' = grow (W.drewN q) os' := by
  refine ⟨w'.drawn - W.drawn, w'.heap.extract W.heap.size w'.heap.size, ?_⟩
  have e : w'.heap = W.heap ++ w'.heap.extract W.heap.size w'.heap.size := by
    apply Array.ext_getElem?
    intro i
    rw [Array.getElem?_append]
    split
    · exact h.block i ‹_›
    · rename_i q
      rw [Array.getElem?_extract]
      split
      · congr 1; omega
      · rw [Array.getElem?_eq_none (by have := h.size; omega)]
  obtain ⟨hp, tp, dr, os, op⟩ := w'
  have h1 := h.os; have h2 := h.tape; have h3 := h.output
  simp only at h1 h2 h3 e hd
  subst h1; subst h2; subst h3
  simp only [grow, World.drewN]
  congr 1
  omega
structure El (h : Mem) (b : Nat) (u : Ty) (good : u.den → Prop) where
  cs : List Value
  x : u.den
  bs : List Nat
  rd : Rd h u x cs bs
  ok : good x
  out : ∀ z ∈ bs, z ≠ b ∧ z < h.size
theorem els_of {h : Mem} {b : Nat} {u : Ty} {good : u.den → Prop} : ∀ {l : List u.den} {cs : List Value} {bs : List Nat}, RdL (Rd h u) u.size l cs bs → (∀ x ∈ l, good x) → (∀ z ∈ bs, z ≠ b ∧ z < h.size) →
    ∃ L : List (El h b u good), L.map El.x = l ∧ (L.map El.bs).flatten = bs ∧ ∀ j (hj : j < L.length), (cs.drop (j * u.size)).take u.size = L[j].cs
  | [], cs, bs, hr, _, _ => ⟨[], rfl, by rw [show bs = [] from hr]; rfl, fun j hj => by cases hj⟩
  | x :: l, cs, bs, ⟨b1, b2, h1, h2, h3⟩, hg, ho => by
    subst h3
    obtain ⟨L, q1, q2, q3⟩ := els_of h2 (fun x hx => hg x (.tail _ hx)) (fun z hz => ho z (List.mem_append_right _ hz))
    refine ⟨⟨cs.take u.size, x, b1, h1, hg x (.head _), fun z hz => ho z (List.mem_append_left _ hz)⟩ :: L, by simp [q1], by simp [q2], fun j hj => ?_⟩
    cases j with
    | zero => simp
    | succ j =>
      have := q3 j (by simpa using hj)
      simp only [List.getElem_cons_succ]
      rw [← this, List.drop_drop, Nat.succ_mul, Nat.add_comm]
theorem els_rd {h h' : Mem} {b : Nat} {u : Ty} {good : u.den → Prop} (hh : ∀ z, z ≠ b → z < h.size → h'[z]? = h[z]?) : ∀ {L : List (El h b u good)} {cs : List Value}, (∀ j (hj : j < L.length), (cs.drop (j * u.size)).take u.size = L[j].cs) → RdL (Rd h' u) u.size (L.map El.x) cs (L.map El.bs).flatten
  | [], cs, _ => rfl
  | e :: L, cs, hc => by
    refine ⟨e.bs, (L.map El.bs).flatten, ?_, els_rd hh fun j hj => ?_, rfl⟩
    · have := hc 0 (by simp)
      simp only [Nat.zero_mul, List.drop_zero, List.getElem_cons_zero] at this
      rw [this]
      exact e.rd.frame fun z hz => hh z (e.out z hz).1 (e.out z hz).2
    · have := hc (j + 1) (by simpa using hj)
      simp only [List.getElem_cons_succ] at this
      rw [← this, List.drop_drop, Nat.succ_mul, Nat.add_comm]
section
variable {P : Program} {α : Type} [Inhabited α] {w : World} {b o : Nat} {c : Array Value} {e : TypeId} {fr : Nat × Nat}
theorem sw_other (enc : α → Value) {m : Nat} {dk : Array α} {os : Array Obj} {z : Nat} (hz : z ≠ b) (hl : z < w.heap.size) : (sortWorld enc w b o m dk os).heap[z]? = w.heap[z]? := by
  unfold sortWorld
  rw [heap_grow_old _ _ (by simpa [putRow, mapBlock, Sort.ahead] using hl)]
  simp only [putRow, mapBlock, Sort.ahead, Array.getElem?_modify]
  rw [if_neg (fun q => hz q.symm)]
theorem sw_self (enc : α → Value) {m : Nat} {dk : Array α} {os : Array Obj} (h : w.heap[b]? = some (.cells c e fr)) : (sortWorld enc w b o m dk os).heap[b]? = some (.cells (putCells enc o dk c) e fr) := by
  have hl : b < w.heap.size := by
    rcases Nat.lt_or_ge b w.heap.size with q | q
    · exact q
    · rw [Array.getElem?_eq_none q] at h; cases h
  unfold sortWorld
  rw [heap_grow_old _ _ (by simpa [putRow, mapBlock, Sort.ahead] using hl)]
  simp only [putRow, mapBlock, Sort.ahead, Array.getElem?_modify, if_true, h, Option.map_some, onCells]
theorem sw_size (enc : α → Value) {m : Nat} {dk : Array α} {os : Array Obj} : w.heap.size ≤ (sortWorld enc w b o m dk os).heap.size := by
  unfold sortWorld; simp [grow, putRow, mapBlock, Sort.ahead]
theorem put_get (enc : α → Value) {d : Array α} {j : Nat} (hj : j < d.size) (hc : o + d.size ≤ c.size) : (putCells enc o d c)[o + j]? = some (enc d[j]!) := by
  simp only [putCells, Array.getElem?_mapIdx]
  rw [Array.getElem?_eq_getElem (by omega)]
  simp only [Option.map_some]
  rw [if_pos (by omega)]
  congr 2; congr 1; omega
end
section
variable {P : Program} {e : TypeId} {u : Ty} {g : Nat} {cf : u.den → u.den → Int} {key : u.den → Int} {good : u.den → Prop} {fr st f1 f2 : Bool} {F : Args [.v u, .v u] → Option (Ress [.int .i64])} {f : Args [.v (.slice e u), .fn g] → Option (Ress [.slice e u])}
theorem take1 {α : Type} {l : List α} {i : Nat} (h : i < l.length) : (l.drop i).take 1 = [l[i]] := by rw [List.drop_eq_getElem_cons h]; rfl
theorem sort_nil {w w' : World} {v : Value} {ba : List Nat} (ho : OneV w.heap (.slice e u) [] v ba) (hnd : ba.Nodup) (hw : ∀ b ∈ ba, ∃ c e, w.heap[b]? = some (.cells c e (0, 0))) :
    AfterIn ⟨[.v (.slice e u), .fn g], [.slice e u], f1, f2, 1, f⟩ (sortK key [], ()) w (v :: [.func (.func g) #[] #[]]) ba (.returned (.tuple #[])) w := by
  have : sortK key ([] : List u.den) = [] := by simp [sortK]
  rw [this]
  exact ⟨v, [], ba, rfl, rfl, ⟨v, [], ba, [], rfl, ho, fun q => (by cases q), ⟨rfl, rfl⟩, by simp⟩, ⟨hnd, fun _ h => h⟩, rfl, Tp.refl, rfl, Nat.le_refl _, fun _ _ _ => rfl, hw⟩
theorem cmp_call (hg : FnOK P g ⟨[.v u, .v u], [.int .i64], fr, st, 0, F⟩) (hF : ∀ a b, good a → good b → F (a, b, ()) = some (cf a b, ())) {h : Mem} {b : Nat} {W : World} (hh : ∀ z, z ≠ b → z < h.size → W.heap[z]? = h[z]?) (x y : El h b u good) {vx vy : Value}
    (hx : vx.cells.toList = x.cs ∧ (u.agg = true → vx = .agg vx.cells) ∧ (u.agg = false → vx.cells = #[vx])) (hy : vy.cells.toList = y.cs ∧ (u.agg = true → vy = .agg vy.cells) ∧ (u.agg = false → vy.cells = #[vy])) :
    Calls P g #[vx, vy] W fun e w' => e = .returned (.int .i64 (cf x.x y.x)) ∧ ∃ q os', w' = grow (W.drewN q) os' := by
  have fx : OneV W.heap u x.x vx x.bs := ⟨by rw [hx.1]; exact x.rd.frame fun z hz => hh z (x.out z hz).1 (x.out z hz).2, hx.2.1, hx.2.2⟩
  have fy : OneV W.heap u y.x vy y.bs := ⟨by rw [hy.1]; exact y.rd.frame fun z hz => hh z (y.out z hz).1 (y.out z hz).2, hy.2.1, hy.2.2⟩
  refine (hg (x.x, y.x, ()) (cf x.x y.x, ()) (hF _ _ x.ok y.ok) W [vx, vy] (x.bs ++ (y.bs ++ [])) ⟨vx, [vy], _, _, rfl, rfl, fx, vy, [], _, _, rfl, rfl, fy, rfl, rfl⟩).mono ?_
  rintro e w' ⟨rv, bs, rfl, hres, hbel, hdr, _, _⟩
  obtain ⟨v, r, b1, b2, rfl, ho, _, ⟨rfl, _⟩, _⟩ := hres
  refine ⟨?_, grown_of (P := P) hbel hdr⟩
  have c1 := ho.2.2 rfl
  have c2 := ho.1.1
  rw [c1] at c2
  simp only [List.cons.injEq, and_true] at c2
  rw [c2]; rfl
theorem after_sort {w w' : World} {b o cap : Nat} {c : Array Value} {bs' : List Nat} {l : List u.den} {L : List (El w.heap b u good)} {d' : Array (El w.heap b u good)} {e2 : TypeId} (h4 : w.heap[b]? = some (.cells c e2 (0, 0))) (h5 : o + cap * u.size ≤ c.size) (h3 : l.length ≤ cap ∧ 0 < cap) (hnd : (b :: bs').Nodup)
    (hw : ∀ z ∈ b :: bs', ∃ c e, w.heap[z]? = some (.cells c e (0, 0))) (q1 : L.map El.x = l) (q2 : (L.map El.bs).flatten = bs') (hp : d'.toList.Perm L) (hs : d'.toList.map El.x = sortK key l)
    (os : w'.os = w.os) (tp : Tp w' w) (out : w'.output = w.output) (size : w.heap.size ≤ w'.heap.size) (oth : ∀ z, z ≠ b → z < w.heap.size → w'.heap[z]? = w.heap[z]?) {c' : Array Value} (hb : w'.heap[b]? = some (.cells c' e2 (0, 0))) (hcs : c'.size = c.size)
    (hc : ∀ j (hj : j < d'.toList.length), ((c'.toList.drop o).drop (j * u.size)).take u.size = d'.toList[j].cs) :
    AfterIn ⟨[.v (.slice e u), .fn g], [.slice e u], f1, f2, 1, f⟩ (sortK key l, ()) w (.slice (some ⟨b, o, none⟩) l.length cap :: [.func (.func g) #[] #[]]) (b :: bs') (.returned (.tuple #[])) w' := by
  have hlen : (sortK key l).length = l.length := by rw [← hs, List.length_map, hp.length_eq, ← q1, List.length_map]
  have hrd : RdL (Rd w'.heap u) u.size (sortK key l) (c'.toList.drop o) (d'.toList.map El.bs).flatten := by rw [← hs]; exact els_rd oth hc
  have hpb : ((d'.toList.map El.bs).flatten).Perm bs' := by rw [← q2]; exact (hp.map El.bs).flatten
  refine ⟨_, [], b :: (d'.toList.map El.bs).flatten, rfl, rfl, ⟨_, [], _, [], rfl, ⟨⟨.slice (some ⟨b, o, none⟩) l.length cap, some b, _, rfl, .inr ⟨b, o, cap, c', (0, 0), by rw [hlen], rfl, by rw [hlen]; exact h3, ⟨_, hb⟩, by rw [hcs]; exact h5, hrd⟩, rfl⟩, fun q => (by cases q), fun _ => rfl⟩, fun q => (by cases q), ⟨rfl, rfl⟩, by simp⟩,
    ⟨(hpb.cons b).nodup_iff.2 hnd, fun z hz => (hpb.cons b).mem_iff.1 hz⟩, os, tp, out, size, fun z hz hn => oth z (fun q => hn (by rw [q]; exact .head _)) hz, fun z hz => ?_⟩
  by_cases q : z = b
  · subst q; exact ⟨c', e2, hb⟩
  · obtain ⟨c1, e1, k⟩ := hw z hz
    have : z < w.heap.size := by
      rcases Nat.lt_or_ge z w.heap.size with q | q
      · exact q
      · rw [Array.getElem?_eq_none q] at k; cases k
    exact ⟨c1, e1, by rw [oth z q this]; exact k⟩
theorem sortRows_ok {ρ : Ren} (lay : SlLaysF.n6 P ρ) (hu : u.size = 1) (ha : u.agg = false) (hg : FnOK P g ⟨[.v u, .v u], [.int .i64], fr, st, 0, F⟩) (hF : ∀ a b, good a → good b → F (a, b, ()) = some (cf a b, ())) (hk : ∀ a b, good a → good b → (cf a b < 0 ↔ key a < key b))
    (eg : ∀ args w, (callFunc g args).run P w = .ok (.enter g args) w) (hf : ∀ x y, f x = some y → x.1.length ≤ 1000000 ∧ (∀ r ∈ x.1, good r) ∧ (x.1.map key).Nodup ∧ y = (sortK key x.1, ())) : InOK P (ρ.f 6) ⟨[.v (.slice e u), .fn g], [.slice e u], f1, f2, 1, f⟩ := by
  intro x y hxy w vs ba hv hnd hw
  obtain ⟨l, _, _⟩ := x
  obtain ⟨h1, h2, h3, rfl⟩ := hf _ _ hxy
  replace h1 : l.length ≤ 1000000 := h1
  replace h2 : ∀ r ∈ l, good r := h2
  replace h3 : (l.map key).Nodup := h3
  obtain ⟨v, r, b1, b2, rfl, rfl, ho, r', rfl, rfl, rfl⟩ := hv
  replace ho : OneV w.heap (.slice e u) l v b1 := ho
  rw [List.append_nil] at hnd hw ⊢
  have ho' := ho
  obtain ⟨⟨hd, blk, bs', z1, z2, z3⟩, _, z4⟩ := ho
  have hc := z4 rfl
  have eh : hd = v := by rw [hc] at z1; injection z1 with z1 _; exact z1.symm
  subst eh
  rcases z2 with ⟨pz, rfl, rfl, rfl, rfl⟩ | ⟨b, o, cap, c, fz, rfl, rfl, e3, ⟨e', e4⟩, e5, e6⟩
  · refine (AnyF.slices_SortFunc_none { lay with } pz 0 _ w).mono ?_
    rintro e w' ⟨rfl, hq⟩
    rw [hq]
    exact sort_nil (w' := w) ho' hnd hw
  · by_cases hl : l = []
    · subst hl
      refine (AnyF.slices_SortFunc_none { lay with } (some ⟨b, o, none⟩) cap _ w).mono ?_
      rintro e w' ⟨rfl, hq⟩
      rw [hq]
      exact sort_nil (w' := w) ho' hnd hw
    · simp only [Option.toList_some, List.singleton_append] at z3
      subst z3
      have hfz : fz = (0, 0) := by
        obtain ⟨c1, e1, k⟩ := hw b (.head _)
        rw [e4] at k; injection k with k; injection k with _ _ k
      subst hfz
      have hlt : b < w.heap.size := by
        rcases Nat.lt_or_ge b w.heap.size with q | q
        · exact q
        · rw [Array.getElem?_eq_none q] at e4; cases e4
      obtain ⟨L, q1, q2, q3⟩ := els_of (b := b) (good := good) e6 h2 (fun z hz => ⟨fun q => (List.nodup_cons.1 hnd).1 (by rw [← q]; exact hz), by
        obtain ⟨c1, e1, k⟩ := hw z (.tail _ hz)
        rcases Nat.lt_or_ge z w.heap.size with q | q
        · exact q
        · rw [Array.getElem?_eq_none q] at k; cases k⟩)
      have hLl : L.length = l.length := by rw [← q1, List.length_map]
      have hne : L ≠ [] := fun q => hl (by rw [← q1, q]; rfl)
      haveI : Inhabited (El w.heap b u good) := ⟨L.head hne⟩
      let enc : El w.heap b u good → Value := fun x => x.cs.headD undef
      have one : ∀ x : El w.heap b u good, x.cs = [enc x] ∧ (enc x).cells = #[enc x] := fun x => by
        obtain ⟨c0, k1, k2⟩ := x.rd.one ha
        have : enc x = c0 := by show x.cs.headD undef = c0; rw [k1]; rfl
        rw [this]; exact ⟨k1, k2⟩
      have hlen : L.toArray.size = l.length := by simp [hLl]
      have h1c : OneCell enc := fun x => by
        have k := x.rd.cells1 (enc x) (by rw [(one x).1]; exact .head _)
        exact k
      have main := Any.slices_SortFunc lay enc h1c (fun x y => cf x.x y.x) (swo_key (key := fun x => key x.x) fun x y => hk _ _ x.ok y.ok) g #[] b o cap L.toArray w eg (fun m os dk hs x y => ?_) (fun j hj => ?_) hlt (by omega)
      · rw [hlen] at main
        refine main.mono ?_
        rintro ee w' ⟨rfl, d', n, os, p1, p2, rfl⟩
        obtain ⟨r1, r2⟩ := perm_sorted (key := key) (val := El.x) (cf := fun x y => cf x.x y.x) (d := L.toArray) (d' := d') (fun x y => hk _ _ x.ok y.ok) (by rw [hlen]; exact p1) (by rw [hlen]; exact p2) (by
          show (L.map fun x => key x.x).Nodup
          have : (L.map fun x => key x.x) = l.map key := by rw [← q1, List.map_map]; rfl
          rw [this]; exact h3)
        simp only at r1 r2
        rw [q1] at r2
        have dl : d'.size = l.length := by have := r1.length_eq; simp only [Array.length_toList] at this; rw [this, hLl]
        have hcap : o + d'.size ≤ c.size := by rw [dl]; rw [hu] at e5; omega
        refine after_sort e4 e5 e3 hnd hw q1 q2 r1 r2 rfl ⟨rfl, ?_⟩ rfl (sw_size enc) (fun z hz hl => sw_other enc hz hl) (sw_self enc e4) (by simp [putCells]) (fun j hj => ?_)
        · show w.drawn ≤ w.drawn + n; omega
        · simp only [Array.length_toList] at hj
          rw [hu, Nat.mul_one, List.drop_drop, (one _).1]
          have := put_get (o := o) (c := c) enc (d := d') hj hcap
          rw [getElem!_pos d' j hj] at this
          rw [take1 (by simp [putCells]; omega)]
          congr 1
          rw [Array.getElem?_eq_getElem (by simp [putCells]; omega)] at this
          injection this with this
      · refine cmp_call hg hF (fun z hz hl => sw_other enc hz hl) x y ⟨?_, fun q => (by rw [ha] at q; cases q), fun _ => (one x).2⟩ ⟨?_, fun q => (by rw [ha] at q; cases q), fun _ => (one y).2⟩
        · rw [(one x).2, (one x).1]
        · rw [(one y).2, (one y).1]
      · have hj' : j < L.length := by simpa using hj
        have k := q3 j hj'
        rw [hu, Nat.mul_one, List.drop_drop, (one _).1] at k
        have hcs : o + j < c.size := by rw [hu] at e5; omega
        rw [take1 (by simpa using hcs)] at k
        have eg2 : L.toArray[j]! = L[j] := by rw [getElem!_pos _ _ (by simpa using hj')]; simp
        rw [eg2]
        simp only [World.cell?, World.frozen?, e4]
        refine ⟨?_, by simp⟩
        simp only [Option.isSome_none, Bool.false_eq_true, if_false]
        rw [Array.getElem?_eq_getElem hcs]
        injection k with k _
        congr 1
theorem flat_take {k : Nat} {cs : List Value} {j : Nat} {l : List Value} (hl : l.length = k) (h : ∀ t, t < k → cs[j + t]? = l[t]?) : (cs.drop j).take k = l := by
  apply List.ext_getElem?
  intro t
  by_cases ht : t < k
  · rw [List.getElem?_take_of_lt ht, List.getElem?_drop, h t ht]
  · rw [List.getElem?_eq_none (by simp; omega), List.getElem?_eq_none (by omega)]
theorem flat_at {α : Type} [Inhabited α] {enc : α → List Value} {k : Nat} (hk : ∀ x, (enc x).length = k) {d : Array α} {j t : Nat} (hj : j < d.size) (ht : t < k) : (flatK enc k d)[j * k + t]! = (enc d[j])[t]'(by rw [hk]; exact ht) := by
  have h1 : j * k + t < d.size * k := by
    have : (j + 1) * k ≤ d.size * k := Nat.mul_le_mul_right k hj
    rw [Nat.succ_mul] at this; omega
  rw [get_flatK _ _ _ _ h1]
  have e1 : (j * k + t) / k = j := by rw [Nat.mul_comm, Nat.mul_add_div (by omega), Nat.div_eq_of_lt ht]; rfl
  have e2 : (j * k + t) % k = t := by rw [Nat.mul_comm, Nat.mul_add_mod, Nat.mod_eq_of_lt ht]
  rw [e1, e2, getElem!_pos d j hj, getElem!_pos _ t (by rw [hk]; exact ht)]
theorem sortStr_ok {ρ : Ren} (lay : SlLaysF0.n6 P ρ) (ha : u.agg = true) (aE : ∀ w, (isAgg (ρ.t 24)).run P w = .ok true w) (zE : ∀ w, (Go.sizeOf (ρ.t 24)).run P w = .ok u.size w) (hg : FnOK P g ⟨[.v u, .v u], [.int .i64], fr, st, 0, F⟩) (hF : ∀ a b, good a → good b → F (a, b, ()) = some (cf a b, ())) (hk : ∀ a b, good a → good b → (cf a b < 0 ↔ key a < key b))
    (eg : ∀ args w, (callFunc g args).run P w = .ok (.enter g args) w) (hf : ∀ x y, f x = some y → x.1.length ≤ 1000000 ∧ (∀ r ∈ x.1, good r) ∧ (x.1.map key).Nodup ∧ y = (sortK key x.1, ())) : InOK P (ρ.f 6) ⟨[.v (.slice e u), .fn g], [.slice e u], f1, f2, 1, f⟩ := by
  intro x y hxy w vs ba hv hnd hw
  obtain ⟨l, _, _⟩ := x
  obtain ⟨h1, h2, h3, rfl⟩ := hf _ _ hxy
  replace h1 : l.length ≤ 1000000 := h1
  replace h2 : ∀ r ∈ l, good r := h2
  replace h3 : (l.map key).Nodup := h3
  obtain ⟨v, r, b1, b2, rfl, rfl, ho, r', rfl, rfl, rfl⟩ := hv
  replace ho : OneV w.heap (.slice e u) l v b1 := ho
  rw [List.append_nil] at hnd hw ⊢
  have ho' := ho
  obtain ⟨⟨hd, blk, bs', z1, z2, z3⟩, _, z4⟩ := ho
  have hc := z4 rfl
  have eh : hd = v := by rw [hc] at z1; injection z1 with z1 _; exact z1.symm
  subst eh
  rcases z2 with ⟨pz, rfl, rfl, rfl, rfl⟩ | ⟨b, o, cap, c, fz, rfl, rfl, e3, ⟨e', e4⟩, e5, e6⟩
  · refine (AnyF.slices_SortFunc_none lay pz 0 _ w).mono ?_
    rintro e w' ⟨rfl, hq⟩
    rw [hq]
    exact sort_nil (w' := w) ho' hnd hw
  · by_cases hl : l = []
    · subst hl
      refine (AnyF.slices_SortFunc_none lay (some ⟨b, o, none⟩) cap _ w).mono ?_
      rintro e w' ⟨rfl, hq⟩
      rw [hq]
      exact sort_nil (w' := w) ho' hnd hw
    · simp only [Option.toList_some, List.singleton_append] at z3
      subst z3
      have hfz : fz = (0, 0) := by
        obtain ⟨c1, e1, k⟩ := hw b (.head _)
        rw [e4] at k; injection k with k; injection k with _ _ k
      subst hfz
      have hlt : b < w.heap.size := by
        rcases Nat.lt_or_ge b w.heap.size with q | q
        · exact q
        · rw [Array.getElem?_eq_none q] at e4; cases e4
      obtain ⟨L, q1, q2, q3⟩ := els_of (b := b) (good := good) e6 h2 (fun z hz => ⟨fun q => (List.nodup_cons.1 hnd).1 (by rw [← q]; exact hz), by
        obtain ⟨c1, e1, k⟩ := hw z (.tail _ hz)
        rcases Nat.lt_or_ge z w.heap.size with q | q
        · exact q
        · rw [Array.getElem?_eq_none q] at k; cases k⟩)
      have hLl : L.length = l.length := by rw [← q1, List.length_map]
      have hne : L ≠ [] := fun q => hl (by rw [← q1, q]; rfl)
      haveI : Inhabited (El w.heap b u good) := ⟨L.head hne⟩
      have hlen : L.toArray.size = l.length := by simp [hLl]
      have hcl : ∀ x : El w.heap b u good, x.cs.length = u.size := fun x => x.rd.length
      have main := AnyQ.slices_SortFunc lay u.size aE zE (fun x : El w.heap b u good => x.cs) hcl (fun x v hv => x.rd.cells1 v hv) (fun x y => cf x.x y.x) (swo_key (key := fun x => key x.x) fun x y => hk _ _ x.ok y.ok) g #[] b o cap L.toArray w eg (fun m os dk hs x y => ?_) (fun j hj => ?_) hlt (by omega)
      · rw [hlen] at main
        refine main.mono ?_
        rintro ee w' ⟨rfl, d', n, os, p1, p2, rfl⟩
        obtain ⟨r1, r2⟩ := perm_sorted (key := key) (val := El.x) (cf := fun x y => cf x.x y.x) (d := L.toArray) (d' := d') (fun x y => hk _ _ x.ok y.ok) (by rw [hlen]; exact p1) (by rw [hlen]; exact p2) (by
          show (L.map fun x => key x.x).Nodup
          have : (L.map fun x => key x.x) = l.map key := by rw [← q1, List.map_map]; rfl
          rw [this]; exact h3)
        simp only at r1 r2
        rw [q1] at r2
        have dl : d'.size = l.length := by have := r1.length_eq; simp only [Array.length_toList] at this; rw [this, hLl]
        have hsz : d'.size * u.size ≤ cap * u.size := Nat.mul_le_mul_right _ (by omega)
        have hcap : o + (flatK (fun x : El w.heap b u good => x.cs) u.size d').size ≤ c.size := by rw [size_flatK]; omega
        refine after_sort e4 e5 e3 hnd hw q1 q2 r1 r2 rfl ⟨rfl, ?_⟩ rfl (sw_size id) (fun z hz hl => sw_other id hz hl) (sw_self id e4) (by simp [putCells]) (fun j hj => ?_)
        · show w.drawn ≤ w.drawn + n; omega
        · simp only [Array.length_toList] at hj
          rw [List.drop_drop]
          refine flat_take (hcl _) fun t ht => ?_
          have hin : j * u.size + t < (flatK (fun x : El w.heap b u good => x.cs) u.size d').size := by
            rw [size_flatK]
            have : (j + 1) * u.size ≤ d'.size * u.size := Nat.mul_le_mul_right _ hj
            rw [Nat.succ_mul] at this; omega
          have := put_get (o := o) (c := c) id hin hcap
          rw [flat_at hcl hj ht] at this
          rw [Nat.add_assoc, Array.getElem?_toList, this, List.getElem?_eq_getElem (by rw [hcl]; exact ht)]
          simp
      · exact cmp_call hg hF (fun z hz hl => sw_other id hz hl) x y ⟨by simp [Value.cells], fun _ => rfl, fun q => (by rw [ha] at q; cases q)⟩ ⟨by simp [Value.cells], fun _ => rfl, fun q => (by rw [ha] at q; cases q)⟩
      · rw [size_flatK] at hj
        have hk0 : 0 < u.size := by
          rcases Nat.eq_zero_or_pos u.size with q | q
          · rw [q] at hj; omega
          · exact q
        have hj1 : j / u.size < L.length := by
          have : j < L.length * u.size := by simpa using hj
          exact (Nat.div_lt_iff_lt_mul hk0).2 this
        have hjm : j % u.size < u.size := Nat.mod_lt _ hk0
        have ej : j = j / u.size * u.size + j % u.size := by rw [Nat.mul_comm]; exact (Nat.div_add_mod j u.size).symm
        have k := q3 _ hj1
        have fa := flat_at (d := L.toArray) hcl (j := j / u.size) (t := j % u.size) (by simpa using hj1) hjm
        rw [← ej] at fa
        have hcs : o + j < c.size := by
          have : L.length * u.size ≤ cap * u.size := Nat.mul_le_mul_right _ (by omega)
          have : j < L.length * u.size := by simpa using hj
          omega
        have kk : (List.take u.size (List.drop (j / u.size * u.size) (List.drop o c.toList)))[j % u.size]? = (L[j / u.size].cs)[j % u.size]? := by rw [k]
        rw [List.getElem?_take_of_lt hjm, List.getElem?_drop, List.getElem?_drop, ← ej, List.getElem?_eq_getElem (l := L[j / u.size].cs) (by rw [hcl]; exact hjm), Array.getElem?_toList] at kk
        simp only [World.cell?, World.frozen?, e4, Option.isSome_none, Bool.false_eq_true, if_false]
        refine ⟨?_, by simp⟩
        rw [kk]
        congr 1
        exact fa.symm
end
open Go Go.RowKit Go.Proofs
theorem w6_i {x : Int} (h0 : -9223372036854775808 ≤ x) (h1 : x ≤ 9223372036854775807) : w6 x = x := by
  simp [w6, IntKind.wrap, IntKind.bits, IntKind.signed]; split <;> omega
def okN (a b c : Int) : Prop := (0 ≤ a ∧ a ≤ 255) ∧ (0 ≤ b ∧ b ≤ 255) ∧ (0 ≤ c ∧ c ≤ 255)
instance (a b c : Int) : Decidable (okN a b c) := by unfold okN; exact inferInstance
def key3 (a b c : Int) : Int := (a + b + c) * 65536 + (255 - a) * 256 + (255 - b)
def cmp3 (a b c a' b' c' : Int) : Int := if (a + b + c) - (a' + b' + c') = 0 then (if a = a' then b' - b else a' - a) else (a + b + c) - (a' + b' + c')
theorem cmp3_key {a b c a' b' c' : Int} (ha : okN a b c) (hb : okN a' b' c') : cmp3 a b c a' b' c' < 0 ↔ key3 a b c < key3 a' b' c' := by
  unfold okN at ha hb
  unfold cmp3 key3
  split
  · split <;> omega
  · omega
theorem key3_inj {a b c a' b' c' : Int} (ha : okN a b c) (hb : okN a' b' c') (h : key3 a b c = key3 a' b' c') : a = a' ∧ b = b' ∧ c = c' := by
  unfold okN at ha hb
  unfold key3 at h
  omega
def okX (e : ex.den) : Prop := okN e.1 e.2.1 e.2.2.1
instance (e : ex.den) : Decidable (okX e) := by unfold okX; exact inferInstance
def degX (e : ex.den) : Int := @HAdd.hAdd Int Int Int _ (@HAdd.hAdd Int Int Int _ e.1 e.2.1) e.2.2.1
def keyX (e : ex.den) : Int := key3 e.1 e.2.1 e.2.2.1
theorem keyX_inj {a b : ex.den} (ha : okX a) (hb : okX b) (h : keyX a = keyX b) : a = b := by
  obtain ⟨a0, a1, a2, _⟩ := a
  obtain ⟨b0, b1, b2, _⟩ := b
  obtain ⟨h1, h2, h3⟩ := key3_inj (a := a0) (b := a1) (c := a2) (a' := b0) (b' := b1) (c' := b2) ha hb h
  subst h1; subst h2; subst h3; rfl
def cmpX (a b : ex.den) : Int := cmp3 a.1 a.2.1 a.2.2.1 b.1 b.2.1 b.2.2.1
theorem cmpX_key {a b : ex.den} (ha : okX a) (hb : okX b) : cmpX a b < 0 ↔ keyX a < keyX b := cmp3_key ha hb
theorem run159 (a b c : Int) (h : okN a b c) : fn167 0 ((a, b, c, ()), ()) = some ((a + b + c : Int), ()) := by
  unfold okN at h
  show some (w6 (w6 (w6 a + w6 b) + w6 c), ()) = _
  rw [w6_i (x := a) (by omega) (by omega), w6_i (x := b) (by omega) (by omega), w6_i (x := c) (by omega) (by omega), w6_i (x := a + b) (by omega) (by omega), w6_i (by omega) (by omega)]
def cf159 : G167 := fun x => if okX x.1 then some (degX x.1, ()) else none
theorem k159 : KOne Tryz.prog 167 ⟨[.v ex], [i64], false, false, 0, cf159⟩ := ok167 .nil cf159 fun x y h => by
  obtain ⟨e, _⟩ := x
  simp only [cf159] at h
  split at h
  · rename_i hc
    injection h with h; subst h
    exact ⟨0, run159 e.1 e.2.1 e.2.2.1 hc⟩
  · cases h
theorem run151 (a b c a' b' c' : Int) (h : okN a b c) (h' : okN a' b' c') (e1 : cf159 ((a, b, c, ()), ()) = some ((a + b + c : Int), ())) (e2 : cf159 ((a', b', c', ()), ()) = some ((a' + b' + c' : Int), ())) :
    fn168 cf159 0 ((a, b, c, ()), (a', b', c', ()), ()) = some ((cmp3 a b c a' b' c' : Int), ()) := by
  unfold okN at h h'
  simp only [fn168, e1, e2]
  show (bif !decide (w6 ((a + b + c) - (a' + b' + c')) = 0) then some (w6 ((a + b + c) - (a' + b' + c')), ()) else bif !decide (a = a') then some (w6 (w6 a' - w6 a), ()) else some (w6 (w6 b' - w6 b), ())) = _
  rw [w6_i (x := (a + b + c) - (a' + b' + c')) (by omega) (by omega), w6_i (x := a) (by omega) (by omega), w6_i (x := a') (by omega) (by omega), w6_i (x := b) (by omega) (by omega), w6_i (x := b') (by omega) (by omega), w6_i (x := a' - a) (by omega) (by omega), w6_i (x := b' - b) (by omega) (by omega)]
  unfold cmp3
  clear e1 e2
  generalize (a + b + c) - (a' + b' + c') = D
  by_cases h1 : D = 0
  · by_cases h2 : a = a' <;> simp [h1, h2]
  · simp [h1]
def cf151 : G168 := fun x => if okX x.1 ∧ okX x.2.1 then some (cmpX x.1 x.2.1, ()) else none
theorem k151 : KOne Tryz.prog 168 ⟨[.v ex, .v ex], [i64], false, false, 0, cf151⟩ := ok168 _ (.cons k159 .nil) cf151 fun x y h => by
  obtain ⟨a, b, _⟩ := x
  simp only [cf151] at h
  split at h
  · rename_i hc
    injection h with h; subst h
    have e1 : cf159 (a, ()) = some (degX a, ()) := if_pos hc.1
    have e2 : cf159 (b, ()) = some (degX b, ()) := if_pos hc.2
    exact ⟨0, run151 a.1 a.2.1 a.2.2.1 b.1 b.2.1 b.2.2.1 hc.1 hc.2 e1 e2⟩
  · cases h
def cf150 : G234 := fun x => if okX x.1.1 ∧ okX x.2.1.1 then some (cmpX x.1.1 x.2.1.1, ()) else none
theorem k150 : KOne Tryz.prog 234 ⟨[.v term, .v term], [i64], false, false, 0, cf150⟩ := ok234 _ (.cons k151 .nil) cf150 fun x y h => by
  obtain ⟨a, b, _⟩ := x
  simp only [cf150] at h
  split at h
  · rename_i hc
    injection h with h; subst h
    refine ⟨0, ?_⟩
    have e1 : cf151 (a.1, b.1, ()) = some (cmpX a.1 b.1, ()) := if_pos hc
    simp only [fn234, e1]
  · cases h
def keyT3 (t : term.den) : Int := keyX t.1
abbrev R233 : Type := Ress [.slice 135 term]
abbrev G233 : Type := Args [.v (.slice 135 term), .fn 234] → Option R233
noncomputable def cf149 : G233 := by
  classical exact fun x => if x.1.length ≤ 1000000 ∧ (∀ r ∈ x.1, okX r.1) ∧ (x.1.map keyT3).Nodup then some (sortK keyT3 x.1, ()) else none
theorem k149 : KOne Tryz.prog 233 ⟨[.v (.slice 135 term), .fn 234], [.slice 135 term], false, false, 1, cf149⟩ := by
  refine ⟨fun q => (by cases q), fun _ => ?_, fun q => (by cases q), Tryz.f233, Tryz.func233, by decide, rfl⟩
  have eg : ∀ args w, (callFunc 234 args).run Tryz.prog w = .ok (.enter 234 args) w := fun args w => by
    have := Tryz.func234
    simp only [callFunc, Sem.run_bind, run_program, Result.andThen_ok, this]
    rw [if_neg (by decide), if_neg (by decide)]; rfl
  exact sortStr_ok (ρ := Tryz.l233_ren) (good := fun r : term.den => okX r.1) (cf := fun a b : term.den => cmpX a.1 b.1) (key := keyT3) (u := term) Tryz.l233 rfl Tryz.isAgg135 Tryz.sizeOf135 (k150.ok rfl) (fun a b ha hb => if_pos ⟨ha, hb⟩) (fun a b ha hb => cmpX_key ha hb) eg fun x y h => by
    simp only [cf149] at h
    split at h
    · rename_i hc
      injection h with h; subst h
      exact ⟨hc.1, hc.2.1, hc.2.2, rfl⟩
    · cases h
theorem g149_ok {l : List term.den} (h1 : l.length ≤ 1000000) (h2 : ∀ r ∈ l, okX r.1) (h3 : (l.map keyT3).Nodup) : cf149 (l, (), ()) = some (sortK keyT3 l, ()) := if_pos ⟨h1, h2, h3⟩
open Go Go.RowKit
abbrev R199 : Type := Ress [poly]
abbrev G199 : Type := Args [.m ex i64, .v i64, .v i64] → Option R199
def opsAt (id : Nat) : Code → Option (Array Oper)
  | .region j ops _ => bif Nat.beq j id then some ops else none
  | .seq a b => (match opsAt id a with | some x => some x | none => opsAt id b)
  | .cond _ a b => (match opsAt id a with | some x => some x | none => opsAt id b)
  | .block _ b => opsAt id b
  | .loop b => opsAt id b
  | _ => none
noncomputable def o103 (i : Nat) : Array Oper := match opsAt i (bodyOf Tryz.f199) with | some x => x | none => #[]
noncomputable def tail103 : Code := .seq (.region 5 (o103 5) false) (.seq (.region 6 (o103 6) false) (.cond (.tmp 28) (.region 7 (o103 7) false) .skip))
noncomputable def body103 : Code := .seq (.region 3 (o103 3) false) (.seq (.cond (.tmp 16) .skip (.exit 0)) (.block 1 (.seq (.region 4 (o103 4) false) tail103)))
noncomputable def end103 : Code := .seq (.region 8 (o103 8) false) (.seq (.region 9 (o103 9) false) .ret)
theorem sk103 : Tryz.f199.body = some (.seq (.region 0 (o103 0) false) (.seq (.region 1 (o103 1) false) (.seq (.seq (.region 2 (o103 2) false) (.block 0 (.loop body103))) end103))) := by kernel_rfl
abbrev ct199 (g149 : G233) : CTab := [(233, ⟨[.v (.slice 135 term), .fn 234], [.slice 135 term], false, false, 1, g149⟩)]
def E0 (p v : Int) : Env := [(1, intE .i64 p), (2, intE .i64 v), (6, .box false [.fz i64 0 false (0 : Int), .fz i64 0 false (0 : Int), .rt 135 term 99 false true true []]), (7, .box false [.fz i64 0 false p, .fz i64 0 false v, .rt 135 term 195 false true true []])]
def E1 (p v : Int) (r : Nat) (o : Obj) (ts : List term.den) : Env := [(1, intE .i64 p), (2, intE .i64 v), (6, .box false [.fz i64 0 false (0 : Int), .fz i64 0 false (0 : Int), .rt 135 term 99 false true true []]), (7, .box false [.fz i64 0 false p, .fz i64 0 false v, .rt 135 term 195 false true true ts]), (14, .it r o)]
def E4 (p v : Int) (r : Nat) (o : Obj) (ts : List term.den) (k : ex.den) (x : Int) : Env := ((E1 p v r o ts).put 18 (.val true [.fz ex 0 false k])).put 19 (intE .i64 x)
theorem e103a (g149 : G233) (m : List (ex.den × i64.den)) (p v : Int) : evL TT (ct199 g149) [] [] (.region 0 (o103 0) false) (initEnv 0 [.m ex i64, .v i64, .v i64] (m, p, v, ())) (fun e => some (keepK [1, 2, 6] e)) (fun _ _ => none) (fun _ => none) =
    some [(1, intE .i64 p), (2, intE .i64 v), (6, .box false [.fz i64 0 false (0 : Int), .fz i64 0 false (0 : Int), .rt 135 term 99 false true true []])] := by kernel_rfl
theorem e103b (g149 : G233) (p v : Int) : evL TT (ct199 g149) [] [] (.region 1 (o103 1) false) [(1, intE .i64 p), (2, intE .i64 v), (6, .box false [.fz i64 0 false (0 : Int), .fz i64 0 false (0 : Int), .rt 135 term 99 false true true []])] (fun e => some (keepK [1, 2, 6, 7] e)) (fun _ _ => none) (fun _ => none) =
    some (E0 p v) := by kernel_rfl
def cN (p x : Int) : Int := Int.tmod (w6 (Int.tmod x p + p)) p
theorem e103c (g149 : G233) (p v : Int) (r : Nat) (o : Obj) (ts : List term.den) (k : ex.den) (x : Int) :
    seqK TT (ct199 g149) (o103 4).toList [3, 4, 5] (E4 p v r o ts k x) (fun e => evL TT (ct199 g149) [] [] tail103 e (fun e => some (keepK [1, 2, 6, 7, 14] e)) (fun _ _ => none) (fun _ => none)) =
    bif !decide (p = 0) then (bif !decide (p = 0) then (bif !decide (cN p x = 0) then (bif growOk ts.length 1 then some (E1 p v r o (ts ++ [(k, cN p x, ())])) else none) else some (E1 p v r o ts)) else none) else none := by kernel_rfl
theorem e103d (g149 : G233) (p v : Int) (r : Nat) (o : Obj) (ts : List term.den) :
    evL TT (ct199 g149) [] [] end103 (E1 p v r o ts) (endK TT [.cell 6 34] [poly] true false) (fun _ _ => none) (endK TT [.cell 6 34] [poly] true false) =
    (match g149 (ts, (), ()) with | some y => some ((p, v, y.1, ()), ()) | none => none) := by kernel_rfl
def lkeys : List (ex.den × i64.den) → List ex.den
  | [] => []
  | q :: r => bif (lkeys r).any (fun k => ex.eqd q.1 k) then lkeys r else q.1 :: lkeys r
def term1 (p : Int) (m : List (ex.den × i64.den)) (k : ex.den) : Option term.den := if cN p (mget ex i64 m k) = 0 then none else some (k, cN p (mget ex i64 m k), ())
def termsOf (p : Int) (m : List (ex.den × i64.den)) (ks : List ex.den) : List term.den := ks.filterMap (term1 p m)
theorem keyT_ex : keyT ex = true := rfl
theorem lkeys_mem : ∀ {m : List (ex.den × i64.den)} {k : ex.den}, k ∈ lkeys m ↔ ∃ q ∈ m, q.1 = k
  | [], k => by simp [lkeys]
  | q :: r, k => by
    have ih := lkeys_mem (m := r) (k := k)
    simp only [lkeys]
    cases hq : (lkeys r).any (fun k => ex.eqd q.1 k) with
    | true =>
      obtain ⟨k', h1, h2⟩ := List.any_eq_true.1 hq
      have := (eqd_key keyT_ex).1 h2; subst this
      simp only [cond_true, List.mem_cons, exists_eq_or_imp, ih]
      constructor
      · exact .inr
      · rintro (rfl | h)
        · exact lkeys_mem.1 h1
        · exact h
    | false =>
      simp only [cond_false, List.mem_cons, exists_eq_or_imp, ih]
      constructor
      · rintro (rfl | h)
        · exact .inl rfl
        · exact .inr h
      · rintro (rfl | h)
        · exact .inl rfl
        · exact .inr h
theorem lkeys_nodup : ∀ {m : List (ex.den × i64.den)}, (lkeys m).Nodup
  | [] => List.nodup_nil
  | q :: r => by
    simp only [lkeys]
    cases hq : (lkeys r).any (fun k => ex.eqd q.1 k) with
    | true => exact lkeys_nodup
    | false =>
      refine List.nodup_cons.2 ⟨fun h => ?_, lkeys_nodup⟩
      have := List.any_eq_false.1 hq q.1 h
      exact this ((eqd_key keyT_ex).2 rfl)
theorem mget_none : ∀ {m : List (ex.den × i64.den)} {k : ex.den}, k ∉ lkeys m → mget ex i64 m k = (0 : Int)
  | [], k, _ => rfl
  | q :: r, k, h => by
    have h1 : q.1 ≠ k := fun e => h (lkeys_mem.2 ⟨q, .head _, e⟩)
    have h2 : k ∉ lkeys r := fun e => h (by obtain ⟨x, hx, e⟩ := lkeys_mem.1 e; exact lkeys_mem.2 ⟨x, .tail _ hx, e⟩)
    have := mget_miss keyT_ex (vt := i64) (x := q.1) (x' := k) (y := q.2) (m := r) h1
    exact this.trans (mget_none h2)
theorem cN_zero {p : Int} (h1 : 0 < p) (h2 : p ≤ 1000000) : cN p 0 = 0 := by
  unfold cN
  rw [Int.zero_tmod, Int.zero_add, w6_i (by omega) (by omega), Int.tmod_self]
theorem term1_mem {p : Int} {m : List (ex.den × i64.den)} {ks : List ex.den} {t : term.den} : t ∈ termsOf p m ks ↔ t.1 ∈ ks ∧ cN p (mget ex i64 m t.1) ≠ 0 ∧ t = (t.1, cN p (mget ex i64 m t.1), ()) := by
  unfold termsOf
  rw [List.mem_filterMap]
  constructor
  · rintro ⟨k, hk, h⟩
    unfold term1 at h
    split at h
    · cases h
    · rename_i hc; injection h with h; subst h; exact ⟨hk, hc, rfl⟩
  · rintro ⟨h1, h2, h3⟩
    exact ⟨t.1, h1, by unfold term1; rw [if_neg h2]; rw [← h3]⟩
theorem terms_nodup {p : Int} {m : List (ex.den × i64.den)} {ks : List ex.den} (h : ks.Nodup) : ((termsOf p m ks).map (·.1)).Nodup := by
  induction ks with
  | nil => exact List.nodup_nil
  | cons k ks ih =>
    obtain ⟨h1, h2⟩ := List.nodup_cons.1 h
    have ih := ih h2
    unfold termsOf at ih ⊢
    rw [List.filterMap_cons]
    split
    · exact ih
    · rename_i t ht
      have e : t.1 = k := by
        unfold term1 at ht
        split at ht
        · cases ht
        · injection ht with ht; subst ht; rfl
      refine List.nodup_cons.2 ⟨fun hm => ?_, ih⟩
      obtain ⟨t', ht', e'⟩ := List.mem_map.1 hm
      have := (term1_mem (p := p) (m := m) (ks := ks)).1 ht'
      rw [e'] at this; exact h1 (by rw [← e]; exact this.1)
theorem nodup_of_map {α β : Type} {f : α → β} : ∀ {l : List α}, (l.map f).Nodup → l.Nodup
  | [], _ => List.nodup_nil
  | x :: l, h => by
    obtain ⟨h1, h2⟩ := List.nodup_cons.1 h
    exact List.nodup_cons.2 ⟨fun hm => h1 (List.mem_map_of_mem hm), nodup_of_map h2⟩
theorem len_le {α : Type} : ∀ {l l' : List α}, l.Nodup → (∀ x ∈ l, x ∈ l') → l.length ≤ l'.length
  | [], l', _, _ => Nat.zero_le _
  | x :: l, l', h, hs => by
    obtain ⟨h1, h2⟩ := List.nodup_cons.1 h
    obtain ⟨a, b, rfl⟩ := List.append_of_mem (hs x (.head _))
    have := len_le (l' := a ++ b) h2 (fun y hy => by
      have q := hs y (.tail _ hy)
      rcases List.mem_append.1 q with q | q
      · exact List.mem_append_left _ q
      · rcases List.mem_cons.1 q with q | q
        · subst q; exact absurd hy h1
        · exact List.mem_append_right _ q)
    simp only [List.length_cons, List.length_append] at this ⊢
    omega
theorem terms_in {p : Int} {m : List (ex.den × i64.den)} {ks : List ex.den} (h1 : 0 < p) (h2 : p ≤ 1000000) {t : term.den} (h : t ∈ termsOf p m ks) : t ∈ termsOf p m (lkeys m) := by
  obtain ⟨q1, q2, q3⟩ := term1_mem.1 h
  refine term1_mem.2 ⟨?_, q2, q3⟩
  by_cases hk : t.1 ∈ lkeys m
  · exact hk
  · rw [mget_none hk] at q2; exact absurd (cN_zero h1 h2) q2
theorem terms_len {p : Int} {m : List (ex.den × i64.den)} {ks : List ex.den} (h1 : 0 < p) (h2 : p ≤ 1000000) (hn : ks.Nodup) : (termsOf p m ks).length ≤ (lkeys m).length := by
  have a := len_le (nodup_of_map (terms_nodup (p := p) (m := m) hn)) (fun x hx => terms_in h1 h2 hx)
  have b : (termsOf p m (lkeys m)).length ≤ (lkeys m).length := by unfold termsOf; exact List.length_filterMap_le _ _
  omega
theorem born_inj {es : List MapEntry} (h : es.Pairwise fun a b => a.born ≠ b.born) {a b : MapEntry} (ha : a ∈ es) (hb : b ∈ es) (e : a.born = b.born) : a = b := by
  induction es with
  | nil => cases ha
  | cons x r ih =>
    obtain ⟨h1, h2⟩ := List.pairwise_cons.1 h
    rcases List.mem_cons.1 ha with ea | ha' <;> rcases List.mem_cons.1 hb with eb | hb'
    · rw [ea, eb]
    · subst ea; exact absurd e (h1 b hb')
    · subst eb; exact absurd e.symm (h1 a ha')
    · exact ih h2 ha' hb'
theorem key_inj {es : List MapEntry} (h : es.Pairwise fun a b => ∀ k, Vk ex k a.key → ¬ Vk ex k b.key) {a b : MapEntry} (ha : a ∈ es) (hb : b ∈ es) {k : ex.den} (h1 : Vk ex k a.key) (h2 : Vk ex k b.key) : a = b := by
  induction es with
  | nil => cases ha
  | cons x r ih =>
    obtain ⟨q1, q2⟩ := List.pairwise_cons.1 h
    rcases List.mem_cons.1 ha with ea | ha' <;> rcases List.mem_cons.1 hb with eb | hb'
    · rw [ea, eb]
    · subst ea; exact absurd h2 (q1 b hb' k h1)
    · subst eb; exact absurd h1 (q1 a ha' k h2)
    · exact ih q2 ha' hb'
structure Lp (w0 : World) (ba : List Nat) (v0 : Value) (bm r clock : Nat) (es : Array MapEntry) (p v : Int) (m : List (ex.den × i64.den)) (a : Act) (w : World) (seen : Array Nat) (ks : List ex.den) (g : Gh) : Prop where
  st : St ⟨41, true, v0⟩ w0 (fun _ => False) g (E1 p v r (.mapIter (some bm) clock seen clock) (termsOf p m ks)).get a w
  al : g.al = fun b => b ∈ ba
  nd : ks.Nodup
  seen : ∀ e ∈ es.toList, (seen.contains e.born = true ↔ ∃ k ∈ ks, Vk ex k e.key)
  src : ∀ k ∈ ks, ∃ e ∈ es.toList, Vk ex k e.key
theorem op3_0 : ∃ o, (o103 3)[0]? = some o ∧ o.op = .next (.tmp 14) false ∧ o.dst = some 15 ∧ o.guard = none := ⟨((o103 3)[0]?).get (by kernel_rfl), (Option.some_get _).symm, by kernel_rfl, by kernel_rfl, by kernel_rfl⟩
theorem op3_1 : ∃ o, (o103 3)[1]? = some o ∧ o.op = .extract (.tmp 15) 0 ∧ o.dst = some 16 ∧ o.guard = none := ⟨((o103 3)[1]?).get (by kernel_rfl), (Option.some_get _).symm, by kernel_rfl, by kernel_rfl, by kernel_rfl⟩
theorem op4_0 : ∃ o, (o103 4)[0]? = some o ∧ o.op = .entry (.tmp 14) ∧ o.dst = some 17 ∧ o.guard = none := ⟨((o103 4)[0]?).get (by kernel_rfl), (Option.some_get _).symm, by kernel_rfl, by kernel_rfl, by kernel_rfl⟩
theorem op4_1 : ∃ o, (o103 4)[1]? = some o ∧ o.op = .extract (.tmp 17) 0 ∧ o.dst = some 18 ∧ o.guard = none := ⟨((o103 4)[1]?).get (by kernel_rfl), (Option.some_get _).symm, by kernel_rfl, by kernel_rfl, by kernel_rfl⟩
theorem op4_2 : ∃ o, (o103 4)[2]? = some o ∧ o.op = .extract (.tmp 17) 1 ∧ o.dst = some 19 ∧ o.guard = none := ⟨((o103 4)[2]?).get (by kernel_rfl), (Option.some_get _).symm, by kernel_rfl, by kernel_rfl, by kernel_rfl⟩
theorem op2_0 : ∃ o, (o103 2)[0]? = some o ∧ o.op = .move (.tmp 0) ∧ o.dst = some 13 ∧ o.guard = none := ⟨((o103 2)[0]?).get (by kernel_rfl), (Option.some_get _).symm, by kernel_rfl, by kernel_rfl, by kernel_rfl⟩
theorem op2_1 : ∃ o, (o103 2)[1]? = some o ∧ o.op = .range 169 (.tmp 13) ∧ o.dst = some 14 ∧ o.guard = none := ⟨((o103 2)[1]?).get (by kernel_rfl), (Option.some_get _).symm, by kernel_rfl, by kernel_rfl, by kernel_rfl⟩
theorem rg2 : List.range (o103 2).size = [0, 1] := by kernel_rfl
theorem rg3 : List.range (o103 3).size = [0, 1] := by kernel_rfl
theorem rg4 : List.range (o103 4).size = [0, 1, 2, 3, 4, 5] := by kernel_rfl
theorem okc4 (v0 : Value) : ∀ (i : Nat) (o : Oper), (o103 4).toList[i]? = some o → ∀ d, o.dst = some d → (⟨41, true, v0⟩ : NS).has d := by
  have h : okCode ⟨41, true, undef⟩ (.region 4 (o103 4) false) = true := by kernel_rfl
  intro i o ho d hd
  simp only [okCode, List.all_eq_true] at h
  have := h o (List.mem_of_getElem? ho)
  rw [hd] at this
  simp only [Bool.and_eq_true, Bool.not_eq_true', Bool.and_eq_false_iff] at this
  refine ⟨by simpa using this.1, fun hk => ?_⟩
  rcases this.2 with q | q
  · cases q
  · exact nbeq_ne q
theorem okt (v0 : Value) : okCode ⟨41, true, v0⟩ tail103 = true := by kernel_rfl
theorem oke (v0 : Value) : okCode ⟨41, true, v0⟩ end103 = true := by kernel_rfl
section
variable {w0 : World} {ba : List Nat} {v0 : Value} {bm r clock : Nat} {es : Array MapEntry} {p v : Int} {m : List (ex.den × i64.den)}
theorem round103 {g149 : G233} {a : Act} {w : World} {seen : Array Nat} {ks : List ex.den} {g : Gh} {Q : Exit → Act → World → Prop} (hK : KOK Tryz.prog (ct199 g149)) (hb : w0.heap[bm]? = some (.map es clock)) (M : MapR ex i64 es.toList clock m) (hr : w0.heap.size ≤ r) (hp : 0 < p) (hp2 : p ≤ 1000000) (hl : (lkeys m).length ≤ 1000000)
    (L : Lp w0 ba v0 bm r clock es p v m a w seen ks g) (hQ : ∀ a' w' seen ks g, Lp w0 ba v0 bm r clock es p v m a' w' seen ks g → (∀ e ∈ es.toList, ∃ k ∈ ks, Vk ex k e.key) → Q (.exit 0) a' w') :
    body103.wp Tryz.prog (Exit.then (fun a' w' => (∃ seen ks g, Lp w0 ba v0 bm r clock es p v m a' w' seen ks g) ∧ (leftOf es (w'.iterSeen r)).size < (leftOf es (w.iterSeen r)).size) Q) a w := by
  have lt0 : bm < w0.heap.size := by
    rcases Nat.lt_or_ge bm w0.heap.size with q | q
    · exact q
    · rw [Array.getElem?_eq_none q] at hb; cases hb
  have mapAt : ∀ {env : Nat → Ent} {a : Act} {w : World} {g : Gh}, St ⟨41, true, v0⟩ w0 (fun _ => False) g env a w → w.heap[bm]? = some (.map es clock) := fun st => by rw [st.inv.old bm lt0 (fun h => h)]; exact hb
  have st := L.st
  have he := st.ent 14
  obtain ⟨e0, e1, -, -, -⟩ : EntR g w.heap 14 (.it r (.mapIter (some bm) clock seen clock)) (a.tmps.getD 14 undef) := he
  have hseen : w.iterSeen r = seen := by unfold World.iterSeen; rw [e1]
  have has : ∀ d, 0 < d → d < 41 → (⟨41, true, v0⟩ : NS).has d := fun d h1 h2 => ⟨h2, fun _ => by omega⟩
  unfold body103
  refine wp_seq (wp_region ?_)
  rw [rg3]
  obtain ⟨oa, a1, a2, a3, a4⟩ := op3_0
  obtain ⟨ob, b1, b2, b3, b4⟩ := op3_1
  have hx : ∀ z, Instr.next (a.eval (.tmp 14)) false z = Instr.next (.pointer (some ⟨r, 0, none⟩)) false z := fun z => by show Instr.next (a.tmps.getD 14 undef) false z = _; rw [e0]
  rcases run_next_at (P := Tryz.prog) w oa.type r bm clock clock seen es clock e1 (mapAt st) M.born (Nat.le_refl _) with ⟨n1, n2⟩ | ⟨e, n1, w1, n2, n3⟩
  · -- none is left
    refine wpOps_cons a1 a4 (upon_val (v := .tuple #[.bool false]) (w' := w) (by simp only [execOp, a2, hx, Sem.run_bind, n2, Result.andThen_ok, Sem.run_pure]) ?_)
    rw [a3]
    have st1 := st.passed (v := .tuple #[.bool false]) (has 15 (by omega) (by omega)) rfl
    have t15 : (a.put (some 15) (.tuple #[.bool false])).eval (.tmp 15) = .tuple #[.bool false] := by
      show (a.put (some 15) (.tuple #[.bool false])).tmps.getD 15 undef = _
      rw [st.tmpAt (show 15 < 41 by omega), if_pos rfl]
    refine wpOps_cons b1 b4 (upon_val (v := .bool false) (w' := w) (by simp only [execOp, b2, t15, Sem.run_bind]; rfl) ?_)
    rw [b3]
    have st2 := st1.passed (v := .bool false) (has 16 (by omega) (by omega)) rfl
    show Code.wp _ _ _ _ _
    refine wp_seq (wp_cond (t := false) ?_ (wp_exit ?_))
    · show ((a.put (some 15) (.tuple #[.bool false])).put (some 16) (.bool false)).tmps.getD 16 undef = _
      rw [st1.tmpAt (show 16 < 41 by omega), if_pos rfl]
    · refine hQ _ _ seen ks g ⟨st2, L.al, L.nd, L.seen, L.src⟩ fun e he => (L.seen e he).1 ?_
      have h0 : leftOf es seen = #[] := Array.eq_empty_of_size_eq_zero n1
      cases hc : seen.contains e.born with
      | true => rfl
      | false =>
        have : e ∈ leftOf es seen := Array.mem_filter.2 ⟨Array.mem_toList_iff.1 he, by rw [hc]; rfl⟩
        rw [h0] at this; simp at this
  · obtain ⟨he1, he2⟩ := mem_left n1
    obtain ⟨k, hk1, hk2⟩ := M.ent e he1
    -- an entry
    have stI := st.iterSet (d := 14) (r := r) (o' := .mapIter (some bm) clock (seen.push e.born) clock) (w1 := w1) (fun _ => by omega) rfl ⟨_, _, _, _, rfl⟩ rfl hr n2
    generalize hw2 : ChangeMaps.setBlock w1 r (.mapIter (some bm) clock (seen.push e.born) clock) = w2 at stI n3
    replace stI : St ⟨41, true, v0⟩ w0 (fun _ => False) g (E1 p v r (.mapIter (some bm) clock (seen.push e.born) clock) (termsOf p m ks)).get a w2 := stI
    refine wpOps_cons a1 a4 (upon_val (v := .tuple #[.bool true, e.key, e.val]) (w' := w2) (by simp only [execOp, a2, hx, Sem.run_bind, n3, Result.andThen_ok, Sem.run_pure]) ?_)
    rw [a3]
    have st1 := stI.passed (v := .tuple #[.bool true, e.key, e.val]) (has 15 (by omega) (by omega)) rfl
    have t15 : (a.put (some 15) (.tuple #[.bool true, e.key, e.val])).eval (.tmp 15) = .tuple #[.bool true, e.key, e.val] := by
      show (a.put (some 15) _).tmps.getD 15 undef = _
      rw [stI.tmpAt (show 15 < 41 by omega), if_pos rfl]
    refine wpOps_cons b1 b4 (upon_val (v := .bool true) (w' := w2) (by simp only [execOp, b2, t15, Sem.run_bind]; rfl) ?_)
    rw [b3]
    have st2 := st1.passed (v := .bool true) (has 16 (by omega) (by omega)) rfl
    have t16 : ((a.put (some 15) (.tuple #[.bool true, e.key, e.val])).put (some 16) (.bool true)).eval (.tmp 16) = .bool true := by
      show ((a.put (some 15) _).put (some 16) (.bool true)).tmps.getD 16 undef = _
      rw [st1.tmpAt (show 16 < 41 by omega), if_pos rfl]
    generalize (a.put (some 15) (.tuple #[.bool true, e.key, e.val])).put (some 16) (.bool true) = ac at st2 t16 ⊢
    show Code.wp _ _ _ _ _
    refine wp_seq (wp_cond (t := true) t16 (wp_skip ?_))
    show Code.wp _ _ _ _ _
    refine wp_block (wp_seq (wp_region ?_))
    rw [rg4]
    obtain ⟨oc, c1, c2, c3, c4⟩ := op4_0
    obtain ⟨od, d1, d2, d3, d4⟩ := op4_1
    obtain ⟨oe, x1, x2, x3, x4⟩ := op4_2
    obtain ⟨f0, f1, -, -, -⟩ : EntR g w2.heap 14 (.it r (.mapIter (some bm) clock (seen.push e.born) clock)) (ac.tmps.getD 14 undef) := st2.ent 14
    have bnd : (es.toList.map (·.born)).Nodup := List.pairwise_map.2 (M.bdist.imp fun h => h)
    have hen := run_entry_at (P := Tryz.prog) w2 r bm clock seen es clock e f1 (mapAt st2) he1 bnd
    refine wpOps_cons c1 c4 (upon_val (v := .tuple #[e.key, e.val]) (w' := w2) (by
      simp only [execOp, c2, show ac.eval (.tmp 14) = .pointer (some ⟨r, 0, none⟩) from f0, Sem.run_bind, hen, Result.andThen_ok, Sem.run_pure]) ?_)
    rw [c3]
    have st3 := st2.passed (v := .tuple #[e.key, e.val]) (has 17 (by omega) (by omega)) rfl
    have t17 : (ac.put (some 17) (.tuple #[e.key, e.val])).eval (.tmp 17) = .tuple #[e.key, e.val] := by
      show (ac.put (some 17) _).tmps.getD 17 undef = _
      rw [st2.tmpAt (show 17 < 41 by omega), if_pos rfl]
    refine wpOps_cons d1 d4 (upon_val (v := e.key) (w' := w2) (by simp only [execOp, d2, t17, Sem.run_bind]; rfl) ?_)
    rw [d3]
    have st4 := st3.putA (v := e.key) (has 18 (by omega) (by omega)) (vk_ent hk1 w2.heap 18)
    have t17b : ((ac.put (some 17) (.tuple #[e.key, e.val])).put (some 18) e.key).eval (.tmp 17) = .tuple #[e.key, e.val] := by
      show ((ac.put (some 17) _).put (some 18) e.key).tmps.getD 17 undef = _
      rw [st3.tmpAt (show 18 < 41 by omega), if_neg (by omega)]; exact t17
    refine wpOps_cons x1 x4 (upon_val (v := e.val) (w' := w2) (by simp only [execOp, x2, t17b, Sem.run_bind]; rfl) ?_)
    rw [x3]
    have st5 := st4.putA (v := e.val) (has 19 (by omega) (by omega)) (vk_ent hk2 w2.heap 19)
    have st6 : St ⟨41, true, v0⟩ w0 (fun _ => False) g (E4 p v r (.mapIter (some bm) clock (seen.push e.born) clock) (termsOf p m ks) k (mget ex i64 m k)).get (((ac.put (some 17) (.tuple #[e.key, e.val])).put (some 18) e.key).put (some 19) e.val) w2 := by
      refine st5.get_eq ?_
      funext s
      unfold E4
      rw [Env.get_put, Env.get_put]; rfl
    -- what becomes of the terms
    have hkn : k ∉ ks := fun hk => by rw [(L.seen e he1).2 ⟨k, hk, hk1⟩] at he2; cases he2
    have hnd : (ks ++ [k]).Nodup := List.nodup_append.2 ⟨L.nd, by simp, fun a ha b hb e => by simp at hb; subst hb; subst e; exact hkn ha⟩
    have hlen := terms_len (m := m) hp hp2 L.nd
    have hsn : termsOf p m (ks ++ [k]) = termsOf p m ks ++ (match term1 p m k with | some t => [t] | none => []) := by
      unfold termsOf
      rw [List.filterMap_append]; congr 1
      cases hq : term1 p m k <;> simp [hq]
    have hev : seqK TT (ct199 g149) (o103 4).toList [3, 4, 5] (E4 p v r (.mapIter (some bm) clock (seen.push e.born) clock) (termsOf p m ks) k (mget ex i64 m k)) (fun e => evL TT (ct199 g149) [] [] tail103 e (fun e => some (keepK [1, 2, 6, 7, 14] e)) (fun _ _ => none) (fun _ => none)) =
        some (E1 p v r (.mapIter (some bm) clock (seen.push e.born) clock) (termsOf p m (ks ++ [k]))) := by
      rw [e103c, hsn]
      have hp0 : p ≠ 0 := by omega
      have hg : growOk (termsOf p m ks).length 1 = true := decide_eq_true (by omega)
      by_cases hc : cN p (mget ex i64 m k) = 0
      · simp [hp0, hc, term1]
      · simp [hp0, hc, hg, term1]
    have inv' : ∀ e' ∈ es.toList, ((seen.push e.born).contains e'.born = true ↔ ∃ k' ∈ ks ++ [k], Vk ex k' e'.key) := by
      intro e' he'
      rw [contains_push, Bool.or_eq_true]
      constructor
      · rintro (q | q)
        · obtain ⟨k', z1, z2⟩ := (L.seen e' he').1 q; exact ⟨k', List.mem_append_left _ z1, z2⟩
        · have q := beq_iff_eq.1 q
          have : e' = e := by
            obtain ⟨i, hi⟩ := List.getElem?_of_mem he'
            obtain ⟨j, hj⟩ := List.getElem?_of_mem he1
            exact born_inj M.bdist he' he1 q
          subst this
          exact ⟨k, by simp, hk1⟩
      · rintro ⟨k', z1, z2⟩
        rcases List.mem_append.1 z1 with z | z
        · exact .inl ((L.seen e' he').2 ⟨k', z, z2⟩)
        · simp only [List.mem_singleton] at z; subst z
          right
          rw [key_inj M.dist he' he1 z2 hk1]; simp
    refine seqK_sound (A := fun b => b ∈ ba) (L := (o103 4).toList) tt_ok hK (fun b hb => (by cases hb)) (okc4 v0) hev st6 L.al (fun env' a' w' g' q1 q2 q3 => ?_)
    show Code.wp _ _ _ _ _
    refine evL_sound (A := fun b => b ∈ ba) mixed tt_ok hK (fun b hb => (by cases hb)) (okt v0) ⟨trivial, trivial, trivial, trivial⟩ q1 q2 q3 (fun env2 a2 w3 g2 r1 r2 r3 => ?_) (fun _ _ _ _ _ q => (by cases q)) (fun _ _ _ _ q => (by cases q))
    injection r1 with r1
    have stE : St ⟨41, true, v0⟩ w0 (fun _ => False) g2 (E1 p v r (.mapIter (some bm) clock (seen.push e.born) clock) (termsOf p m (ks ++ [k]))).get a2 w3 := by rw [← r1]; exact r2.kill (keepK_get _ env2)
    show (∃ _, _) ∧ _
    refine ⟨⟨seen.push e.born, ks ++ [k], g2, stE, r3, hnd, inv', fun k' hk' => ?_⟩, ?_⟩
    · rcases List.mem_append.1 hk' with z | z
      · exact L.src k' z
      · simp only [List.mem_singleton] at z; subst z; exact ⟨e, he1, hk1⟩
    · obtain ⟨-, f1', -, -, -⟩ : EntR g2 w3.heap 14 (.it r (.mapIter (some bm) clock (seen.push e.born) clock)) (a2.tmps.getD 14 undef) := stE.ent 14
      have : w3.iterSeen r = seen.push e.born := by unfold World.iterSeen; rw [f1']
      rw [this, hseen]
      exact left_shrinks es seen e n1
end
theorem sortK_perm {α : Type} {key : α → Int} {l l' : List α} (hp : l'.Perm l) (hn : (l.map key).Nodup) : sortK key l' = sortK key l := by
  refine sortK_unique ((List.mergeSort_perm l' _).trans hp) ?_ hn
  have := List.pairwise_mergeSort (le := fun a b : α => decide (key a ≤ key b)) (fun a b c h1 h2 => by simp at *; omega) (fun a b => by simp; omega) l'
  exact this.imp fun h => by simpa using h
theorem nodup_map_on {α β γ : Type} {f : α → β} {k : α → γ} : ∀ {l : List α}, (∀ a ∈ l, ∀ b ∈ l, k a = k b → f a = f b) → (l.map f).Nodup → (l.map k).Nodup
  | [], _, _ => List.nodup_nil
  | x :: l, h, hn => by
    obtain ⟨h1, h2⟩ := List.nodup_cons.1 hn
    refine List.nodup_cons.2 ⟨fun hm => ?_, nodup_map_on (fun a ha b hb => h a (.tail _ ha) b (.tail _ hb)) h2⟩
    obtain ⟨y, hy, e⟩ := List.mem_map.1 hm
    exact h1 (by rw [← h y (.tail _ hy) x (.head _) e]; exact List.mem_map_of_mem hy)
theorem okX_vk {k : ex.den} {v : Value} (h : Vk ex k v) : okX k := by
  obtain ⟨a, b, c, _⟩ := k
  have hw := (vk_key h).2
  have h1 : (Lit.int .u8 a).wf = true := hw a (.head _)
  have h2 : (Lit.int .u8 b).wf = true := hw b (.tail _ (.head _))
  have h3 : (Lit.int .u8 c).wf = true := hw c (.tail _ (.tail _ (.head _)))
  have r : ∀ x : Int, (Lit.int .u8 x).wf = true → 0 ≤ x ∧ x ≤ 255 := fun x hx => by
    simp [Lit.wf, IntKind.min, IntKind.max, IntKind.bits, IntKind.signed] at hx; omega
  exact ⟨r a h1, r b h2, r c h3⟩
def sumP (p v : Int) (m : List (ex.den × i64.den)) : poly.den := (p, v, sortK keyT3 (termsOf p m (lkeys m)), ())
def cf103 : G199 := fun x => if 0 < x.2.1 ∧ x.2.1 ≤ (1000000 : Int) ∧ (lkeys x.1).length ≤ 1000000 then some (sumP x.2.1 x.2.2.1 x.1, ()) else none
abbrev C103 : Ctr := ⟨[.m ex i64, .v i64, .v i64], [poly], true, false, 0, cf103⟩
theorem terms_end {bm r clock : Nat} {es : Array MapEntry} {p v : Int} {m : List (ex.den × i64.den)} {ks : List ex.den} (M : MapR ex i64 es.toList clock m) (hp : 0 < p) (hp2 : p ≤ 1000000) (hn : ks.Nodup) (src : ∀ k ∈ ks, ∃ e ∈ es.toList, Vk ex k e.key) (all : ∀ e ∈ es.toList, ∃ k ∈ ks, Vk ex k e.key) :
    (∀ t ∈ termsOf p m ks, okX t.1) ∧ ((termsOf p m ks).map keyT3).Nodup ∧ sortK keyT3 (termsOf p m ks) = sortK keyT3 (termsOf p m (lkeys m)) := by
  have ok : ∀ t ∈ termsOf p m ks, okX t.1 := fun t ht => by
    obtain ⟨e, _, h⟩ := src _ (term1_mem.1 ht).1
    exact okX_vk h
  have nd : ((termsOf p m ks).map keyT3).Nodup := nodup_map_on (f := (·.1)) (fun a ha b hb (e : keyX a.1 = keyX b.1) => keyX_inj (ok a ha) (ok b hb) e) (terms_nodup hn)
  have mem : ∀ t, t ∈ termsOf p m ks ↔ t ∈ termsOf p m (lkeys m) := fun t => by
    refine ⟨fun h => terms_in hp hp2 h, fun h => ?_⟩
    obtain ⟨q1, q2, q3⟩ := term1_mem.1 h
    refine term1_mem.2 ⟨?_, q2, q3⟩
    -- a key whose number is not 0 has an entry
    by_cases hk : ∃ e ∈ es.toList, Vk ex t.1 e.key
    · obtain ⟨e, he, hke⟩ := hk
      obtain ⟨k, hk1, hk2⟩ := all e he
      rw [hke.inj keyT_ex hk2]; exact hk1
    · have := M.none t.1 (fun e he hke => hk ⟨e, he, hke⟩)
      rw [this] at q2
      exact absurd (cN_zero hp hp2) q2
  have pm : (termsOf p m ks).Perm (termsOf p m (lkeys m)) := (List.perm_ext_iff_of_nodup (nodup_of_map (terms_nodup hn)) (nodup_of_map (terms_nodup lkeys_nodup))).2 mem
  exact ⟨ok, nd, (sortK_perm pm.symm nd).symm⟩
theorem okr (i : Nat) (v0 : Value) (h : okCode ⟨41, true, undef⟩ (.region i (o103 i) false) = true) : okCode ⟨41, true, v0⟩ (.region i (o103 i) false) = true := h
theorem oc0 : okCode ⟨41, true, undef⟩ (.region 0 (o103 0) false) = true := by kernel_rfl
theorem oc1 : okCode ⟨41, true, undef⟩ (.region 1 (o103 1) false) = true := by kernel_rfl
theorem nt103 : Tryz.f199.ntmps = 41 := by kernel_rfl
theorem rs103 : Tryz.f199.results.toList = [.cell 6 34] := by kernel_rfl
theorem fn199 : FnOK Tryz.prog 199 C103 := by
  intro x y hxy w vs ba hv
  obtain ⟨m, p, v, _⟩ := x
  replace hxy : cf103 (m, p, v, ()) = some y := hxy
  simp only [cf103] at hxy
  split at hxy
  · rename_i hc
    injection hxy with hxy
    obtain ⟨hp, hp2, hlk⟩ := hc
    have hK : KOK Tryz.prog (ct199 cf149) := .cons k149 .nil
    have hv0 := hv
    obtain ⟨bm, vr, es, clock, rfl, hb, M, hv2⟩ := hv
    replace M : MapR ex i64 es.toList clock m := M
    have st0 := init_St (n := Tryz.f199.ntmps) hv0 (by rw [nt103]; decide)
    refine calls_of_wp Tryz.func199 sk103 ?_
    have stk : St ⟨41, true, .map (some bm)⟩ w (fun _ => False) (gh0 w (.map (some bm) :: vr) ba) (initEnv 0 [.m ex i64, .v i64, .v i64] (m, p, v, ())).get { tmps := (.map (some bm) :: vr).toArray ++ Array.replicate (Tryz.f199.ntmps - (.map (some bm) :: vr).toArray.size) undef, defers := [] } w :=
      ⟨st0.inv, st0.ent, ⟨st0.sz.1.trans nt103, fun _ => by rw [Array.getD_eq_getD_getElem?, Array.getElem?_append_left (by simp)]; rfl⟩, st0.df, st0.os, st0.tape, st0.output⟩
    refine wp_seq (ev_wp (A := fun b => b ∈ ba) (ks := [1, 2, 6]) mixed tt_ok hK (fun b hb => (by cases hb)) (okr 0 _ oc0) trivial (e103a cf149 m p v) stk rfl fun a1 w1 g1 st1 A1 => ?_)
    show Code.wp _ _ _ _ _
    refine wp_seq (ev_wp (A := fun b => b ∈ ba) (ks := [1, 2, 6, 7]) mixed tt_ok hK (fun b hb => (by cases hb)) (okr 1 _ oc1) trivial (e103b cf149 p v) st1 A1 fun a2 w2 g2 st2 A2 => ?_)
    show Code.wp _ _ _ _ _
    refine wp_seq (wp_seq (wp_region ?_))
    rw [rg2]
    obtain ⟨oa, q1, q2, q3, q4⟩ := op2_0
    obtain ⟨ob, r1, r2, r3, r4⟩ := op2_1
    have lt0 : bm < w.heap.size := by
      rcases Nat.lt_or_ge bm w.heap.size with q | q
      · exact q
      · rw [Array.getElem?_eq_none q] at hb; cases hb
    have hb2 : w2.heap[bm]? = some (.map es clock) := by rw [st2.inv.old bm lt0 (fun h => h)]; exact hb
    have has : ∀ d, 0 < d → d < 41 → (⟨41, true, .map (some bm)⟩ : NS).has d := fun d h1 h2 => ⟨h2, fun _ => by omega⟩
    refine wpOps_cons q1 q4 (upon_val (v := .map (some bm)) (w' := w2) (by simp only [execOp, q2, show a2.eval (.tmp 0) = .map (some bm) from st2.sz.2 rfl, Sem.run_pure]) ?_)
    rw [q3]
    have st3 := st2.passed (v := .map (some bm)) (has 13 (by omega) (by omega)) rfl
    have t13 : (a2.put (some 13) (.map (some bm))).eval (.tmp 13) = .map (some bm) := by
      show (a2.put (some 13) _).tmps.getD 13 undef = _
      rw [st2.tmpAt (show 13 < 41 by omega), if_pos rfl]
    have hu : Tryz.prog.underlying 169 = some (.map 107 2) := tt_ok.mp 169 107 2 (by kernel_rfl)
    refine wpOps_cons r1 r4 (upon_val (v := .pointer (some ⟨w2.heap.size, 0, none⟩)) (w' := w2.alloc (.mapIter (some bm) clock #[] clock)) (by simp only [execOp, r2, t13, Sem.run_bind, run_range_map w2 _ _ _ bm es clock hu hb2, Result.andThen_ok, Sem.run_pure]) ?_)
    rw [r3]
    have st4 := st3.iterNew (o := .mapIter (some bm) clock #[] clock) (has 14 (by omega) (by omega)) ⟨_, _, _, _, rfl⟩ rfl
    show Code.wp _ _ _ _ _
    refine wp_block (wp_loop (fun a' w' => ∃ seen ks g, Lp w ba (.map (some bm)) bm w2.heap.size clock es p v m a' w' seen ks g) (fun _ w' => (leftOf es (w'.iterSeen w2.heap.size)).size) ⟨#[], [], g2, st4, A2, List.nodup_nil, fun e he => by simp, fun k hk => (by cases hk)⟩ fun a5 w5 hI => ?_)
    obtain ⟨seen, ks, g5, L⟩ := hI
    refine round103 (v := v) hK hb M st2.inv.size hp hp2 hlk L fun a6 w6 seen6 ks6 g6 L6 all => ?_
    show Code.wp _ _ _ _ _
    obtain ⟨t1, t2, t3⟩ := terms_end (bm := bm) (r := 0) (v := v) M hp hp2 L6.nd L6.src all
    have tl := terms_len (m := m) hp hp2 L6.nd
    have hev := (e103d cf149 p v w2.heap.size (.mapIter (some bm) clock seen6 clock) (termsOf p m ks6))
    rw [g149_ok (by omega) t1 t2, t3] at hev
    have fin : ∀ (env' : Env) (a' : Act) (w' : World) (g' : Gh), endK TT [.cell 6 34] [poly] true false env' = some (sumP p v m, ()) → St ⟨41, true, .map (some bm)⟩ w (fun _ => False) g' env'.get a' w' → g'.al = (fun b => b ∈ ba) → a'.defers = [] ∧ ∃ v, (results Tryz.f199 a'.tmps).run Tryz.prog w' = .ok v w' ∧ After C103 y w ba (.returned v) w' := fun env' a' w' g' e1 e2 e3 =>
      After_of (C := C103) (fn := Tryz.f199) tt_ok e2 e3 (by rw [rs103, ← hxy]; exact e1)
    exact evL_sound (A := fun b => b ∈ ba) (kr := endK TT [.cell 6 34] [poly] true false) mixed tt_ok hK (fun b hb => (by cases hb)) (oke _) ⟨trivial, trivial, trivial⟩ hev L6.st L6.al fin (fun _ _ _ _ _ q => (by cases q)) fin
  · cases hxy
theorem k103 : KOne Tryz.prog 199 C103 := ⟨fun _ => fn199, fun q => (by cases q), fun q => (by cases q), Tryz.f199, Tryz.func199, by decide, rfl⟩
instance decX : DecidableEq ex.den := inferInstanceAs (DecidableEq (Int × Int × Int × Unit))
def coT : List term.den → ex.den → Int
  | [], _ => 0
  | t :: r, e => if t.1 = e then t.2.1 else coT r e
structure CanT (p : Int) (ts : List term.den) : Prop where
  srt : ts.Pairwise fun a b => keyT3 a < keyT3 b
  ok : ∀ t ∈ ts, okX t.1 ∧ (0 : Int) < t.2.1 ∧ t.2.1 < p
theorem CanT.tail {p : Int} {t : term.den} {ts : List term.den} (h : CanT p (t :: ts)) : CanT p ts := ⟨(List.pairwise_cons.1 h.srt).2, fun s hs => h.ok s (.tail _ hs)⟩
theorem coT_none : ∀ {ts : List term.den} {e : ex.den}, (∀ t ∈ ts, t.1 ≠ e) → coT ts e = 0
  | [], _, _ => rfl
  | t :: r, e, h => by
    simp only [coT]; rw [if_neg (h t (.head _))]; exact coT_none fun s hs => h s (.tail _ hs)
theorem key_ne {p : Int} {ts : List term.den} {e : ex.den} (h : ∀ t ∈ ts, keyX e < keyT3 t) : ∀ t ∈ ts, t.1 ≠ e := fun t ht q => by
  have := h t ht
  unfold keyT3 at this; rw [q] at this; omega
theorem coT_head {p : Int} {t : term.den} {ts : List term.den} (h : CanT p (t :: ts)) : coT ts t.1 = 0 := coT_none (key_ne (p := p) fun s hs => (List.pairwise_cons.1 h.srt).1 s hs)
theorem coT_mem {p : Int} : ∀ {ts : List term.den} {t : term.den}, CanT p ts → t ∈ ts → coT ts t.1 = t.2.1
  | s :: r, t, h, ht => by
    simp only [coT]
    rcases List.mem_cons.1 ht with rfl | ht
    · rw [if_pos rfl]
    · have := (List.pairwise_cons.1 h.srt).1 t ht
      rw [if_neg (fun q => by unfold keyT3 at this; rw [q] at this; omega)]
      exact coT_mem h.tail ht
theorem can_unique {p : Int} : ∀ {a b : List term.den}, CanT p a → CanT p b → (∀ e, coT a e = coT b e) → a = b
  | [], [], _, _, _ => rfl
  | [], s :: b, _, hb, h => by
    have := h s.1
    have h2 := (hb.ok s (.head _)).2.1
    have h3 : coT (s :: b) s.1 = s.2.1 := coT_mem hb (.head _)
    rw [h3] at this
    have h4 : coT [] s.1 = 0 := rfl
    rw [h4] at this
    exact absurd (this ▸ h2) (by omega)
  | t :: a, [], ha, _, h => by
    have := h t.1
    have h2 := (ha.ok t (.head _)).2.1
    have h3 : coT (t :: a) t.1 = t.2.1 := coT_mem ha (.head _)
    rw [h3] at this
    have h4 : coT [] t.1 = 0 := rfl
    rw [h4] at this
    exact absurd (this ▸ h2) (by omega)
  | t :: a, s :: b, ha, hb, h => by
    have pt := (ha.ok t (.head _)).2.1
    have ps := (hb.ok s (.head _)).2.1
    have et : coT (t :: a) t.1 = t.2.1 := coT_mem ha (.head _)
    have es : coT (s :: b) s.1 = s.2.1 := coT_mem hb (.head _)
    rcases Int.lt_trichotomy (keyT3 t) (keyT3 s) with q | q | q
    · have : coT (s :: b) t.1 = 0 := coT_none (key_ne (p := p) fun x hx => by
        rcases List.mem_cons.1 hx with rfl | hx
        · exact q
        · exact Int.lt_trans q ((List.pairwise_cons.1 hb.srt).1 x hx))
      have h1 := h t.1
      rw [et, this] at h1
      exact absurd (h1 ▸ pt) (by omega)
    · have e1 : t.1 = s.1 := keyX_inj (ha.ok t (.head _)).1 (hb.ok s (.head _)).1 q
      have e2 : t.2.1 = s.2.1 := by
        have h1 := h t.1
        rw [et, e1, es] at h1; exact h1
      have e3 : t = s := by
        obtain ⟨t1, t2, t3⟩ := t
        obtain ⟨s1, s2, s3⟩ := s
        simp only at e1 e2
        subst e1; subst e2; rfl
      subst e3
      have := can_unique ha.tail hb.tail fun e => by
        by_cases q : t.1 = e
        · subst q; rw [coT_head ha, coT_head hb]
        · have h1 := h e
          simp only [coT, if_neg q] at h1; exact h1
      rw [this]
    · have : coT (t :: a) s.1 = 0 := coT_none (key_ne (p := p) fun x hx => by
        rcases List.mem_cons.1 hx with rfl | hx
        · exact q
        · exact Int.lt_trans q ((List.pairwise_cons.1 ha.srt).1 x hx))
      have h1 := h s.1
      rw [es, this] at h1
      exact absurd (h1 ▸ ps) (by omega)
theorem cN_md {p x : Int} (h1 : 0 < p) (h2 : p ≤ 1000000) : cN p x = x % p := by
  have a := Int.natAbs_tmod x p
  have b : x.natAbs % p.natAbs < p.natAbs := Nat.mod_lt _ (by omega)
  have c : -p < Int.tmod x p ∧ Int.tmod x p < p := by omega
  unfold cN
  rw [w6_i (by omega) (by omega), Int.tmod_eq_emod_of_nonneg (by omega), Int.add_emod_right]
  rcases Int.lt_or_le x 0 with q | q
  · rw [← Int.emod_emod_of_dvd _ (Int.dvd_refl p)]
    have : Int.tmod x p = x - p * Int.tdiv x p := by have := Int.mul_tdiv_add_tmod x p; omega
    rw [this, Int.sub_mul_emod_self_left, Int.emod_emod_of_dvd _ (Int.dvd_refl p)]
  · rw [Int.tmod_eq_emod_of_nonneg q, Int.emod_emod_of_dvd _ (Int.dvd_refl p)]
theorem sumP_can {p v : Int} {m : List (ex.den × i64.den)} (h1 : 0 < p) (h2 : p ≤ 1000000) (hk : ∀ k ∈ lkeys m, okX k) : CanT p (sumP p v m).2.2.1 ∧ ∀ e, coT (sumP p v m).2.2.1 e = (show Int from mget ex i64 m e) % p := by
  have perm : (sortK keyT3 (termsOf p m (lkeys m))).Perm (termsOf p m (lkeys m)) := List.mergeSort_perm _ _
  have ok : ∀ t ∈ termsOf p m (lkeys m), okX t.1 := fun t ht => hk _ (term1_mem.1 ht).1
  have nd : ((termsOf p m (lkeys m)).map keyT3).Nodup := nodup_map_on (f := (·.1)) (fun a ha b hb (e : keyX a.1 = keyX b.1) => keyX_inj (ok a ha) (ok b hb) e) (terms_nodup lkeys_nodup)
  have srt : (sortK keyT3 (termsOf p m (lkeys m))).Pairwise fun a b => keyT3 a ≤ keyT3 b := by
    have := List.pairwise_mergeSort (le := fun a b : term.den => decide (keyT3 a ≤ keyT3 b)) (fun a b c h1 h2 => by simp at *; omega) (fun a b => by simp; omega) (termsOf p m (lkeys m))
    exact this.imp fun h => by simpa using h
  have nd2 : ((sortK keyT3 (termsOf p m (lkeys m))).map keyT3).Nodup := (perm.map keyT3).nodup_iff.2 nd
  have lt : (sortK keyT3 (termsOf p m (lkeys m))).Pairwise fun a b => keyT3 a < keyT3 b := by
    have := List.pairwise_map.1 nd2
    exact (srt.and this).imp fun h => by omega
  have can : CanT p (sortK keyT3 (termsOf p m (lkeys m))) := ⟨lt, fun t ht => by
    have q := perm.mem_iff.1 ht
    obtain ⟨q1, q2, q3⟩ := term1_mem.1 q
    refine ⟨ok t q, ?_⟩
    have e : t.2.1 = cN p (mget ex i64 m t.1) := by rw [q3]
    rw [cN_md h1 h2] at q2 e
    have r1 := Int.emod_nonneg (show Int from mget ex i64 m t.1) (show p ≠ 0 by omega)
    have r2 := Int.emod_lt_of_pos (show Int from mget ex i64 m t.1) h1
    have r3 : (show Int from mget ex i64 m t.1) % p ≠ 0 := q2
    have e' : (show Int from t.2.1) = (show Int from mget ex i64 m t.1) % p := e
    constructor
    · show (0 : Int) < (show Int from t.2.1); omega
    · show (show Int from t.2.1) < p; omega⟩
  refine ⟨can, fun e => ?_⟩
  show coT (sortK keyT3 (termsOf p m (lkeys m))) e = _
  by_cases hc : cN p (mget ex i64 m e) = 0
  · rw [coT_none fun t ht q => by
      have := (term1_mem.1 (perm.mem_iff.1 ht)).2.1
      rw [q] at this; exact this hc]
    rw [cN_md h1 h2] at hc
    exact hc.symm
  · have hk' : e ∈ lkeys m := by
      by_cases q : e ∈ lkeys m
      · exact q
      · rw [mget_none q] at hc; exact absurd (cN_zero h1 h2) hc
    have mem : ((e, cN p (mget ex i64 m e), ()) : term.den) ∈ sortK keyT3 (termsOf p m (lkeys m)) := perm.mem_iff.2 (term1_mem.2 ⟨hk', hc, rfl⟩)
    have := coT_mem can mem
    rw [show coT (sortK keyT3 (termsOf p m (lkeys m))) e = cN p (mget ex i64 m e) from this]
    exact cN_md h1 h2
def goP (e : ex.den) (c : Int) : Bool → List term.den → List term.den
  | d, [] => bif d then [] else [(e, c, ())]
  | d, t :: r => (bif !d && decide (keyX e < keyT3 t) then [(e, c, ())] else []) ++ ((if t.1 = e then [] else [t]) ++ goP e c (d || decide (keyX e < keyT3 t)) r)
theorem key_neq {e : ex.den} {t : term.den} (h : keyX e < keyT3 t) : t.1 ≠ e := fun q => by unfold keyT3 at h; rw [q] at h; omega
theorem goP_true {e : ex.den} {c : Int} : ∀ ts : List term.den, goP e c true ts = ts.filter fun t => decide (t.1 ≠ e)
  | [] => rfl
  | t :: r => by
    simp only [goP, Bool.not_true, Bool.false_and, cond_false, Bool.true_or, goP_true r, List.nil_append, List.filter_cons]
    by_cases q : t.1 = e <;> simp [q]
theorem goP_past {e : ex.den} {c : Int} : ∀ {ts : List term.den}, (∀ t ∈ ts, keyX e < keyT3 t) → goP e c false ts = (e, c, ()) :: ts
  | [], _ => rfl
  | t :: r, h => by
    have h1 := h t (.head _)
    have h2 : (t :: r).filter (fun t => decide (t.1 ≠ e)) = t :: r := List.filter_eq_self.2 fun s hs => by simpa using key_neq (h s hs)
    have h3 : r.filter (fun t => decide (t.1 ≠ e)) = r := List.filter_eq_self.2 fun s hs => by simpa using key_neq (h s (.tail _ hs))
    simp only [goP, Bool.not_false, Bool.true_and, Bool.false_or, decide_eq_true h1, cond_true, goP_true, h3, if_neg (key_neq h1)]
    rfl
theorem coT_filter {e : ex.den} : ∀ (ts : List term.den) (e' : ex.den), coT (ts.filter fun t => decide (t.1 ≠ e)) e' = if e' = e then 0 else coT ts e'
  | [], e' => by simp [coT]
  | t :: r, e' => by
    rw [List.filter_cons]
    by_cases q : t.1 = e
    · simp only [q, ne_eq, not_true_eq_false, decide_false, Bool.false_eq_true, if_false, coT_filter r e']
      by_cases z : e' = e
      · simp [z]
      · simp only [if_neg z, coT, q, if_neg (fun w => z w.symm : ¬ e = e')]
    · simp only [ne_eq, q, not_false_eq_true, decide_true, if_true, coT, coT_filter r e']
      by_cases z : t.1 = e'
      · rw [if_pos z, if_neg (fun w => q (z.trans w)), if_pos z]
      · rw [if_neg z, if_neg z]
theorem CanT.filter {p : Int} {ts : List term.den} (h : CanT p ts) (f : term.den → Bool) : CanT p (ts.filter f) := ⟨h.srt.sublist List.filter_sublist, fun t ht => h.ok t (List.mem_filter.1 ht).1⟩
theorem goP_false {p : Int} {e : ex.den} {c : Int} (he : okX e) (hc : 0 < c ∧ c < p) : ∀ {ts : List term.den}, CanT p ts → CanT p (goP e c false ts) ∧ (∀ e', coT (goP e c false ts) e' = if e' = e then c else coT ts e') ∧ ∀ s ∈ goP e c false ts, s = (e, c, ()) ∨ s ∈ ts
  | [], _ => ⟨⟨List.pairwise_singleton _ _, fun t ht => by
      have : t = (e, c, ()) := by simpa [goP] using ht
      subst this; exact ⟨he, hc⟩⟩, fun e' => by
      show coT [(e, c, ())] e' = _
      simp only [coT]
      by_cases z : e' = e
      · rw [if_pos z.symm, if_pos z]
      · rw [if_neg (fun w => z w.symm), if_neg z], fun s hs => .inl (by simpa [goP] using hs)⟩
  | t :: r, h => by
    have past : ∀ {l : List term.den}, CanT p l → (∀ s ∈ l, keyX e < keyT3 s) → CanT p ((e, c, ()) :: l) := fun hl hk => ⟨List.pairwise_cons.2 ⟨hk, hl.srt⟩, fun s hs => by
      rcases List.mem_cons.1 hs with rfl | hs
      · exact ⟨he, hc⟩
      · exact hl.ok s hs⟩
    have hr := (List.pairwise_cons.1 h.srt).1
    by_cases q : keyX e < keyT3 t
    · have all : ∀ s ∈ t :: r, keyX e < keyT3 s := fun s hs => by
        rcases List.mem_cons.1 hs with rfl | hs
        · exact q
        · exact Int.lt_trans q (hr s hs)
      rw [goP_past all]
      refine ⟨past h all, fun e' => ?_, fun s hs => ?_⟩
      · by_cases z : e' = e
        · rw [if_pos z]; show (if e = e' then c else _) = c; rw [if_pos z.symm]
        · rw [if_neg z]; show (if e = e' then c else _) = _; rw [if_neg (fun w => z w.symm)]
      · exact List.mem_cons.1 hs
    · have e0 : goP e c false (t :: r) = (if t.1 = e then [] else [t]) ++ goP e c false r := by
        simp only [goP, Bool.not_false, Bool.true_and, Bool.false_or, decide_eq_false q, cond_false, List.nil_append]
      rw [e0]
      by_cases z : t.1 = e
      · have all : ∀ s ∈ r, keyX e < keyT3 s := fun s hs => by have := hr s hs; unfold keyT3 at this ⊢; rw [z] at this; exact this
        rw [if_pos z, List.nil_append, goP_past all]
        refine ⟨past h.tail all, fun e' => ?_, fun s hs => ?_⟩
        · by_cases w : e' = e
          · rw [if_pos w]; show (if e = e' then c else _) = c; rw [if_pos w.symm]
          · rw [if_neg w]; show (if e = e' then c else coT r e') = coT (t :: r) e'
            rw [if_neg (fun q => w q.symm)]; simp only [coT, z]; rw [if_neg (fun q => w q.symm)]
        · rcases List.mem_cons.1 hs with rfl | hs
          · exact .inl rfl
          · exact .inr (.tail _ hs)
      · rw [if_neg z]
        obtain ⟨i1, i2, i3⟩ := goP_false he hc h.tail
        have kt : keyT3 t < keyX e := by
          rcases Int.lt_trichotomy (keyT3 t) (keyX e) with w | w | w
          · exact w
          · exact absurd (keyX_inj (h.ok t (.head _)).1 he w) z
          · exact absurd w q
        refine ⟨⟨List.pairwise_cons.2 ⟨fun s hs => ?_, i1.srt⟩, fun s hs => ?_⟩, fun e' => ?_, fun s hs => ?_⟩
        · rcases i3 s hs with rfl | hs
          · exact kt
          · exact hr s hs
        · rcases List.mem_cons.1 hs with rfl | hs
          · exact h.ok _ (.head _)
          · exact i1.ok s hs
        · show (if t.1 = e' then t.2.1 else coT (goP e c false r) e') = if e' = e then c else (if t.1 = e' then t.2.1 else coT r e')
          rw [i2 e']
          by_cases w : t.1 = e'
          · rw [if_pos w, if_pos w, if_neg (fun q => z (w.trans q))]
          · rw [if_neg w, if_neg w]
        · rcases List.mem_cons.1 hs with rfl | hs
          · exact .inr (.head _)
          · exact (i3 s hs).imp id (.tail _)
def putP (p : Int) (ts : List term.den) (e : ex.den) (x : Int) : List term.den := goP e ((x + coT ts e) % p) (decide ((x + coT ts e) % p = 0)) ts
theorem putP_can {p : Int} {ts : List term.den} {e : ex.den} {x : Int} (hp : 0 < p) (h : CanT p ts) (he : okX e) : CanT p (putP p ts e x) ∧ ∀ e', coT (putP p ts e x) e' = if e' = e then (x + coT ts e) % p else coT ts e' := by
  have r1 := Int.emod_nonneg (x + coT ts e) (show p ≠ 0 by omega)
  have r2 := Int.emod_lt_of_pos (x + coT ts e) hp
  unfold putP
  by_cases q : (x + coT ts e) % p = 0
  · rw [decide_eq_true q, goP_true]
    exact ⟨h.filter _, fun e' => by rw [coT_filter, q]⟩
  · rw [decide_eq_false q]
    obtain ⟨a, b, _⟩ := goP_false he ⟨by omega, r2⟩ h
    exact ⟨a, b⟩
abbrev R223 : Type := Ress [.slice 2 i64]
abbrev G223 : Type := Args [.v (.slice 2 i64)] → Option R223
def cf91 : G223 := fun x => if x.1.length ≤ 1000000 then some (x.1, ()) else none
theorem k91 : KOne Tryz.prog 223 ⟨[.v (.slice 2 i64)], [.slice 2 i64], true, false, 0, cf91⟩ := by
  refine ⟨fun _ => ?_, fun q => (by cases q), fun q => (by cases q), Tryz.f223, Tryz.func223, by decide, rfl⟩
  intro x y hxy w vs ba hv
  obtain ⟨l, _⟩ := x
  simp only [cf91] at hxy
  split at hxy
  · rename_i hc
    injection hxy with hxy; subst hxy
    have st0 := init_St (n := 8) hv (by decide)
    refine calls_of_wp Tryz.func223 rfl (wp_seq ?_)
    refine evL_sound (T := TT) (K := []) (H := []) (LT := ([] : LTab Env)) (A := fun b => b ∈ ba) (W := fun _ => False) (y := [(0, .val false [.fz (.slice 2 i64) 0 true l]), (2, .val false [.rt 2 i64 33 false true true []])]) (kn := some) (kx := fun _ _ => none) (kr := fun _ => none) mixed tt_ok KOK.nil (fun b hb => (by cases hb)) (by kernel_rfl) (by exact trivial) (by kernel_rfl) st0 rfl (fun env' a' w' g' q1 q2 q3 => ?_) (fun _ _ _ _ _ q => (by cases q)) (fun _ _ _ _ q => (by cases q))
    injection q1 with q1; subst q1
    have he : EntR g' w'.heap 0 (.val false [.fz (.slice 2 i64) 0 true l]) (a'.tmps.getD 0 undef) := q2.ent 0
    obtain ⟨bs, hl, hcc⟩ := val1 he
    obtain ⟨⟨hd, blk, bs', h1, h2, h3⟩, _⟩ := hl
    injection h1 with h1 _; subst h1
    obtain ⟨b, hb, hn⟩ : ∃ b : Bool, (∀ (o : Oper) (a : Act), o.op = .binOp .eql 44 (.tmp 3) (.const (.slice none 0 0)) 44 → a.tmps.getD 3 undef = a'.tmps.getD 0 undef → (execOp a.eval o).run Tryz.prog w' = .ok (.value (.bool b)) w') ∧ (b = true → l = []) := by
      generalize a'.tmps.getD 0 undef = v at h2
      obtain ⟨p, len, cap, rfl, hp⟩ : ∃ p len cap, v = .slice p len cap ∧ (p = none → l = []) := by
        rcases h2 with ⟨p, rfl, q, _⟩ | ⟨b, o, cap, c, fr, rfl, _⟩
        · exact ⟨p, 0, 0, rfl, fun _ => q⟩
        · exact ⟨_, _, _, rfl, fun q => (by cases q)⟩
      refine ⟨p.isNone, fun o a ho ha => ?_, fun q => hp (by cases p with | none => rfl | some _ => cases q)⟩
      have eq : (Op.equal 44 (.slice p len cap) (.slice none 0 0)).run Tryz.prog w' = .ok p.isNone w' := by
        have one : ∀ d, (Op.equalIn (d + 1) 44 (.slice p len cap) (.slice none 0 0)).run Tryz.prog w' = .ok p.isNone w' := fun d => by
          have hu := (tt_ok 44 (.slice 2 i64) (by kernel_rfl)).und
          cases p <;> simp only [Op.equalIn, Sem.run_bind, run_underlying hu.1, Result.andThen_ok, Sem.run_pure] <;> rfl
        exact one 9999
      have e1 : a.eval (.tmp 3) = .slice p len cap := ha
      have e2 : a.eval (.const (.slice none 0 0)) = .slice none 0 0 := rfl
      have run : (eqGuard .eql 44 (.tmp 3) (.const (.slice none 0 0)) (.slice p len cap) (.slice none 0 0)).run Tryz.prog w' = .ok () w' := by simp [eqGuard, Result.andThen]
      simp only [execOp, ho, e1, e2, Sem.run_bind, run, Sem.run_pure, Result.andThen_ok, binOp, eq]
    refine wp_seq (wp_seq (wp_region ?_))
    have st1 := St.putA q2 (d := 3) (e := .dead) (v := a'.tmps.getD 0 undef) ⟨by decide, fun q => (by cases q)⟩ trivial
    have st2 := St.putA st1 (d := 4) (e := boolE b) (v := .bool b) ⟨by decide, fun q => (by cases q)⟩ (boolE_sound (s := 4))
    refine .inl (upon_val (v := a'.tmps.getD 0 undef) (w' := w') rfl ?_)
    refine .inl (upon_val (v := .bool b) (w' := w') (hb _ _ rfl ?_) ?_)
    · show (a'.put (some 3) (a'.tmps.getD 0 undef)).tmps.getD 3 undef = _
      have sz := q2.sz.1
      simp only [Act.put]
      rw [Array.getD_eq_getD_getElem?, Array.getElem?_setIfInBounds_self_of_lt (by rw [sz]; decide)]; rfl
    · have hev : ((a'.put (some 3) (a'.tmps.getD 0 undef)).put (some 4) (.bool b)).eval (.tmp 4) = .bool b := by
        have : EntR g' w'.heap 4 (boolE b) (((a'.put (some 3) (a'.tmps.getD 0 undef)).put (some 4) (.bool b)).tmps.getD 4 undef) := by
          have z := st2.ent 4
          rw [show upd (upd (Env.get [(0, .val false [.fz (.slice 2 i64) 0 true l]), (2, .val false [.rt 2 i64 33 false true true []])]) 3 .dead) 4 (boolE b) 4 = boolE b from if_pos rfl] at z
          exact z
        obtain ⟨bs4, hl4, _⟩ := val1 this
        obtain ⟨⟨z, _⟩, _⟩ := hl4
        injection z
      refine wp_cond (t := b) hev ?_
      cases b with
      | true =>
        have hl0 : l = [] := hn rfl
        subst hl0
        have ee : upd (upd (Env.get [(0, .val false [.fz (.slice 2 i64) 0 true []]), (2, .val false [.rt 2 i64 33 false true true []])]) 3 .dead) 4 (boolE true) = Env.get [(0, .val false [.fz (.slice 2 i64) 0 true []]), (2, .val false [.rt 2 i64 33 false true true []]), (4, boolE true)] := by
          funext s
          simp only [upd]
          match s with
          | 0 | 1 | 2 | 3 | 4 => rfl
          | s + 5 => rfl
        rw [ee] at st2
        exact evL_sound (T := TT) (K := []) (H := []) (LT := ([] : LTab (Ress [.slice 2 i64]))) (A := fun b => b ∈ ba) (W := fun _ => False) (y := ([], ())) (kn := fun _ => none) (kx := fun _ _ => none) (kr := endK TT [.tmp 2] [.slice 2 i64] true false) mixed tt_ok KOK.nil (fun b hb => (by cases hb)) (by kernel_rfl) (by exact ⟨trivial, trivial⟩) (by kernel_rfl) st2 q3 (fun _ _ _ _ q => (by cases q)) (fun _ _ _ _ _ q => (by cases q)) (fun env' a' w' g' q1 q2 q3 => After_of (C := ⟨[.v (.slice 2 i64)], [.slice 2 i64], true, false, 0, cf91⟩) tt_ok q2 q3 q1)
      | false =>
        have ee : upd (upd (Env.get [(0, .val false [.fz (.slice 2 i64) 0 true l]), (2, .val false [.rt 2 i64 33 false true true []])]) 3 .dead) 4 (boolE false) = Env.get [(0, .val false [.fz (.slice 2 i64) 0 true l]), (2, .val false [.rt 2 i64 33 false true true []]), (4, boolE false)] := by
          funext s
          simp only [upd]
          match s with
          | 0 | 1 | 2 | 3 | 4 => rfl
          | s + 5 => rfl
        rw [ee] at st2
        refine wp_skip ?_
        have hg : growOk 0 l.length = true := decide_eq_true (by omega)
        exact evL_sound (T := TT) (K := []) (H := []) (LT := ([] : LTab (Ress [.slice 2 i64]))) (A := fun b => b ∈ ba) (W := fun _ => False) (y := (l, ())) (kn := fun _ => none) (kx := fun _ _ => none) (kr := endK TT [.tmp 2] [.slice 2 i64] true false) mixed tt_ok KOK.nil (fun b hb => (by cases hb)) (by kernel_rfl) (by exact ⟨trivial, trivial⟩) ((show _ = (bif growOk 0 l.length then some (l, ()) else none) by kernel_rfl).trans (by rw [hg]; rfl)) st2 q3 (fun _ _ _ _ q => (by cases q)) (fun _ _ _ _ _ q => (by cases q)) (fun env' a' w' g' q1 q2 q3 => After_of (C := ⟨[.v (.slice 2 i64)], [.slice 2 i64], true, false, 0, cf91⟩) tt_ok q2 q3 q1)
  · cases hxy
abbrev R225 : Type := Ress [.slice 44 (.slice 2 i64)]
abbrev G225 : Type := Args [.v (.slice 44 (.slice 2 i64)), .fn 226] → Option R225
abbrev R219 : Type := Ress [i64]
abbrev G219 : Type := Args [.v i64, .v i64] → Option R219
abbrev kp219 : List (Nat × List Nat) := [(0, [1, 0]), (1, [4])]
abbrev ct219 : CTab := []
def fn219 (F : Nat) (x : Args [.v i64, .v i64]) : Option R219 :=
  match x with
  | (x0, x1, _) => (bif (!decide (x0 = (0 : Int))) then (bif (!decide (x0 = (0 : Int))) then (some ((Int.tmod (w6 ((Int.tmod x1 x0) + x0)) x0), ())) else none) else none)
theorem ev219 (F : Nat) (x : Args [.v i64, .v i64]) : fnK TT (ct219 ) kp219 [i64] [] (bodyOf Tryz.f219) [.tmp 4] [.v i64, .v i64] false false x = fn219 F x := by
  obtain ⟨x0, x1, _⟩ := x
  kernel_rfl
theorem ok219 (hK : KOK Tryz.prog (ct219 )) (cf : G219) (h : ∀ x y, cf x = some y → ∃ F, fn219 F x = some y) : KOne Tryz.prog 219 ⟨[.v i64, .v i64], [i64], false, false, 0, cf⟩ :=
  fn_one rfl (c := bodyOf Tryz.f219) mixed tt_ok hK Tryz.func219 (by kernel_rfl) (by kernel_rfl) (Nat.le_of_ble_eq_true (by kernel_rfl)) (by decide) fun x y hxy => by
    obtain ⟨F, hF⟩ := h x y hxy
    exact ⟨[], LTOK_by (l := []) (by kernel_rfl) trivial, (ev219 F x).trans hF⟩
abbrev R159 : Type := Ress [i64]
abbrev G159 : Type := Args [.v i64, .v i64] → Option R159
abbrev kp159 : List (Nat × List Nat) := [(0, [0, 1]), (1, [5, 0, 1]), (2, [8, 1, 0, 5]), (4, [18, 1, 0, 5]), (5, [4]), (3, [5, 0, 1]), (6, [4])]
abbrev ct159 (g219 : G219) : CTab := [(219, ⟨[.v i64, .v i64], [i64], false, false, 0, g219⟩)]
abbrev kr159 : Env → Option R159 := endK TT [.tmp 4] [i64] false false
abbrev sh159_2 : Shape := [(0, vv i64), (1, vv i64), (5, vv i64)]
def st159_2 (g219 : G219) (F : Nat) (s : ShVal sh159_2) (k kx : ShVal sh159_2 → Option R159) : Option R159 :=
  match s with
  | ((t0, _), (t1, _), (t5, _), _) => (bif decide (t5 < t0) then (match (g219 (t0, (t1, ()))) with | some r10 => (bif (!decide (t0 = (0 : Int))) then (bif decide ((Int.tmod (w6 (t5 * r10.1)) t0) = (1 : Int)) then (some (t5, ())) else k ((t0, ()), ((t1, ()), (((w6 (t5 + (1 : Int))), ()), ())))) else none) | none => none) else kx ((t0, ()), ((t1, ()), ((t5, ()), ()))))
def ru159_2 (g219 : G219) (F : Nat) (s : ShVal sh159_2) (kx : ShVal sh159_2 → Option R159) : Option R159 := iter (fun s k => st159_2 g219 F s k kx) F s
abbrev ls159_2 (g219 : G219) (F : Nat) : LS R159 := ⟨sh159_2, 0, ru159_2 g219 F⟩
def fn159 (g219 : G219) (F : Nat) (x : Args [.v i64, .v i64]) : Option R159 :=
  match x with
  | (x0, x1, _) => (ru159_2 g219 F ((x0, ()), ((x1, ()), (((1 : Int), ()), ()))) (fun s' => match s' with | ((t0, _), (t1, _), (t5, _), _) => (some ((0 : Int), ()))))
theorem ev159_2 (g219 : G219) (F : Nat) (s : ShVal sh159_2) (k kx : ShVal sh159_2 → Option R159) : evL TT (ct159 g219 ) kp159 [] (loopOf Tryz.f159 2) (envOf sh159_2 s) (fitK sh159_2 k) (fun j e => bif Nat.beq j 0 then fitK sh159_2 kx e else none) kr159 = st159_2 g219 F s k kx := by
  obtain ⟨⟨t0, _⟩, ⟨t1, _⟩, ⟨t5, _⟩, _⟩ := s
  kernel_rfl
theorem ok159_2 (g219 : G219) (F : Nat) (hK : KOK Tryz.prog (ct159 g219 )) : LSOK Tryz.prog ⟨20, false, undef⟩ (ls159_2 g219 F) (loopOf Tryz.f159 2) kr159 :=
  loop_ok (st159_2 g219 F) mixed tt_ok hK (by kernel_rfl) (LTOK_by (l := []) (by kernel_rfl) trivial) (ev159_2 g219 F)
theorem ev159 (g219 : G219) (F : Nat) (x : Args [.v i64, .v i64]) : fnK TT (ct159 g219 ) kp159 [i64] [(2, ls159_2 g219 F)] (bodyOf Tryz.f159) [.tmp 4] [.v i64, .v i64] false false x = fn159 g219 F x := by
  obtain ⟨x0, x1, _⟩ := x
  kernel_rfl
theorem ok159 (g219 : G219) (hK : KOK Tryz.prog (ct159 g219 )) (cf : G159) (h : ∀ x y, cf x = some y → ∃ F, fn159 g219 F x = some y) : KOne Tryz.prog 159 ⟨[.v i64, .v i64], [i64], false, false, 0, cf⟩ :=
  fn_one rfl (c := bodyOf Tryz.f159) mixed tt_ok hK Tryz.func159 (by kernel_rfl) (by kernel_rfl) (Nat.le_of_ble_eq_true (by kernel_rfl)) (by decide) fun x y hxy => by
    obtain ⟨F, hF⟩ := h x y hxy
    exact ⟨[(2, ls159_2 g219 F)], LTOK_by (l := [loopOf Tryz.f159 2]) (by kernel_rfl) ⟨ls_at (by kernel_rfl) (ok159_2 g219 F hK), trivial⟩, (ev159 g219 F x).trans hF⟩
abbrev R131 : Type := Ress [.bool]
abbrev G131 : Type := Args [.v i64, .v i64, .v i64] → Option R131
abbrev kp131 : List (Nat × List Nat) := [(0, [1, 0, 2]), (1, [6])]
abbrev ct131 : CTab := []
def fn131 (F : Nat) (x : Args [.v i64, .v i64, .v i64]) : Option R131 :=
  match x with
  | (x0, x1, x2, _) => (bif decide (x1 ≤ x0) then (some ((bif true then decide (x0 ≤ x2) else false), ())) else (some (false, ())))
theorem ev131 (F : Nat) (x : Args [.v i64, .v i64, .v i64]) : fnK TT (ct131 ) kp131 [.bool] [] (bodyOf Tryz.f131) [.tmp 6] [.v i64, .v i64, .v i64] false false x = fn131 F x := by
  obtain ⟨x0, x1, x2, _⟩ := x
  kernel_rfl
theorem ok131 (hK : KOK Tryz.prog (ct131 )) (cf : G131) (h : ∀ x y, cf x = some y → ∃ F, fn131 F x = some y) : KOne Tryz.prog 131 ⟨[.v i64, .v i64, .v i64], [.bool], false, false, 0, cf⟩ :=
  fn_one rfl (c := bodyOf Tryz.f131) mixed tt_ok hK Tryz.func131 (by kernel_rfl) (by kernel_rfl) (Nat.le_of_ble_eq_true (by kernel_rfl)) (by decide) fun x y hxy => by
    obtain ⟨F, hF⟩ := h x y hxy
    exact ⟨[], LTOK_by (l := []) (by kernel_rfl) trivial, (ev131 F x).trans hF⟩
abbrev R155 : Type := Ress [.bool]
abbrev G155 : Type := Args [.v i64] → Option R155
abbrev kp155 : List (Nat × List Nat) := [(0, [0]), (1, [2])]
abbrev ct155 : CTab := []
def fn155 (F : Nat) (x : Args [.v i64]) : Option R155 :=
  match x with
  | (x0, _) => (bif decide (x0 = (2 : Int)) then (some (true, ())) else (bif (bif false then true else decide (x0 = (3 : Int))) then (some (true, ())) else (bif (bif false then true else decide (x0 = (5 : Int))) then (some (true, ())) else (bif (bif false then true else decide (x0 = (7 : Int))) then (some (true, ())) else (bif (bif false then true else decide (x0 = (11 : Int))) then (some (true, ())) else (some ((bif false then true else decide (x0 = (13 : Int))), ())))))))
theorem ev155 (F : Nat) (x : Args [.v i64]) : fnK TT (ct155 ) kp155 [.bool] [] (bodyOf Tryz.f155) [.tmp 2] [.v i64] false false x = fn155 F x := by
  obtain ⟨x0, _⟩ := x
  kernel_rfl
theorem ok155 (hK : KOK Tryz.prog (ct155 )) (cf : G155) (h : ∀ x y, cf x = some y → ∃ F, fn155 F x = some y) : KOne Tryz.prog 155 ⟨[.v i64], [.bool], false, false, 0, cf⟩ :=
  fn_one rfl (c := bodyOf Tryz.f155) mixed tt_ok hK Tryz.func155 (by kernel_rfl) (by kernel_rfl) (Nat.le_of_ble_eq_true (by kernel_rfl)) (by decide) fun x y hxy => by
    obtain ⟨F, hF⟩ := h x y hxy
    exact ⟨[], LTOK_by (l := []) (by kernel_rfl) trivial, (ev155 F x).trans hF⟩
abbrev R165 : Type := Ress [.bool]
abbrev G165 : Type := Args [.v i64] → Option R165
abbrev kp165 : List (Nat × List Nat) := [(0, [0]), (1, [2])]
abbrev ct165 : CTab := []
def fn165 (F : Nat) (x : Args [.v i64]) : Option R165 :=
  match x with
  | (x0, _) => (bif decide (x0 = (2 : Int)) then (some (true, ())) else (bif (bif false then true else decide (x0 = (3 : Int))) then (some (true, ())) else (bif (bif false then true else decide (x0 = (5 : Int))) then (some (true, ())) else (bif (bif false then true else decide (x0 = (7 : Int))) then (some (true, ())) else (bif (bif false then true else decide (x0 = (11 : Int))) then (some (true, ())) else (some ((bif false then true else decide (x0 = (13 : Int))), ())))))))
theorem ev165 (F : Nat) (x : Args [.v i64]) : fnK TT (ct165 ) kp165 [.bool] [] (bodyOf Tryz.f165) [.tmp 2] [.v i64] false false x = fn165 F x := by
  obtain ⟨x0, _⟩ := x
  kernel_rfl
theorem ok165 (hK : KOK Tryz.prog (ct165 )) (cf : G165) (h : ∀ x y, cf x = some y → ∃ F, fn165 F x = some y) : KOne Tryz.prog 165 ⟨[.v i64], [.bool], false, false, 0, cf⟩ :=
  fn_one rfl (c := bodyOf Tryz.f165) mixed tt_ok hK Tryz.func165 (by kernel_rfl) (by kernel_rfl) (Nat.le_of_ble_eq_true (by kernel_rfl)) (by decide) fun x y hxy => by
    obtain ⟨F, hF⟩ := h x y hxy
    exact ⟨[], LTOK_by (l := []) (by kernel_rfl) trivial, (ev165 F x).trans hF⟩
abbrev R166 : Type := Ress [.bool]
abbrev G166 : Type := Args [.v i64] → Option R166
abbrev kp166 : List (Nat × List Nat) := [(0, [0]), (1, [2])]
abbrev ct166 : CTab := []
def fn166 (F : Nat) (x : Args [.v i64]) : Option R166 :=
  match x with
  | (x0, _) => (bif decide ((1 : Int) ≤ x0) then (some ((bif true then decide (x0 ≤ (3 : Int)) else false), ())) else (some (false, ())))
theorem ev166 (F : Nat) (x : Args [.v i64]) : fnK TT (ct166 ) kp166 [.bool] [] (bodyOf Tryz.f166) [.tmp 2] [.v i64] false false x = fn166 F x := by
  obtain ⟨x0, _⟩ := x
  kernel_rfl
theorem ok166 (hK : KOK Tryz.prog (ct166 )) (cf : G166) (h : ∀ x y, cf x = some y → ∃ F, fn166 F x = some y) : KOne Tryz.prog 166 ⟨[.v i64], [.bool], false, false, 0, cf⟩ :=
  fn_one rfl (c := bodyOf Tryz.f166) mixed tt_ok hK Tryz.func166 (by kernel_rfl) (by kernel_rfl) (Nat.le_of_ble_eq_true (by kernel_rfl)) (by decide) fun x y hxy => by
    obtain ⟨F, hF⟩ := h x y hxy
    exact ⟨[], LTOK_by (l := []) (by kernel_rfl) trivial, (ev166 F x).trans hF⟩
abbrev R162 : Type := Ress [(.slice 2 i64)]
abbrev G162 : Type := Args [.v (.slice 2 i64)] → Option R162
abbrev kp162 : List (Nat × List Nat) := [(0, [0]), (1, [2])]
abbrev ct162 : CTab := []
def fn162 (F : Nat) (x : Args [.v (.slice 2 i64)]) : Option R162 :=
  match x with
  | (x0, _) => (bif (growOk (0 : Nat) (List.length x0)) then (some (([] ++ x0), ())) else none)
theorem ev162 (F : Nat) (x : Args [.v (.slice 2 i64)]) : fnK TT (ct162 ) kp162 [(.slice 2 i64)] [] (bodyOf Tryz.f162) [.tmp 2] [.v (.slice 2 i64)] true false x = fn162 F x := by
  obtain ⟨x0, _⟩ := x
  kernel_rfl
theorem ok162 (hK : KOK Tryz.prog (ct162 )) (cf : G162) (h : ∀ x y, cf x = some y → ∃ F, fn162 F x = some y) : KOne Tryz.prog 162 ⟨[.v (.slice 2 i64)], [(.slice 2 i64)], true, false, 0, cf⟩ :=
  fn_one rfl (c := bodyOf Tryz.f162) mixed tt_ok hK Tryz.func162 (by kernel_rfl) (by kernel_rfl) (Nat.le_of_ble_eq_true (by kernel_rfl)) (by decide) fun x y hxy => by
    obtain ⟨F, hF⟩ := h x y hxy
    exact ⟨[], LTOK_by (l := []) (by kernel_rfl) trivial, (ev162 F x).trans hF⟩
abbrev R87 : Type := Ress [i64]
abbrev G87 : Type := Args [.v (.slice 2 i64)] → Option R87
abbrev kp87 : List (Nat × List Nat) := [(0, [0]), (1, [3, 0]), (2, [7, 0, 3]), (4, [14, 0, 3]), (5, [2]), (3, [3, 0]), (6, [2])]
abbrev ct87 : CTab := []
abbrev kr87 : Env → Option R87 := endK TT [.tmp 2] [i64] false false
abbrev sh87_2 : Shape := [(0, .val false [.fz (.slice 2 i64) 0 true]), (3, vv i64)]
def st87_2 (F : Nat) (s : ShVal sh87_2) (k kx : ShVal sh87_2 → Option R87) : Option R87 :=
  match s with
  | ((t0, _), (t3, _), _) => (bif decide ((List.length t0) ≤ 9223372036854775807) then (bif decide (t3 < (Int.ofNat (List.length t0))) then (bif ib t3 (Int.ofNat (List.length t0)) then (bif (!decide ((List.getD t0 (tn t3) (0 : Int)) = (0 : Int))) then (some (t3, ())) else k ((t0, ()), (((w6 (t3 + (1 : Int))), ()), ()))) else none) else kx ((t0, ()), ((t3, ()), ()))) else none)
def ru87_2 (F : Nat) (s : ShVal sh87_2) (kx : ShVal sh87_2 → Option R87) : Option R87 := iter (fun s k => st87_2 F s k kx) F s
abbrev ls87_2 (F : Nat) : LS R87 := ⟨sh87_2, 0, ru87_2 F⟩
def fn87 (F : Nat) (x : Args [.v (.slice 2 i64)]) : Option R87 :=
  match x with
  | (x0, _) => (ru87_2 F ((x0, ()), (((0 : Int), ()), ())) (fun s' => match s' with | ((t0, _), (t3, _), _) => (some ((-(1 : Int)), ()))))
theorem ev87_2 (F : Nat) (s : ShVal sh87_2) (k kx : ShVal sh87_2 → Option R87) : evL TT (ct87 ) kp87 [] (loopOf Tryz.f87 2) (envOf sh87_2 s) (fitK sh87_2 k) (fun j e => bif Nat.beq j 0 then fitK sh87_2 kx e else none) kr87 = st87_2 F s k kx := by
  obtain ⟨⟨t0, _⟩, ⟨t3, _⟩, _⟩ := s
  kernel_rfl
theorem ok87_2 (F : Nat) (hK : KOK Tryz.prog (ct87 )) : LSOK Tryz.prog ⟨16, false, undef⟩ (ls87_2 F) (loopOf Tryz.f87 2) kr87 :=
  loop_ok (st87_2 F) mixed tt_ok hK (by kernel_rfl) (LTOK_by (l := []) (by kernel_rfl) trivial) (ev87_2 F)
theorem ev87 (F : Nat) (x : Args [.v (.slice 2 i64)]) : fnK TT (ct87 ) kp87 [i64] [(2, ls87_2 F)] (bodyOf Tryz.f87) [.tmp 2] [.v (.slice 2 i64)] false false x = fn87 F x := by
  obtain ⟨x0, _⟩ := x
  kernel_rfl
theorem ok87 (hK : KOK Tryz.prog (ct87 )) (cf : G87) (h : ∀ x y, cf x = some y → ∃ F, fn87 F x = some y) : KOne Tryz.prog 87 ⟨[.v (.slice 2 i64)], [i64], false, false, 0, cf⟩ :=
  fn_one rfl (c := bodyOf Tryz.f87) mixed tt_ok hK Tryz.func87 (by kernel_rfl) (by kernel_rfl) (Nat.le_of_ble_eq_true (by kernel_rfl)) (by decide) fun x y hxy => by
    obtain ⟨F, hF⟩ := h x y hxy
    exact ⟨[(2, ls87_2 F)], LTOK_by (l := [loopOf Tryz.f87 2]) (by kernel_rfl) ⟨ls_at (by kernel_rfl) (ok87_2 F hK), trivial⟩, (ev87 F x).trans hF⟩
abbrev R160 : Type := Ress [(.slice 2 i64)]
abbrev G160 : Type := Args [.v i64, .v (.slice 2 i64), .v (.slice 2 i64), .v i64] → Option R160
abbrev kp160 : List (Nat × List Nat) := [(0, [2, 3, 1, 0]), (1, [2, 3, 1, 0, 9]), (2, [10, 2, 3, 1, 0, 9]), (3, [15, 9, 10, 2, 3, 1, 0]), (5, [10, 2, 3, 1, 0, 9]), (4, [10, 2, 3, 1, 0, 9]), (6, [8])]
abbrev ct160 (g219 : G219) : CTab := [(219, ⟨[.v i64, .v i64], [i64], false, false, 0, g219⟩)]
abbrev kr160 : Env → Option R160 := endK TT [.tmp 8] [(.slice 2 i64)] true false
abbrev sh160_3 : Shape := [(0, vv i64), (1, .val false [.fz (.slice 2 i64) 0 true]), (2, .val false [.fz (.slice 2 i64) 0 true]), (3, vv i64), (9, vr 2 i64 145 false), (10, vv i64)]
def st160_3 (g219 : G219) (F : Nat) (s : ShVal sh160_3) (k kx : ShVal sh160_3 → Option R160) : Option R160 :=
  match s with
  | ((t0, _), (t1, _), (t2, _), (t3, _), (t9, _), (t10, _), _) => (bif decide ((List.length t1) ≤ 9223372036854775807) then (bif decide (t10 < (Int.ofNat (List.length t1))) then (bif ib t10 (Int.ofNat (List.length t1)) then (bif ib t10 (Int.ofNat (List.length t2)) then (match (g219 (t0, ((w6 ((List.getD t1 (tn t10) (0 : Int)) - (w6 (t3 * (List.getD t2 (tn t10) (0 : Int)))))), ()))) with | some r16 => (bif (growOk (List.length t9) (List.length (r16.1 :: []))) then k ((t0, ()), ((t1, ()), ((t2, ()), ((t3, ()), (((t9 ++ (r16.1 :: [])), ()), (((w6 (t10 + (1 : Int))), ()), ())))))) else none) | none => none) else none) else none) else kx ((t0, ()), ((t1, ()), ((t2, ()), ((t3, ()), ((t9, ()), ((t10, ()), ()))))))) else none)
def ru160_3 (g219 : G219) (F : Nat) (s : ShVal sh160_3) (kx : ShVal sh160_3 → Option R160) : Option R160 := iter (fun s k => st160_3 g219 F s k kx) F s
abbrev ls160_3 (g219 : G219) (F : Nat) : LS R160 := ⟨sh160_3, 0, ru160_3 g219 F⟩
def fn160 (g219 : G219) (F : Nat) (x : Args [.v i64, .v (.slice 2 i64), .v (.slice 2 i64), .v i64]) : Option R160 :=
  match x with
  | (x0, x1, x2, x3, _) => (ru160_3 g219 F ((x0, ()), ((x1, ()), ((x2, ()), ((x3, ()), (([], ()), (((0 : Int), ()), ())))))) (fun s' => match s' with | ((t0, _), (t1, _), (t2, _), (t3, _), (t9, _), (t10, _), _) => (some (t9, ()))))
theorem ev160_3 (g219 : G219) (F : Nat) (s : ShVal sh160_3) (k kx : ShVal sh160_3 → Option R160) : evL TT (ct160 g219 ) kp160 [] (loopOf Tryz.f160 3) (envOf sh160_3 s) (fitK sh160_3 k) (fun j e => bif Nat.beq j 0 then fitK sh160_3 kx e else none) kr160 = st160_3 g219 F s k kx := by
  obtain ⟨⟨t0, _⟩, ⟨t1, _⟩, ⟨t2, _⟩, ⟨t3, _⟩, ⟨t9, _⟩, ⟨t10, _⟩, _⟩ := s
  kernel_rfl
theorem ok160_3 (g219 : G219) (F : Nat) (hK : KOK Tryz.prog (ct160 g219 )) : LSOK Tryz.prog ⟨35, false, undef⟩ (ls160_3 g219 F) (loopOf Tryz.f160 3) kr160 :=
  loop_ok (st160_3 g219 F) mixed tt_ok hK (by kernel_rfl) (LTOK_by (l := []) (by kernel_rfl) trivial) (ev160_3 g219 F)
theorem ev160 (g219 : G219) (F : Nat) (x : Args [.v i64, .v (.slice 2 i64), .v (.slice 2 i64), .v i64]) : fnK TT (ct160 g219 ) kp160 [(.slice 2 i64)] [(3, ls160_3 g219 F)] (bodyOf Tryz.f160) [.tmp 8] [.v i64, .v (.slice 2 i64), .v (.slice 2 i64), .v i64] true false x = fn160 g219 F x := by
  obtain ⟨x0, x1, x2, x3, _⟩ := x
  kernel_rfl
theorem ok160 (g219 : G219) (hK : KOK Tryz.prog (ct160 g219 )) (cf : G160) (h : ∀ x y, cf x = some y → ∃ F, fn160 g219 F x = some y) : KOne Tryz.prog 160 ⟨[.v i64, .v (.slice 2 i64), .v (.slice 2 i64), .v i64], [(.slice 2 i64)], true, false, 0, cf⟩ :=
  fn_one rfl (c := bodyOf Tryz.f160) mixed tt_ok hK Tryz.func160 (by kernel_rfl) (by kernel_rfl) (Nat.le_of_ble_eq_true (by kernel_rfl)) (by decide) fun x y hxy => by
    obtain ⟨F, hF⟩ := h x y hxy
    exact ⟨[(3, ls160_3 g219 F)], LTOK_by (l := [loopOf Tryz.f160 3]) (by kernel_rfl) ⟨ls_at (by kernel_rfl) (ok160_3 g219 F hK), trivial⟩, (ev160 g219 F x).trans hF⟩
abbrev R88 : Type := Ress [(.slice 2 i64)]
abbrev G88 : Type := Args [.v i64, .v (.slice 44 (.slice 2 i64)), .v (.slice 2 i64)] → Option R88
abbrev kp88 : List (Nat × List Nat) := [(0, [2, 1, 0]), (1, [1, 7, 0]), (2, [8, 1, 7, 0]), (3, [15, 7, 8, 1, 0]), (5, [7, 9, 8, 1, 0]), (6, [27, 7, 9, 8, 1, 0]), (7, [8, 1, 7, 0]), (4, [8, 1, 7, 0]), (8, [6])]
abbrev ct88 (g162 : G162) (g160 : G160) (g87 : G87) : CTab := [(162, ⟨[.v (.slice 2 i64)], [(.slice 2 i64)], true, false, 0, g162⟩), (160, ⟨[.v i64, .v (.slice 2 i64), .v (.slice 2 i64), .v i64], [(.slice 2 i64)], true, false, 0, g160⟩), (87, ⟨[.v (.slice 2 i64)], [i64], false, false, 0, g87⟩)]
abbrev kr88 : Env → Option R88 := endK TT [.tmp 6] [(.slice 2 i64)] true false
abbrev sh88_3 : Shape := [(0, vv i64), (1, .val false [.fz (.slice 44 (.slice 2 i64)) 0 true]), (7, vr 2 i64 113 false), (8, vv i64)]
def st88_3 (g162 : G162) (g160 : G160) (g87 : G87) (F : Nat) (s : ShVal sh88_3) (k kx : ShVal sh88_3 → Option R88) : Option R88 :=
  match s with
  | ((t0, _), (t1, _), (t7, _), (t8, _), _) => (bif decide ((List.length t1) ≤ 9223372036854775807) then (bif decide (t8 < (Int.ofNat (List.length t1))) then (bif ib t8 (Int.ofNat (List.length t1)) then (match (g87 ((List.getD t1 (tn t8) []), ())) with | some r16 => (bif ib r16.1 (Int.ofNat (List.length t7)) then (bif (!decide ((List.getD t7 (tn r16.1) (0 : Int)) = (0 : Int))) then (bif ib t8 (Int.ofNat (List.length t1)) then (match (g160 (t0, (t7, ((List.getD t1 (tn t8) []), ((List.getD t7 (tn r16.1) (0 : Int)), ()))))) with | some r19 => k ((t0, ()), ((t1, ()), ((r19.1, ()), (((w6 (t8 + (1 : Int))), ()), ())))) | none => none) else none) else k ((t0, ()), ((t1, ()), ((t7, ()), (((w6 (t8 + (1 : Int))), ()), ()))))) else none) | none => none) else none) else kx ((t0, ()), ((t1, ()), ((t7, ()), ((t8, ()), ()))))) else none)
def ru88_3 (g162 : G162) (g160 : G160) (g87 : G87) (F : Nat) (s : ShVal sh88_3) (kx : ShVal sh88_3 → Option R88) : Option R88 := iter (fun s k => st88_3 g162 g160 g87 F s k kx) F s
abbrev ls88_3 (g162 : G162) (g160 : G160) (g87 : G87) (F : Nat) : LS R88 := ⟨sh88_3, 0, ru88_3 g162 g160 g87 F⟩
def fn88 (g162 : G162) (g160 : G160) (g87 : G87) (F : Nat) (x : Args [.v i64, .v (.slice 44 (.slice 2 i64)), .v (.slice 2 i64)]) : Option R88 :=
  match x with
  | (x0, x1, x2, _) => (match (g162 (x2, ())) with | some r8 => (ru88_3 g162 g160 g87 F ((x0, ()), ((x1, ()), ((r8.1, ()), (((0 : Int), ()), ())))) (fun s' => match s' with | ((t0, _), (t1, _), (t7, _), (t8, _), _) => (some (t7, ())))) | none => none)
theorem ev88_3 (g162 : G162) (g160 : G160) (g87 : G87) (F : Nat) (s : ShVal sh88_3) (k kx : ShVal sh88_3 → Option R88) : evL TT (ct88 g162 g160 g87 ) kp88 [] (loopOf Tryz.f88 3) (envOf sh88_3 s) (fitK sh88_3 k) (fun j e => bif Nat.beq j 0 then fitK sh88_3 kx e else none) kr88 = st88_3 g162 g160 g87 F s k kx := by
  obtain ⟨⟨t0, _⟩, ⟨t1, _⟩, ⟨t7, _⟩, ⟨t8, _⟩, _⟩ := s
  kernel_rfl
theorem ok88_3 (g162 : G162) (g160 : G160) (g87 : G87) (F : Nat) (hK : KOK Tryz.prog (ct88 g162 g160 g87 )) : LSOK Tryz.prog ⟨37, false, undef⟩ (ls88_3 g162 g160 g87 F) (loopOf Tryz.f88 3) kr88 :=
  loop_ok (st88_3 g162 g160 g87 F) mixed tt_ok hK (by kernel_rfl) (LTOK_by (l := []) (by kernel_rfl) trivial) (ev88_3 g162 g160 g87 F)
theorem ev88 (g162 : G162) (g160 : G160) (g87 : G87) (F : Nat) (x : Args [.v i64, .v (.slice 44 (.slice 2 i64)), .v (.slice 2 i64)]) : fnK TT (ct88 g162 g160 g87 ) kp88 [(.slice 2 i64)] [(3, ls88_3 g162 g160 g87 F)] (bodyOf Tryz.f88) [.tmp 6] [.v i64, .v (.slice 44 (.slice 2 i64)), .v (.slice 2 i64)] true false x = fn88 g162 g160 g87 F x := by
  obtain ⟨x0, x1, x2, _⟩ := x
  kernel_rfl
theorem ok88 (g162 : G162) (g160 : G160) (g87 : G87) (hK : KOK Tryz.prog (ct88 g162 g160 g87 )) (cf : G88) (h : ∀ x y, cf x = some y → ∃ F, fn88 g162 g160 g87 F x = some y) : KOne Tryz.prog 88 ⟨[.v i64, .v (.slice 44 (.slice 2 i64)), .v (.slice 2 i64)], [(.slice 2 i64)], true, false, 0, cf⟩ :=
  fn_one rfl (c := bodyOf Tryz.f88) mixed tt_ok hK Tryz.func88 (by kernel_rfl) (by kernel_rfl) (Nat.le_of_ble_eq_true (by kernel_rfl)) (by decide) fun x y hxy => by
    obtain ⟨F, hF⟩ := h x y hxy
    exact ⟨[(3, ls88_3 g162 g160 g87 F)], LTOK_by (l := [loopOf Tryz.f88 3]) (by kernel_rfl) ⟨ls_at (by kernel_rfl) (ok88_3 g162 g160 g87 F hK), trivial⟩, (ev88 g162 g160 g87 F x).trans hF⟩
abbrev R85 : Type := Ress [(.slice 44 (.slice 2 i64))]
abbrev G85 : Type := Args [.v i64, .v (.slice 44 (.slice 2 i64))] → Option R85
abbrev kp85 : List (Nat × List Nat) := [(0, [0, 1]), (1, [0, 5, 1]), (2, [6, 0, 5, 1]), (3, [18, 6, 0, 5, 1]), (5, [7, 6, 0, 5, 1]), (6, [8, 7, 6, 0, 5, 1]), (7, [31, 8, 7, 6, 0, 5, 1]), (8, [0, 9, 7, 8, 5, 6, 1]), (9, [10, 0, 9, 7, 8, 5, 6, 1]), (10, [41, 10, 0, 9, 7, 8, 5, 6, 1]), (12, [10, 0, 9, 7, 8, 5, 6, 1]), (11, [10, 0, 9, 7, 8, 5, 6, 1]), (13, [8, 5, 7, 0, 11, 12, 6, 1]), (14, [13, 8, 5, 7, 0, 11, 12, 6, 1]), (15, [59, 12, 11, 13, 8, 5, 7, 0, 6, 1]), (17, [72, 12, 11, 13, 8, 5, 7, 0, 6, 1]), (18, [11, 13, 8, 5, 7, 0, 6, 1]), (19, [11, 13, 8, 5, 7, 0, 12, 6, 1]), (20, [13, 8, 5, 7, 0, 11, 12, 6, 1]), (16, [13, 8, 5, 7, 0, 11, 12, 6, 1]), (21, [95, 11, 7, 6, 0, 1]), (22, [11, 6, 0, 1]), (23, [6, 0, 5, 1]), (4, [6, 0, 5, 1]), (24, [4])]
abbrev ct85 (g87 : G87) (g159 : G159) (g160 : G160) (g88 : G88) : CTab := [(87, ⟨[.v (.slice 2 i64)], [i64], false, false, 0, g87⟩), (159, ⟨[.v i64, .v i64], [i64], false, false, 0, g159⟩), (160, ⟨[.v i64, .v (.slice 2 i64), .v (.slice 2 i64), .v i64], [(.slice 2 i64)], true, false, 0, g160⟩), (88, ⟨[.v i64, .v (.slice 44 (.slice 2 i64)), .v (.slice 2 i64)], [(.slice 2 i64)], true, false, 0, g88⟩)]
abbrev kr85 : Env → Option R85 := endK TT [.tmp 4] [(.slice 44 (.slice 2 i64))] false false
abbrev sh85_10 : Shape := [(0, vv i64), (1, .val false [.fz (.slice 44 (.slice 2 i64)) 0 true]), (5, .val false [.rt 44 (.slice 2 i64) 81 false false false]), (6, vv i64), (7, vr 2 i64 113 false), (8, vv i64), (9, vv i64), (10, vv i64)]
def st85_10 (g87 : G87) (g159 : G159) (g160 : G160) (g88 : G88) (F : Nat) (s : ShVal sh85_10) (k kx : ShVal sh85_10 → Option R85) : Option R85 :=
  match s with
  | ((t0, _), (t1, _), (t5, _), (t6, _), (t7, _), (t8, _), (t9, _), (t10, _), _) => (bif decide ((List.length t7) ≤ 9223372036854775807) then (bif decide (t10 < (Int.ofNat (List.length t7))) then (bif ib t10 (Int.ofNat (List.length t7)) then (bif (!decide (t0 = (0 : Int))) then (bif ib t10 (Int.ofNat (List.length t7)) then k ((t0, ()), ((t1, ()), ((t5, ()), ((t6, ()), (((List.set t7 (tn t10) (Int.tmod (w6 ((List.getD t7 (tn t10) (0 : Int)) * t9)) t0)), ()), ((t8, ()), ((t9, ()), (((w6 (t10 + (1 : Int))), ()), ())))))))) else none) else none) else none) else kx ((t0, ()), ((t1, ()), ((t5, ()), ((t6, ()), ((t7, ()), ((t8, ()), ((t9, ()), ((t10, ()), ()))))))))) else none)
def ru85_10 (g87 : G87) (g159 : G159) (g160 : G160) (g88 : G88) (F : Nat) (s : ShVal sh85_10) (kx : ShVal sh85_10 → Option R85) : Option R85 := iter (fun s k => st85_10 g87 g159 g160 g88 F s k kx) F s
abbrev ls85_10 (g87 : G87) (g159 : G159) (g160 : G160) (g88 : G88) (F : Nat) : LS R85 := ⟨sh85_10, 2, ru85_10 g87 g159 g160 g88 F⟩
abbrev sh85_15 : Shape := [(0, vv i64), (1, .val false [.fz (.slice 44 (.slice 2 i64)) 0 true]), (5, .val false [.rt 44 (.slice 2 i64) 81 false false false]), (6, vv i64), (7, vv (.slice 2 i64)), (8, vv i64), (11, .val false [.rt 44 (.slice 2 i64) 177 false false false]), (12, vv .bool), (13, vv i64)]
def st85_15 (g87 : G87) (g159 : G159) (g160 : G160) (g88 : G88) (F : Nat) (s : ShVal sh85_15) (k kx : ShVal sh85_15 → Option R85) : Option R85 :=
  match s with
  | ((t0, _), (t1, _), (t5, _), (t6, _), (t7, _), (t8, _), (t11, _), (t12, _), (t13, _), _) => (bif decide ((List.length t5) ≤ 9223372036854775807) then (bif decide (t13 < (Int.ofNat (List.length t5))) then (bif (!t12) then (bif ib t13 (Int.ofNat (List.length t5)) then (match (g87 ((List.getD t5 (tn t13) []), ())) with | some r43 => (bif (bif true then decide (t8 < r43.1) else false) then (bif (growOk (List.length t11) (List.length (t7 :: []))) then (bif ib t13 (Int.ofNat (List.length t5)) then (bif ib t13 (Int.ofNat (List.length t5)) then (bif ib t8 (Int.ofNat (List.length (List.getD t5 (tn t13) []))) then (match (g160 (t0, ((List.getD t5 (tn t13) []), (t7, ((List.getD (List.getD t5 (tn t13) []) (tn t8) (0 : Int)), ()))))) with | some r47 => (bif (growOk (List.length (t11 ++ (t7 :: []))) (List.length (r47.1 :: []))) then k ((t0, ()), ((t1, ()), ((t5, ()), ((t6, ()), ((t7, ()), ((t8, ()), ((((t11 ++ (t7 :: [])) ++ (r47.1 :: [])), ()), ((true, ()), (((w6 (t13 + (1 : Int))), ()), ()))))))))) else none) | none => none) else none) else none) else none) else none) else (bif ib t13 (Int.ofNat (List.length t5)) then (bif ib t13 (Int.ofNat (List.length t5)) then (bif ib t8 (Int.ofNat (List.length (List.getD t5 (tn t13) []))) then (match (g160 (t0, ((List.getD t5 (tn t13) []), (t7, ((List.getD (List.getD t5 (tn t13) []) (tn t8) (0 : Int)), ()))))) with | some r45 => (bif (growOk (List.length t11) (List.length (r45.1 :: []))) then k ((t0, ()), ((t1, ()), ((t5, ()), ((t6, ()), ((t7, ()), ((t8, ()), (((t11 ++ (r45.1 :: [])), ()), ((t12, ()), (((w6 (t13 + (1 : Int))), ()), ()))))))))) else none) | none => none) else none) else none) else none)) | none => none) else none) else (bif ib t13 (Int.ofNat (List.length t5)) then (bif ib t13 (Int.ofNat (List.length t5)) then (bif ib t8 (Int.ofNat (List.length (List.getD t5 (tn t13) []))) then (match (g160 (t0, ((List.getD t5 (tn t13) []), (t7, ((List.getD (List.getD t5 (tn t13) []) (tn t8) (0 : Int)), ()))))) with | some r44 => (bif (growOk (List.length t11) (List.length (r44.1 :: []))) then k ((t0, ()), ((t1, ()), ((t5, ()), ((t6, ()), ((t7, ()), ((t8, ()), (((t11 ++ (r44.1 :: [])), ()), ((t12, ()), (((w6 (t13 + (1 : Int))), ()), ()))))))))) else none) | none => none) else none) else none) else none)) else kx ((t0, ()), ((t1, ()), ((t5, ()), ((t6, ()), ((t7, ()), ((t8, ()), ((t11, ()), ((t12, ()), ((t13, ()), ())))))))))) else none)
def ru85_15 (g87 : G87) (g159 : G159) (g160 : G160) (g88 : G88) (F : Nat) (s : ShVal sh85_15) (kx : ShVal sh85_15 → Option R85) : Option R85 := iter (fun s k => st85_15 g87 g159 g160 g88 F s k kx) F s
abbrev ls85_15 (g87 : G87) (g159 : G159) (g160 : G160) (g88 : G88) (F : Nat) : LS R85 := ⟨sh85_15, 4, ru85_15 g87 g159 g160 g88 F⟩
abbrev sh85_3 : Shape := [(0, vv i64), (1, .val false [.fz (.slice 44 (.slice 2 i64)) 0 true]), (5, .val false [.rt 44 (.slice 2 i64) 81 false false false]), (6, vv i64)]
def st85_3 (g87 : G87) (g159 : G159) (g160 : G160) (g88 : G88) (F : Nat) (s : ShVal sh85_3) (k kx : ShVal sh85_3 → Option R85) : Option R85 :=
  match s with
  | ((t0, _), (t1, _), (t5, _), (t6, _), _) => (bif decide ((List.length t1) ≤ 9223372036854775807) then (bif decide (t6 < (Int.ofNat (List.length t1))) then (bif ib t6 (Int.ofNat (List.length t1)) then (match (g88 (t0, (t5, ((List.getD t1 (tn t6) []), ())))) with | some r15 => (match (g87 (r15.1, ())) with | some r17 => (bif decide (r17.1 < (0 : Int)) then k ((t0, ()), ((t1, ()), ((t5, ()), (((w6 (t6 + (1 : Int))), ()), ())))) else (bif ib r17.1 (Int.ofNat (List.length r15.1)) then (match (g159 (t0, ((List.getD r15.1 (tn r17.1) (0 : Int)), ()))) with | some r20 => (ru85_10 g87 g159 g160 g88 F ((t0, ()), ((t1, ()), ((t5, ()), ((t6, ()), ((r15.1, ()), ((r17.1, ()), ((r20.1, ()), (((0 : Int), ()), ())))))))) (fun s' => match s' with | ((t0, _), (t1, _), (t5, _), (t6, _), (t7, _), (t8, _), (t9, _), (t10, _), _) => (ru85_15 g87 g159 g160 g88 F ((t0, ()), ((t1, ()), ((t5, ()), ((t6, ()), ((t7, ()), ((t8, ()), (([], ()), ((false, ()), (((0 : Int), ()), ()))))))))) (fun s' => match s' with | ((t0, _), (t1, _), (t5, _), (t6, _), (t7, _), (t8, _), (t11, _), (t12, _), (t13, _), _) => (bif (!t12) then (bif (growOk (List.length t11) (List.length (t7 :: []))) then k ((t0, ()), ((t1, ()), (((t11 ++ (t7 :: [])), ()), (((w6 (t6 + (1 : Int))), ()), ())))) else none) else k ((t0, ()), ((t1, ()), ((t11, ()), (((w6 (t6 + (1 : Int))), ()), ()))))))))) | none => none) else none)) | none => none) | none => none) else none) else kx ((t0, ()), ((t1, ()), ((t5, ()), ((t6, ()), ()))))) else none)
def ru85_3 (g87 : G87) (g159 : G159) (g160 : G160) (g88 : G88) (F : Nat) (s : ShVal sh85_3) (kx : ShVal sh85_3 → Option R85) : Option R85 := iter (fun s k => st85_3 g87 g159 g160 g88 F s k kx) F s
abbrev ls85_3 (g87 : G87) (g159 : G159) (g160 : G160) (g88 : G88) (F : Nat) : LS R85 := ⟨sh85_3, 0, ru85_3 g87 g159 g160 g88 F⟩
def fn85 (g87 : G87) (g159 : G159) (g160 : G160) (g88 : G88) (F : Nat) (x : Args [.v i64, .v (.slice 44 (.slice 2 i64))]) : Option R85 :=
  match x with
  | (x0, x1, _) => (ru85_3 g87 g159 g160 g88 F ((x0, ()), ((x1, ()), (([], ()), (((0 : Int), ()), ())))) (fun s' => match s' with | ((t0, _), (t1, _), (t5, _), (t6, _), _) => (some (t5, ()))))
theorem ev85_10 (g87 : G87) (g159 : G159) (g160 : G160) (g88 : G88) (F : Nat) (s : ShVal sh85_10) (k kx : ShVal sh85_10 → Option R85) : evL TT (ct85 g87 g159 g160 g88 ) kp85 [] (loopOf Tryz.f85 10) (envOf sh85_10 s) (fitK sh85_10 k) (fun j e => bif Nat.beq j 2 then fitK sh85_10 kx e else none) kr85 = st85_10 g87 g159 g160 g88 F s k kx := by
  obtain ⟨⟨t0, _⟩, ⟨t1, _⟩, ⟨t5, _⟩, ⟨t6, _⟩, ⟨t7, _⟩, ⟨t8, _⟩, ⟨t9, _⟩, ⟨t10, _⟩, _⟩ := s
  kernel_rfl
theorem ok85_10 (g87 : G87) (g159 : G159) (g160 : G160) (g88 : G88) (F : Nat) (hK : KOK Tryz.prog (ct85 g87 g159 g160 g88 )) : LSOK Tryz.prog ⟨102, false, undef⟩ (ls85_10 g87 g159 g160 g88 F) (loopOf Tryz.f85 10) kr85 :=
  loop_ok (st85_10 g87 g159 g160 g88 F) mixed tt_ok hK (by kernel_rfl) (LTOK_by (l := []) (by kernel_rfl) trivial) (ev85_10 g87 g159 g160 g88 F)
theorem ev85_15 (g87 : G87) (g159 : G159) (g160 : G160) (g88 : G88) (F : Nat) (s : ShVal sh85_15) (k kx : ShVal sh85_15 → Option R85) : evL TT (ct85 g87 g159 g160 g88 ) kp85 [] (loopOf Tryz.f85 15) (envOf sh85_15 s) (fitK sh85_15 k) (fun j e => bif Nat.beq j 4 then fitK sh85_15 kx e else none) kr85 = st85_15 g87 g159 g160 g88 F s k kx := by
  obtain ⟨⟨t0, _⟩, ⟨t1, _⟩, ⟨t5, _⟩, ⟨t6, _⟩, ⟨t7, _⟩, ⟨t8, _⟩, ⟨t11, _⟩, ⟨t12, _⟩, ⟨t13, _⟩, _⟩ := s
  kernel_rfl
theorem ok85_15 (g87 : G87) (g159 : G159) (g160 : G160) (g88 : G88) (F : Nat) (hK : KOK Tryz.prog (ct85 g87 g159 g160 g88 )) : LSOK Tryz.prog ⟨102, false, undef⟩ (ls85_15 g87 g159 g160 g88 F) (loopOf Tryz.f85 15) kr85 :=
  loop_ok (st85_15 g87 g159 g160 g88 F) mixed tt_ok hK (by kernel_rfl) (LTOK_by (l := []) (by kernel_rfl) trivial) (ev85_15 g87 g159 g160 g88 F)
theorem ev85_3 (g87 : G87) (g159 : G159) (g160 : G160) (g88 : G88) (F : Nat) (s : ShVal sh85_3) (k kx : ShVal sh85_3 → Option R85) : evL TT (ct85 g87 g159 g160 g88 ) kp85 [(10, ls85_10 g87 g159 g160 g88 F), (15, ls85_15 g87 g159 g160 g88 F)] (loopOf Tryz.f85 3) (envOf sh85_3 s) (fitK sh85_3 k) (fun j e => bif Nat.beq j 0 then fitK sh85_3 kx e else none) kr85 = st85_3 g87 g159 g160 g88 F s k kx := by
  obtain ⟨⟨t0, _⟩, ⟨t1, _⟩, ⟨t5, _⟩, ⟨t6, _⟩, _⟩ := s
  kernel_rfl
theorem ok85_3 (g87 : G87) (g159 : G159) (g160 : G160) (g88 : G88) (F : Nat) (hK : KOK Tryz.prog (ct85 g87 g159 g160 g88 )) : LSOK Tryz.prog ⟨102, false, undef⟩ (ls85_3 g87 g159 g160 g88 F) (loopOf Tryz.f85 3) kr85 :=
  loop_ok (st85_3 g87 g159 g160 g88 F) mixed tt_ok hK (by kernel_rfl) (LTOK_by (l := [loopOf Tryz.f85 10, loopOf Tryz.f85 15]) (by kernel_rfl) ⟨ls_at (by kernel_rfl) (ok85_10 g87 g159 g160 g88 F hK), ⟨ls_at (by kernel_rfl) (ok85_15 g87 g159 g160 g88 F hK), trivial⟩⟩) (ev85_3 g87 g159 g160 g88 F)
theorem ev85 (g87 : G87) (g159 : G159) (g160 : G160) (g88 : G88) (F : Nat) (x : Args [.v i64, .v (.slice 44 (.slice 2 i64))]) : fnK TT (ct85 g87 g159 g160 g88 ) kp85 [(.slice 44 (.slice 2 i64))] [(3, ls85_3 g87 g159 g160 g88 F)] (bodyOf Tryz.f85) [.tmp 4] [.v i64, .v (.slice 44 (.slice 2 i64))] false false x = fn85 g87 g159 g160 g88 F x := by
  obtain ⟨x0, x1, _⟩ := x
  kernel_rfl
theorem ok85 (g87 : G87) (g159 : G159) (g160 : G160) (g88 : G88) (hK : KOK Tryz.prog (ct85 g87 g159 g160 g88 )) (cf : G85) (h : ∀ x y, cf x = some y → ∃ F, fn85 g87 g159 g160 g88 F x = some y) : KOne Tryz.prog 85 ⟨[.v i64, .v (.slice 44 (.slice 2 i64))], [(.slice 44 (.slice 2 i64))], false, false, 0, cf⟩ :=
  fn_one rfl (c := bodyOf Tryz.f85) mixed tt_ok hK Tryz.func85 (by kernel_rfl) (by kernel_rfl) (Nat.le_of_ble_eq_true (by kernel_rfl)) (by decide) fun x y hxy => by
    obtain ⟨F, hF⟩ := h x y hxy
    exact ⟨[(3, ls85_3 g87 g159 g160 g88 F)], LTOK_by (l := [loopOf Tryz.f85 3]) (by kernel_rfl) ⟨ls_at (by kernel_rfl) (ok85_3 g87 g159 g160 g88 F hK), trivial⟩, (ev85 g87 g159 g160 g88 F x).trans hF⟩
def isP (p : Int) : Bool := decide (p = 2) || (decide (p = 3) || (decide (p = 5) || (decide (p = 7) || (decide (p = 11) || decide (p = 13)))))
theorem isP_cases {p : Int} (h : isP p = true) : p = 2 ∨ p = 3 ∨ p = 5 ∨ p = 7 ∨ p = 11 ∨ p = 13 := by
  simpa [isP] using h
theorem isP_pos {p : Int} (h : isP p = true) : 2 ≤ p ∧ p ≤ 13 := by
  have := isP_cases h; omega
def invA (p r : Int) : Nat → Int → Int
  | 0, _ => 0
  | f + 1, k => if k < p then (if k * r % p = 1 then k else invA p r f (k + 1)) else 0
def inv (p x : Int) : Int := invA p (x % p) 13 1
theorem invA_all : ∀ p ∈ [(2 : Int), 3, 5, 7, 11, 13], ∀ r : Fin 13, (r.val : Int) < p → 0 < r.val → (1 ≤ invA p r.val 13 1 ∧ invA p r.val 13 1 < p) ∧ r.val * invA p r.val 13 1 % p = 1 := by decide
theorem inv_ok {p x : Int} (hp : isP p = true) (hx : x % p ≠ 0) : (1 ≤ inv p x ∧ inv p x < p) ∧ x * inv p x % p = 1 := by
  have h2 := isP_pos hp
  have h3 := Int.emod_nonneg x (show p ≠ 0 by omega)
  have h4 := Int.emod_lt_of_pos x (show 0 < p by omega)
  have hm : p ∈ [(2 : Int), 3, 5, 7, 11, 13] := by have := isP_cases hp; simp; exact this
  obtain ⟨r, hr⟩ := Int.eq_ofNat_of_zero_le h3
  have h13 : r < 13 := by omega
  have := invA_all p hm ⟨r, h13⟩ (by simp; omega) (by simp; omega)
  simp only at this
  unfold inv
  have e1 : (r : Int) = x % p := hr.symm
  rw [e1] at this
  refine ⟨this.1, ?_⟩
  have h5 := this.2
  rw [Int.mul_emod, Int.emod_emod_of_dvd _ (Int.dvd_refl p), ← Int.mul_emod] at h5
  exact h5
abbrev el (r : List Int) (i : Nat) : Int := r.getD i 0
def ld : List Int → Nat
  | [] => 0
  | a :: r => if a = 0 then ld r + 1 else 0
theorem el_cons_zero (a : Int) (r : List Int) : el (a :: r) 0 = a := by simp [el]
theorem el_cons_succ (a : Int) (r : List Int) (i : Nat) : el (a :: r) (i + 1) = el r i := by simp [el]
theorem el_ge {r : List Int} {i : Nat} (h : r.length ≤ i) : el r i = 0 := by
  simp [el, List.getD_eq_getElem?_getD, List.getElem?_eq_none h]
theorem ld_le : ∀ r : List Int, ld r ≤ r.length
  | [] => Nat.le_refl _
  | a :: r => by
    simp only [ld]; have := ld_le r
    split <;> simp <;> omega
theorem ld_zero : ∀ (r : List Int) (i : Nat), i < ld r → el r i = 0
  | [], i, h => by simp [ld] at h
  | a :: r, i, h => by
    simp only [ld] at h
    split at h
    · rename_i ha
      cases i with
      | zero => rw [el_cons_zero]; exact ha
      | succ i => rw [el_cons_succ]; exact ld_zero r i (by omega)
    · omega
theorem ld_ne : ∀ (r : List Int), ld r < r.length → el r (ld r) ≠ 0
  | [], h => by simp [ld] at h
  | a :: r, h => by
    simp only [ld] at h ⊢
    split
    · rename_i ha
      rw [if_pos ha] at h
      rw [el_cons_succ]; exact ld_ne r (by simpa using h)
    · rename_i ha; rw [el_cons_zero]; exact ha
theorem ld_min {r : List Int} {i : Nat} (h : el r i ≠ 0) : ld r ≤ i := by
  rcases Nat.lt_or_ge i (ld r) with q | q
  · exact absurd (ld_zero r i q) h
  · exact q
theorem ld_lt {r : List Int} {i : Nat} (h : el r i ≠ 0) : ld r < r.length := by
  have h1 := ld_min h
  rcases Nat.lt_or_ge i r.length with q | q
  · omega
  · exact absurd (el_ge q) h
theorem ld_eq {r : List Int} {i : Nat} (h : el r i ≠ 0) (h0 : ∀ j, j < i → el r j = 0) : ld r = i := by
  have h1 := ld_min h
  rcases Nat.lt_or_ge (ld r) i with q | q
  · exact absurd (h0 _ q) (ld_ne r (ld_lt h))
  · omega
theorem row_ext {a b : List Int} (hl : a.length = b.length) (h : ∀ i, el a i = el b i) : a = b := by
  refine List.ext_getElem hl fun i h1 h2 => ?_
  have := h i
  simpa [el, List.getD_eq_getElem?_getD, List.getElem?_eq_getElem h1, List.getElem?_eq_getElem h2] using this
def subm (p k : Int) (r o : List Int) : List Int := List.zipWith (fun a b => (a - k * b) % p) r o
def scl (p c : Int) (r : List Int) : List Int := r.map fun a => a * c % p
theorem subm_len {p k : Int} {r o : List Int} (h : r.length = o.length) : (subm p k r o).length = r.length := by simp [subm, h]
theorem scl_len {p c : Int} {r : List Int} : (scl p c r).length = r.length := by simp [scl]
theorem el_subm {p k : Int} {r o : List Int} (h : r.length = o.length) (i : Nat) : el (subm p k r o) i = (el r i - k * el o i) % p := by
  rcases Nat.lt_or_ge i r.length with q | q
  · simp [el, subm, List.getD_eq_getElem?_getD, List.getElem?_zipWith, List.getElem?_eq_getElem q, List.getElem?_eq_getElem (show i < o.length by omega)]
  · rw [el_ge q, el_ge (show o.length ≤ i by omega), el_ge (by rw [subm_len h]; exact q)]; simp
theorem el_scl {p c : Int} {r : List Int} (i : Nat) : el (scl p c r) i = el r i * c % p := by
  rcases Nat.lt_or_ge i r.length with q | q
  · simp [el, scl, List.getD_eq_getElem?_getD, List.getElem?_eq_getElem q]
  · rw [el_ge q, el_ge (by rw [scl_len]; exact q)]; simp
structure Can (p : Int) (m : Nat) (r : List Int) : Prop where
  len : r.length = m
  rng : ∀ i, 0 ≤ el r i ∧ el r i < p
theorem Can.mod {p : Int} {m : Nat} {r : List Int} (h : Can p m r) (i : Nat) : el r i % p = el r i := Int.emod_eq_of_lt (h.rng i).1 (h.rng i).2
theorem Can.subm {p k : Int} {m : Nat} {r o : List Int} (hp : 0 < p) (h1 : r.length = m) (h2 : o.length = m) : Can p m (subm p k r o) :=
  ⟨by rw [subm_len (by omega)]; exact h1, fun i => by rw [el_subm (by omega)]; exact ⟨Int.emod_nonneg _ (by omega), Int.emod_lt_of_pos _ hp⟩⟩
theorem Can.scl {p c : Int} {m : Nat} {r : List Int} (hp : 0 < p) (h1 : r.length = m) : Can p m (scl p c r) :=
  ⟨by rw [scl_len]; exact h1, fun i => by rw [el_scl]; exact ⟨Int.emod_nonneg _ (by omega), Int.emod_lt_of_pos _ hp⟩⟩
def rest (p : Int) : List (List Int) → List Int → List Int
  | [], r => r
  | o :: os, r => rest p os (subm p (el r (ld o)) r o)
def red (p : Int) (own : List Int) (at_ : Nat) (o : List Int) : List Int := subm p (el o at_) o own
def ins (p : Int) (own : List Int) (at_ : Nat) : List (List Int) → List (List Int)
  | [] => [own]
  | o :: os => if at_ < ld o then own :: (o :: os).map (red p own at_) else red p own at_ o :: ins p own at_ os
def stepR (p : Int) (out : List (List Int)) (r : List Int) : List (List Int) :=
  if ld (rest p out r) = (rest p out r).length then out else ins p (scl p (inv p (el (rest p out r) (ld (rest p out r)))) (rest p out r)) (ld (rest p out r)) out
def ech (p : Int) (rows : List (List Int)) : List (List Int) := rows.foldl (stepR p) []
structure RR (p : Int) (m : Nat) (out : List (List Int)) : Prop where
  can : ∀ r ∈ out, Can p m r
  lt : ∀ r ∈ out, ld r < m
  one : ∀ r ∈ out, el r (ld r) = 1
  ord : out.Pairwise fun a b => ld a < ld b ∧ el a (ld b) = 0
theorem RR.nil {p : Int} {m : Nat} : RR p m [] := ⟨by simp, by simp, by simp, .nil⟩
theorem RR.tail {p : Int} {m : Nat} {o : List Int} {os : List (List Int)} (h : RR p m (o :: os)) : RR p m os :=
  ⟨fun r hr => h.can r (.tail _ hr), fun r hr => h.lt r (.tail _ hr), fun r hr => h.one r (.tail _ hr), (List.pairwise_cons.1 h.ord).2⟩
section
variable {p : Int} {m : Nat}
theorem rest_can (hp : 0 < p) : ∀ {out : List (List Int)} {r : List Int}, (∀ o ∈ out, Can p m o) → Can p m r → Can p m (rest p out r)
  | [], r, _, h => h
  | o :: os, r, ho, h => rest_can (out := os) hp (fun x hx => ho x (.tail _ hx)) (Can.subm hp h.len (ho o (.head _)).len)
theorem rest_keep (hp : 0 < p) {i : Nat} : ∀ {out : List (List Int)} {r : List Int}, (∀ o ∈ out, Can p m o ∧ el o i = 0) → Can p m r → el (rest p out r) i = el r i
  | [], r, _, h => rfl
  | o :: os, r, ho, h => by
    have h1 := ho o (.head _)
    simp only [rest]
    rw [rest_keep hp (fun x hx => ho x (.tail _ hx)) (Can.subm hp h.len h1.1.len), el_subm (by rw [h.len, h1.1.len]), h1.2, Int.mul_zero, Int.sub_zero, h.mod]
theorem rest_zero (hp : 1 < p) : ∀ {out : List (List Int)} {r : List Int}, RR p m out → Can p m r → ∀ o ∈ out, el (rest p out r) (ld o) = 0
  | [], r, _, h, o, ho => by cases ho
  | o :: os, r, rr, h, o', ho => by
    have c := rr.can o (.head _)
    have c1 : Can p m (subm p (el r (ld o)) r o) := Can.subm (by omega) h.len c.len
    simp only [rest]
    rcases List.mem_cons.1 ho with rfl | ho
    · rw [rest_keep (by omega) (m := m) (fun x hx => ⟨rr.can x (.tail _ hx), ld_zero x _ ((List.pairwise_cons.1 rr.ord).1 x hx).1⟩) c1, el_subm (by rw [h.len, c.len]), rr.one _ (.head _)]
      simp
    · exact rest_zero hp rr.tail c1 o' ho
structure Own (p : Int) (m : Nat) (own : List Int) (at_ : Nat) (out : List (List Int)) : Prop where
  can : Can p m own
  lt : at_ < m
  led : ld own = at_
  one : el own at_ = 1
  zero : ∀ o ∈ out, el own (ld o) = 0
theorem red_of (hp : 1 < p) {own : List Int} {at_ : Nat} {out : List (List Int)} (w : Own p m own at_ out) (rr : RR p m out) {o : List Int} (ho : o ∈ out) :
    Can p m (red p own at_ o) ∧ ld (red p own at_ o) = ld o ∧ el (red p own at_ o) at_ = 0 ∧ ld o ≠ at_ ∧ ∀ i, el own i = 0 → el (red p own at_ o) i = el o i := by
  have c := rr.can o ho
  have hl : o.length = own.length := by rw [c.len, w.can.len]
  have ez : ∀ i, el own i = 0 → el (red p own at_ o) i = el o i := fun i hi => by
    rw [red, el_subm hl, hi, Int.mul_zero, Int.sub_zero, c.mod]
  have hne : ld o ≠ at_ := fun q => by have := w.zero o ho; rw [q, w.one] at this; omega
  refine ⟨Can.subm (by omega) c.len w.can.len, ?_, ?_, hne, ez⟩
  · refine ld_eq ?_ fun j hj => ?_
    · rw [ez _ (w.zero o ho), rr.one o ho]; omega
    · rcases Nat.lt_or_ge j at_ with q | q
      · rw [ez j (ld_zero own j (by rw [w.led]; exact q))]; exact ld_zero o j hj
      · have h0 : el o at_ = 0 := ld_zero o _ (by omega)
        rw [red, el_subm hl, h0, Int.zero_mul, Int.sub_zero, c.mod]; exact ld_zero o j hj
  · rw [red, el_subm hl, w.one]; simp
theorem ins_mem {own : List Int} {at_ : Nat} : ∀ {out : List (List Int)} {x : List Int}, x ∈ ins p own at_ out → x = own ∨ ∃ o ∈ out, x = red p own at_ o
  | [], x, h => by simp [ins] at h; exact .inl h
  | o :: os, x, h => by
    simp only [ins] at h
    split at h
    · rcases List.mem_cons.1 h with h | h
      · exact .inl h
      · obtain ⟨y, hy, e⟩ := List.mem_map.1 h; exact .inr ⟨y, hy, e.symm⟩
    · rcases List.mem_cons.1 h with h | h
      · exact .inr ⟨o, .head _, h⟩
      · rcases ins_mem h with q | ⟨y, hy, e⟩
        · exact .inl q
        · exact .inr ⟨y, .tail _ hy, e⟩
theorem ins_len {own : List Int} {at_ : Nat} : ∀ {out : List (List Int)}, (ins p own at_ out).length = out.length + 1
  | [] => rfl
  | o :: os => by
    simp only [ins]
    split
    · simp
    · simp [ins_len (out := os)]
theorem Own.tail {own : List Int} {at_ : Nat} {o : List Int} {os : List (List Int)} (w : Own p m own at_ (o :: os)) : Own p m own at_ os := ⟨w.can, w.lt, w.led, w.one, fun x hx => w.zero x (.tail _ hx)⟩
theorem ins_ord (hp : 1 < p) {own : List Int} {at_ : Nat} : ∀ {out : List (List Int)}, Own p m own at_ out → RR p m out → (ins p own at_ out).Pairwise fun a b => ld a < ld b ∧ el a (ld b) = 0
  | [], w, rr => by simp [ins]
  | o :: os, w, rr => by
    have ho := List.pairwise_cons.1 rr.ord
    simp only [ins]
    split
    · rename_i h
      refine List.pairwise_cons.2 ⟨fun x hx => ?_, ?_⟩
      · obtain ⟨y, hy, rfl⟩ := List.mem_map.1 hx
        obtain ⟨_, r2, _⟩ := red_of hp w rr hy
        rw [r2, w.led]
        refine ⟨?_, w.zero y hy⟩
        rcases List.mem_cons.1 hy with rfl | hy
        · exact h
        · have := (ho.1 y hy).1; omega
      · refine List.pairwise_map.2 ?_
        refine List.Pairwise.imp_of_mem ?_ rr.ord
        intro a b ha hb hab
        obtain ⟨_, r2, _, _, r5⟩ := red_of hp w rr ha
        obtain ⟨_, s2, _⟩ := red_of hp w rr hb
        rw [r2, s2, r5 _ (w.zero b hb)]
        exact hab
    · rename_i h
      obtain ⟨_, r2, r3, r4, r5⟩ := red_of hp w rr (.head _)
      refine List.pairwise_cons.2 ⟨fun x hx => ?_, ins_ord hp w.tail rr.tail⟩
      rcases ins_mem hx with rfl | ⟨y, hy, rfl⟩
      · rw [r2, w.led]; exact ⟨by omega, r3⟩
      · obtain ⟨_, s2, _⟩ := red_of hp w rr (.tail _ hy)
        rw [r2, s2, r5 _ (w.zero y (.tail _ hy))]
        exact ho.1 y hy
theorem ins_RR (hp : 1 < p) {own : List Int} {at_ : Nat} {out : List (List Int)} (w : Own p m own at_ out) (rr : RR p m out) : RR p m (ins p own at_ out) := by
  refine ⟨fun x hx => ?_, fun x hx => ?_, fun x hx => ?_, ins_ord hp w rr⟩
  · rcases ins_mem hx with rfl | ⟨y, hy, rfl⟩
    · exact w.can
    · exact (red_of hp w rr hy).1
  · rcases ins_mem hx with rfl | ⟨y, hy, rfl⟩
    · rw [w.led]; exact w.lt
    · rw [(red_of hp w rr hy).2.1]; exact rr.lt y hy
  · rcases ins_mem hx with rfl | ⟨y, hy, rfl⟩
    · rw [w.led]; exact w.one
    · obtain ⟨_, r2, _, _, r5⟩ := red_of hp w rr hy
      rw [r2, r5 _ (w.zero y hy)]; exact rr.one y hy
theorem own_of (hP : isP p = true) {out : List (List Int)} {r : List Int} (rr : RR p m out) (hr : Can p m r) (hl : ld (rest p out r) ≠ (rest p out r).length) :
    Own p m (scl p (inv p (el (rest p out r) (ld (rest p out r)))) (rest p out r)) (ld (rest p out r)) out := by
  have hp := isP_pos hP
  have c := rest_can (p := p) (m := m) (by omega) rr.can hr
  have hlt : ld (rest p out r) < (rest p out r).length := by have := ld_le (rest p out r); omega
  have hne := ld_ne _ hlt
  have hmod : el (rest p out r) (ld (rest p out r)) % p ≠ 0 := by rw [c.mod]; exact hne
  obtain ⟨_, i2⟩ := inv_ok hP hmod
  have h1 : el (scl p (inv p (el (rest p out r) (ld (rest p out r)))) (rest p out r)) (ld (rest p out r)) = 1 := by rw [el_scl]; exact i2
  refine ⟨Can.scl (by omega) c.len, by rw [← c.len]; exact hlt, ld_eq (by rw [h1]; omega) fun j hj => ?_, h1, fun o ho => ?_⟩
  · rw [el_scl, ld_zero _ j hj]; simp
  · rw [el_scl, rest_zero (by omega) rr hr o ho]; simp
theorem stepR_RR (hP : isP p = true) {out : List (List Int)} {r : List Int} (rr : RR p m out) (hr : Can p m r) : RR p m (stepR p out r) := by
  have hp := isP_pos hP
  unfold stepR
  split
  · exact rr
  · rename_i h; exact ins_RR (by omega) (own_of hP rr hr h) rr
theorem fold_RR (hP : isP p = true) : ∀ {rows out : List (List Int)}, RR p m out → (∀ r ∈ rows, Can p m r) → RR p m (rows.foldl (stepR p) out)
  | [], out, rr, _ => rr
  | r :: rs, out, rr, h => fold_RR (rows := rs) hP (stepR_RR hP rr (h r (.head _))) fun x hx => h x (.tail _ hx)
theorem ech_RR (hP : isP p = true) {rows : List (List Int)} (h : ∀ r ∈ rows, Can p m r) : RR p m (ech p rows) := fold_RR hP .nil h
end
theorem iter_run {S α : Type} {step : S → (S → Option α) → Option α} {r : Option α} : ∀ (n F : Nat) (st : Nat → S), n < F → (∀ i, i < n → ∀ k, step (st i) k = k (st (i + 1))) → (∀ k, step (st n) k = r) → iter step F (st 0) = r
  | 0, F, st, hF, _, h => by
    obtain ⟨F, rfl⟩ : ∃ f, F = f + 1 := ⟨F - 1, by omega⟩
    exact h _
  | n + 1, F, st, hF, h1, h => by
    obtain ⟨F, rfl⟩ : ∃ f, F = f + 1 := ⟨F - 1, by omega⟩
    simp only [iter]
    rw [h1 0 (by omega)]
    exact iter_run n F (fun i => st (i + 1)) (by omega) (fun i hi k => h1 (i + 1) (by omega) k) h
theorem dlt_t {a b : Int} (h : a < b) : decide (a < b) = true := decide_eq_true h
theorem dlt_f {a b : Int} (h : b ≤ a) : decide (a < b) = false := decide_eq_false (by omega)
theorem dle_t {a b : Int} (h : a ≤ b) : decide (a ≤ b) = true := decide_eq_true h
theorem dle_f {a b : Int} (h : b < a) : decide (a ≤ b) = false := decide_eq_false (by omega)
theorem dln_t {a b : Nat} (h : a ≤ b) : decide (a ≤ b) = true := decide_eq_true h
theorem deq_t {a b : Int} (h : a = b) : decide (a = b) = true := decide_eq_true h
theorem deq_f {a b : Int} (h : a ≠ b) : decide (a = b) = false := decide_eq_false h
theorem ib_t {i n : Int} (h0 : 0 ≤ i) (h1 : i < n) : ib i n = true := by simp [ib, h0, h1]
theorem w6_id {x : Int} (h0 : -9223372036854775808 ≤ x) (h1 : x ≤ 9223372036854775807) : w6 x = x := by
  simp [w6, IntKind.wrap, IntKind.bits, IntKind.signed]; split <;> omega
theorem grow_t {a b : Nat} (h : a + b ≤ 1099511627776) : growOk a b = true := decide_eq_true h
theorem ofn (n : Nat) : Int.ofNat n = (n : Int) := rfl
theorem tn_cast (n : Nat) : tn (n : Int) = n := rfl
theorem tmod_md {p x : Int} (hp : 0 < p) : Int.tmod (Int.tmod x p + p) p = x % p ∧ -p < Int.tmod x p ∧ Int.tmod x p < p := by
  have h1 := Int.natAbs_tmod x p
  have h2 : x.natAbs % p.natAbs < p.natAbs := Nat.mod_lt _ (by omega)
  have h3 := Int.tmod_add_mul_tdiv x p
  have h4 : -p < Int.tmod x p ∧ Int.tmod x p < p := by omega
  refine ⟨?_, h4⟩
  rw [Int.tmod_eq_emod_of_nonneg (by omega), Int.add_emod_right]
  conv => rhs; rw [← h3]
  rw [Int.add_mul_emod_self_left]
theorem md_rng {p x : Int} (hp : 0 < p) : 0 ≤ x % p ∧ x % p < p := ⟨Int.emod_nonneg _ (by omega), Int.emod_lt_of_pos _ hp⟩
abbrev B : Nat := 1000000
def c74 (p a : Int) : Option (Int × Unit) := if 0 < p ∧ p ≤ 1000000 ∧ -1000000000000000000 ≤ a ∧ a ≤ 1000000000000000000 then some (a % p, ()) else none
def cf74 : Args [.v i64, .v i64] → Option R219 := fun x => c74 x.1 x.2.1
theorem k74 : KOne Tryz.prog 219 ⟨[.v i64, .v i64], [i64], false, false, 0, cf74⟩ := ok219 .nil cf74 fun x y h => by
  obtain ⟨p, a, _⟩ := x
  simp only [cf74, c74] at h
  split at h
  · rename_i hc
    injection h with h; subst h
    refine ⟨0, ?_⟩
    obtain ⟨h1, h2, h3⟩ := tmod_md (p := p) (x := a) (by omega)
    simp (disch := omega) only [fn219, deq_f, Bool.not_false, cond_true, w6_id, h1]
  · cases h
def cf82 : Args [.v i64] → Option R155 := fun x => some (isP x.1, ())
theorem isP_text (a b c d e f : Bool) : (bif a then (some (true, ())) else (bif (bif false then true else b) then (some (true, ())) else (bif (bif false then true else c) then (some (true, ())) else (bif (bif false then true else d) then (some (true, ())) else (bif (bif false then true else e) then (some (true, ())) else (some ((bif false then true else f), ()))))))) = some (a || (b || (c || (d || (e || f)))), ()) := by
  cases a <;> cases b <;> cases c <;> cases d <;> cases e <;> rfl
theorem k82 : KOne Tryz.prog 155 ⟨[.v i64], [.bool], false, false, 0, cf82⟩ := ok155 .nil cf82 fun x y h => by
  obtain ⟨p, _⟩ := x
  injection h with h; subst h
  exact ⟨0, isP_text _ _ _ _ _ _⟩
theorem k86 : KOne Tryz.prog 165 ⟨[.v i64], [.bool], false, false, 0, cf82⟩ := ok165 .nil cf82 fun x y h => by
  obtain ⟨p, _⟩ := x
  injection h with h; subst h
  exact ⟨0, isP_text _ _ _ _ _ _⟩
def cf73 : Args [.v i64, .v i64, .v i64] → Option R131 := fun x => some (decide (x.2.1 ≤ x.1) && decide (x.1 ≤ x.2.2.1), ())
theorem k73 : KOne Tryz.prog 131 ⟨[.v i64, .v i64, .v i64], [.bool], false, false, 0, cf73⟩ := ok131 .nil cf73 fun x y h => by
  obtain ⟨a, b, c, _⟩ := x
  injection h with h; subst h
  refine ⟨0, ?_⟩
  simp only [fn131]
  cases decide (b ≤ a) <;> rfl
def cf87 : Args [.v i64] → Option R166 := fun x => some (decide (1 ≤ x.1) && decide (x.1 ≤ 3), ())
theorem k87 : KOne Tryz.prog 166 ⟨[.v i64], [.bool], false, false, 0, cf87⟩ := ok166 .nil cf87 fun x y h => by
  obtain ⟨a, _⟩ := x
  injection h with h; subst h
  refine ⟨0, ?_⟩
  simp only [fn166]
  cases decide ((1 : Int) ≤ a) <;> rfl
def c155 (l : List Int) : Option (List Int × Unit) := if l.length ≤ B then some (l, ()) else none
def cf155 : Args [.v (.slice 2 i64)] → Option R162 := fun x => c155 x.1
theorem k155 : KOne Tryz.prog 162 ⟨[.v (.slice 2 i64)], [.slice 2 i64], true, false, 0, cf155⟩ := ok162 .nil cf155 fun x y h => by
  obtain ⟨l, _⟩ := x
  simp only [cf155, c155] at h
  split at h
  · rename_i hc
    injection h with h; subst h
    refine ⟨0, ?_⟩
    simp only [B] at hc
    simp (disch := omega) only [fn162, grow_t, cond_true, List.nil_append]
  · cases h
def ldI (r : List Int) : Int := if ld r = r.length then -1 else (ld r : Int)
def c153 (l : List Int) : Option (Int × Unit) := if l.length ≤ B then some (ldI l, ()) else none
def cf153 : Args [.v (.slice 2 i64)] → Option R87 := fun x => c153 x.1
theorem k153 : KOne Tryz.prog 87 ⟨[.v (.slice 2 i64)], [i64], false, false, 0, cf153⟩ := ok87 .nil cf153 fun x y h => by
  obtain ⟨l, _⟩ := x
  simp only [cf153, c153] at h
  split at h
  · rename_i hc
    injection h with h; subst h
    simp only [B] at hc
    have hle := ld_le l
    refine ⟨l.length + 1, ?_⟩
    simp only [fn87, ru87_2]
    refine iter_run (ld l) _ (fun i => ((l, ()), ((i : Int), ()), ())) (by omega) (fun i hi k => ?_) (fun k => ?_)
    · have h0 : l.getD i 0 = 0 := ld_zero l i hi
      simp (disch := omega) only [st87_2, dln_t, cond_true, ofn, dlt_t, ib_t, tn_cast, h0, deq_t, Bool.not_true, cond_false, w6_id]
      rfl
    · by_cases q : ld l = l.length
      · simp (disch := omega) only [st87_2, dln_t, cond_true, ofn, dlt_f, cond_false, ldI, if_pos q]
      · have hne : l.getD (ld l) 0 ≠ 0 := ld_ne l (by omega)
        simp (disch := first | omega | exact hne) only [st87_2, dln_t, cond_true, ofn, dlt_t, ib_t, tn_cast, deq_f, Bool.not_false, cond_false, ldI, if_neg q]
  · cases h
theorem g74_ok {p a : Int} (h : 0 < p ∧ p ≤ 1000000 ∧ -1000000000000000000 ≤ a ∧ a ≤ 1000000000000000000) : cf74 (p, a, ()) = some (a % p, ()) := if_pos h
theorem mul_rng {a b c d : Int} (h1 : 0 ≤ a) (h2 : a < c) (h3 : 0 ≤ b) (h4 : b < d) : 0 ≤ a * b ∧ a * b < c * d := by
  refine ⟨Int.mul_nonneg h1 h3, ?_⟩
  have : a * b ≤ a * d := Int.mul_le_mul_of_nonneg_left (by omega) h1
  have : a * d < c * d := Int.mul_lt_mul_of_pos_right h2 (by omega)
  omega
theorem sq_rng {p a b : Int} (hp : p ≤ 13) (h1 : 0 ≤ a) (h2 : a < p) (h3 : 0 ≤ b) (h4 : b < p) : 0 ≤ a * b ∧ a * b < 169 := by
  have := mul_rng (c := 13) (d := 13) h1 (by omega) h3 (by omega)
  omega
theorem run75a {p x : Int} (hp : 2 ≤ p ∧ p ≤ 13) (hx : -1000000000000 ≤ x ∧ x ≤ 1000000000000) {F0 : Nat} : ∀ (f F : Nat) (k : Int), 1 ≤ k → p - k < f → f < F →
    iter (fun s k => st159_2 cf74 F0 s k (fun s' => match s' with | ((t0, _), (t1, _), (t5, _), _) => (some ((0 : Int), ())))) F ((p, ()), ((x, ()), ((k, ()), ()))) = some (invA p (x % p) f k, ())
  | 0, F, k, h1, h2, h3 => by
    obtain ⟨F, rfl⟩ : ∃ f, F = f + 1 := ⟨F - 1, by omega⟩
    simp (disch := omega) only [iter, st159_2, dlt_f, cond_false, invA]
  | f + 1, F, k, h1, h2, h3 => by
    obtain ⟨F, rfl⟩ : ∃ f, F = f + 1 := ⟨F - 1, by omega⟩
    have r := md_rng (p := p) (x := x) (by omega)
    by_cases q : k < p
    · have s := sq_rng (p := p) (by omega) (show 0 ≤ k by omega) q r.1 r.2
      have g := g74_ok (p := p) (a := x) (by omega)
      have e : Int.tmod (w6 (k * (x % p))) p = k * (x % p) % p := by rw [w6_id (by omega) (by omega), Int.tmod_eq_emod_of_nonneg s.1]
      have ih := fun k h1 h2 => run75a hp hx (F0 := F0) f F k h1 h2 (by omega)
      simp only [iter]
      generalize iter _ F = G at ih ⊢
      simp (disch := omega) only [st159_2, dlt_t, cond_true, g, deq_f, Bool.not_false, e]
      by_cases z : k * (x % p) % p = 1
      · rw [decide_eq_true z]; simp only [cond_true, invA, if_pos q, if_pos z]
      · rw [decide_eq_false z]
        simp (disch := omega) only [cond_false, w6_id]
        rw [ih (k + 1) (by omega) (by omega)]
        simp only [invA, if_pos q, if_neg z]
    · simp (disch := omega) only [iter, st159_2, dlt_f, cond_false, invA, if_neg q]
theorem run75 {p x : Int} (hp : 2 ≤ p ∧ p ≤ 13) (hx : -1000000000000 ≤ x ∧ x ≤ 1000000000000) : fn159 cf74 20 (p, x, ()) = some (inv p x, ()) := by
  simp only [fn159, ru159_2]
  exact run75a hp hx 13 20 1 (by omega) (by omega) (by omega)
def c75 (p x : Int) : Option (Int × Unit) := if (2 ≤ p ∧ p ≤ 13) ∧ (-1000000000000 ≤ x ∧ x ≤ 1000000000000) then some (inv p x, ()) else none
def cf75 : Args [.v i64, .v i64] → Option R159 := fun x => c75 x.1 x.2.1
theorem k75 : KOne Tryz.prog 159 ⟨[.v i64, .v i64], [i64], false, false, 0, cf75⟩ := ok159 _ (.cons k74 .nil) cf75 fun x y h => by
  obtain ⟨p, a, _⟩ := x
  simp only [cf75, c75] at h
  split at h
  · rename_i hc
    injection h with h; subst h
    exact ⟨20, run75 hc.1 hc.2⟩
  · cases h
theorem take_snoc {α : Type} {l : List α} {i : Nat} (h : i < l.length) : l.take (i + 1) = l.take i ++ [l[i]] := by
  rw [List.take_add_one, List.getElem?_eq_getElem h]; rfl
theorem el_get {l : List Int} {i : Nat} (h : i < l.length) : el l i = l[i] := by
  simp [el, List.getD_eq_getElem?_getD, List.getElem?_eq_getElem h]
theorem run154 {p k : Int} {m : Nat} {r o : List Int} (hp : 2 ≤ p ∧ p ≤ 13) (hk : 0 ≤ k ∧ k < p) (h1 : Can p m r) (h2 : Can p m o) (hm : m ≤ 1000000) : fn160 cf74 (m + 1) (p, r, o, k, ()) = some (subm p k r o, ()) := by
  simp only [fn160, ru160_3]
  have l1 := h1.len
  have l2 := h2.len
  have l3 : (subm p k r o).length = m := by rw [subm_len (by omega)]; exact l1
  have key := iter_run (step := fun s k => st160_3 cf74 (m + 1) s k (fun s' => match s' with | ((t0, _), (t1, _), (t2, _), (t3, _), (t9, _), (t10, _), _) => (some (t9, ())))) (r := some (subm p k r o, ())) m (m + 1) (fun i => ((p, ()), ((r, ()), ((o, ()), ((k, ()), (((subm p k r o).take i, ()), (((i : Int), ()), ()))))))) (by omega) (fun i hi kk => ?_) (fun kk => ?_)
  · simpa using key
  · have z1 := h1.rng i
    have z2 := h2.rng i
    have z3 := sq_rng (p := p) (by omega) hk.1 hk.2 z2.1 z2.2
    have g : cf74 (p, w6 (r.getD i 0 - w6 (k * o.getD i 0)), ()) = some ((el r i - k * el o i) % p, ()) := by
      simp only [el] at z1 z2 z3
      rw [w6_id (x := k * o.getD i 0) (by omega) (by omega), w6_id (by omega) (by omega)]
      exact g74_ok (by omega)
    have l4 : (List.take i (subm p k r o)).length = i := by rw [List.length_take, l3]; omega
    have e : (el r i - k * el o i) % p = (subm p k r o)[i]'(by omega) := by rw [← el_subm (by omega), el_get]
    rw [show List.take (i + 1) (subm p k r o) = List.take i (subm p k r o) ++ [(el r i - k * el o i) % p] by rw [take_snoc (by omega), e]]
    clear e
    generalize List.take i (subm p k r o) = L at *
    simp (disch := omega) only [st160_3, dln_t, cond_true, ofn, dlt_t, ib_t, tn_cast, g, grow_t, List.length_singleton, w6_id]
    rfl
  · rw [show List.take m (subm p k r o) = subm p k r o by rw [← l3, List.take_length]]
    simp (disch := omega) only [st160_3, dln_t, cond_true, ofn, dlt_f, cond_false]
open Classical in
noncomputable def c154 (p : Int) (r o : List Int) (k : Int) : Option (List Int × Unit) := if (2 ≤ p ∧ p ≤ 13) ∧ (0 ≤ k ∧ k < p) ∧ r.length ≤ 1000000 ∧ Can p r.length r ∧ Can p r.length o then some (subm p k r o, ()) else none
noncomputable def cf154 : Args [.v i64, .v (.slice 2 i64), .v (.slice 2 i64), .v i64] → Option R160 := fun x => c154 x.1 x.2.1 x.2.2.1 x.2.2.2.1
theorem k154 : KOne Tryz.prog 160 ⟨[.v i64, .v (.slice 2 i64), .v (.slice 2 i64), .v i64], [.slice 2 i64], true, false, 0, cf154⟩ := ok160 _ (.cons k74 .nil) cf154 fun x y h => by
  obtain ⟨p, r, o, k, _⟩ := x
  simp only [cf154, c154] at h
  split at h
  · rename_i hc
    injection h with h; subst h
    exact ⟨_, run154 hc.1 hc.2.1 hc.2.2.2.1 hc.2.2.2.2 hc.2.2.1⟩
  · cases h
theorem g153_ok {l : List Int} (h : l.length ≤ 1000000) : cf153 (l, ()) = some (ldI l, ()) := if_pos h
theorem g155_ok {l : List Int} (h : l.length ≤ 1000000) : cf155 (l, ()) = some (l, ()) := if_pos h
theorem g154_ok {p k : Int} {m : Nat} {r o : List Int} (hp : 2 ≤ p ∧ p ≤ 13) (hk : 0 ≤ k ∧ k < p) (h1 : Can p m r) (h2 : Can p m o) (hm : m ≤ 1000000) : cf154 (p, r, o, k, ()) = some (subm p k r o, ()) :=
  if_pos ⟨hp, hk, by rw [h1.len]; exact hm, by rw [h1.len]; exact h1, by rw [h1.len]; exact h2⟩
theorem ldI_lt {r : List Int} {m : Nat} (hl : r.length = m) (h : ld r < m) : ldI r = (ld r : Int) := by unfold ldI; rw [if_neg (by omega)]
theorem subm_zero {p : Int} {m : Nat} {r o : List Int} (h1 : Can p m r) (h2 : o.length = m) : subm p 0 r o = r := by
  refine row_ext (subm_len (by rw [h1.len, h2])) fun i => ?_
  rw [el_subm (by rw [h1.len, h2]), Int.zero_mul, Int.sub_zero, h1.mod]
theorem rest_snoc {p : Int} : ∀ {a : List (List Int)} {o r : List Int}, rest p (a ++ [o]) r = subm p (el (rest p a r) (ld o)) (rest p a r) o
  | [], o, r => rfl
  | x :: a, o, r => by simp only [List.cons_append, rest]; exact rest_snoc
theorem run152 {p : Int} {m : Nat} {out : List (List Int)} {r : List Int} (hp : 2 ≤ p ∧ p ≤ 13) (rr : RR p m out) (hr : Can p m r) (hm : m ≤ 1000000) (ho : out.length ≤ 1000000) : fn88 cf155 cf154 cf153 (out.length + 1) (p, out, r, ()) = some (rest p out r, ()) := by
  simp only [fn88, ru88_3]
  rw [g155_ok (by rw [hr.len]; exact hm)]
  simp only
  have key := iter_run (step := fun s k => st88_3 cf155 cf154 cf153 (out.length + 1) s k (fun s' => match s' with | ((t0, _), (t1, _), (t7, _), (t8, _), _) => (some (t7, ())))) (r := some (rest p out r, ())) out.length (out.length + 1) (fun i => ((p, ()), ((out, ()), ((rest p (out.take i) r, ()), (((i : Int), ()), ()))))) (by omega) (fun i hi kk => ?_) (fun kk => ?_)
  · simpa [rest] using key
  · have ho1 : out.getD i [] = out[i] := by simp [List.getD_eq_getElem?_getD, List.getElem?_eq_getElem hi]
    have hmem : out[i] ∈ out := List.getElem_mem hi
    have co := rr.can _ hmem
    have lo := rr.lt _ hmem
    have cr : Can p m (rest p (out.take i) r) := rest_can (by omega) (fun o h => rr.can o (List.mem_of_mem_take h)) hr
    rw [show List.take (i + 1) out = List.take i out ++ [out[i]] from take_snoc hi, rest_snoc]
    generalize rest p (List.take i out) r = own at *
    generalize out[i] = o at *
    have g1 := g153_ok (l := o) (by rw [co.len]; exact hm)
    rw [ldI_lt co.len lo] at g1
    have lw := cr.len
    have z := cr.rng (ld o)
    by_cases q : el own (ld o) = 0
    · have q' : own.getD (ld o) 0 = 0 := q
      rw [q, subm_zero cr co.len]
      simp (disch := omega) only [st88_3, dln_t, cond_true, ofn, dlt_t, ib_t, tn_cast, ho1, g1, q', decide_true, Bool.not_true, cond_false, w6_id]
      rfl
    · have q' : own.getD (ld o) 0 ≠ 0 := q
      have g2 : cf154 (p, own, o, own.getD (ld o) 0, ()) = some (subm p (el own (ld o)) own o, ()) := g154_ok hp z cr co hm
      simp (disch := first | omega | exact q') only [st88_3, dln_t, cond_true, ofn, dlt_t, ib_t, tn_cast, ho1, g1, deq_f, Bool.not_false, g2, w6_id]
      rfl
  · rw [List.take_length]
    simp (disch := omega) only [st88_3, dln_t, cond_true, ofn, dlt_f, cond_false]
open Classical in
noncomputable def c152 (p : Int) (out : List (List Int)) (r : List Int) : Option (List Int × Unit) := if (2 ≤ p ∧ p ≤ 13) ∧ RR p r.length out ∧ Can p r.length r ∧ r.length ≤ 1000000 ∧ out.length ≤ 1000000 then some (rest p out r, ()) else none
noncomputable def cf152 : Args [.v i64, .v (.slice 44 (.slice 2 i64)), .v (.slice 2 i64)] → Option R88 := fun x => c152 x.1 x.2.1 x.2.2.1
theorem k152 : KOne Tryz.prog 88 ⟨[.v i64, .v (.slice 44 (.slice 2 i64)), .v (.slice 2 i64)], [.slice 2 i64], true, false, 0, cf152⟩ := ok88 _ _ _ (.cons k155 (.cons k154 (.cons k153 .nil))) cf152 fun x y h => by
  obtain ⟨p, out, r, _⟩ := x
  simp only [cf152, c152] at h
  split at h
  · rename_i hc
    injection h with h; subst h
    exact ⟨_, run152 hc.1 hc.2.1 hc.2.2.1 hc.2.2.2.1 hc.2.2.2.2⟩
  · cases h
theorem g152_ok {p : Int} {m : Nat} {out : List (List Int)} {r : List Int} (hp : 2 ≤ p ∧ p ≤ 13) (rr : RR p m out) (hr : Can p m r) (hm : m ≤ 1000000) (ho : out.length ≤ 1000000) : cf152 (p, out, r, ()) = some (rest p out r, ()) :=
  if_pos ⟨hp, by rw [hr.len]; exact rr, by rw [hr.len]; exact hr, by rw [hr.len]; exact hm, ho⟩
end Go.Proofs.YtmdpmnjnpnjppaaGreatEv
