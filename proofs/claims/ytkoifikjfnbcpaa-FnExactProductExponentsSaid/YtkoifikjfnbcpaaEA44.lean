/- The program's operations on plain typed data, that the machine does the same, what the functions come to, and what they give (part 4). No condition. -/
import Derived.Test.YtkoifikjfnbcpaaEA43
set_option linter.unusedVariables false
set_option linter.unusedSimpArgs false
namespace Go.Proofs.YtkoifikjfnbcpaaEv
open Go Go.RowKit
def boxInit (t : Ty) (x : t.den) : List Leaf :=
  match boxLeaves t [mkfz t 0 true x] with
  | some ls => ls
  | none => [mkfz t 0 true x]
def initEnv : Nat → (ps : List PK) → Args ps → Env
  | _, [], _ => []
  | i, .v t :: r, x => (i, .val t.agg [mkfz t 0 true x.1]) :: initEnv (i + 1) r x.2
  | i, .p t :: r, x => (i, .box true (boxInit t x.1)) :: initEnv (i + 1) r x.2
  | i, .fn f :: r, x => (i, .fn f []) :: initEnv (i + 1) r x.2
  | i, .m _ _ :: r, x => (i, .dead) :: initEnv (i + 1) r x.2
def leavesOf (T : TTab) (env : Env) (rv : ResultVar) (t : Ty) : Option (List Leaf) :=
  match rv with
  | .tmp s => (match env.get s with
    | .val agg ls => bif (agg && t.agg) || (!agg && !t.agg) then some ls else none
    | _ => none)
  | .cell s ty => (match env.get s, tyOf T ty with
    | .box _ ls, some t' => bif t'.eqb t then some ls else none
    | _, _ => none)
def collect (T : TTab) (env : Env) : List ResultVar → (rs : List Ty) → Option (List (List Leaf) × Ress rs)
  | [], [] => some ([], ())
  | rv :: r, t :: ts => (match leavesOf T env rv t with
    | some ls => (match valAs t ls, collect T env r ts with
      | some x, some (lss, y) => some (ls :: lss, (x, y))
      | _, _ => none)
    | none => none)
  | _, _ => none
def regsOf : List Leaf → Option (List Nat)
  | [] => some []
  | .fz t reg lin _ :: r => bif t.flat then regsOf r else bif lin && !(Nat.beq reg 0) then (match regsOf r with | some l => some (reg :: l) | none => none) else none
  | .rt _ _ tag _ lin _ _ :: r => bif lin && !(Nat.beq tag 0) then (match regsOf r with | some l => some (tag :: l) | none => none) else none
def distinct : List Nat → Bool
  | [] => true
  | x :: r => !(memN r x) && distinct r
def freshOk (lss : List (List Leaf)) : Bool :=
  match regsOf lss.flatten with
  | some l => distinct l
  | none => false
def strictOk : List Ty → List (List Leaf) → Bool
  | .slice _ _ :: r, ls :: lss => (match ls with | [.rt _ _ _ _ _ true _] => true | [.rt _ _ _ _ _ false v] => !v.isEmpty | [.fz (.slice _ _) _ _ v] => !v.isEmpty | _ => false) && strictOk r lss
  | _ :: r, _ :: lss => strictOk r lss
  | _, _ => true
def litRes : List ResultVar → Env → Env
  | [], env => env
  | .tmp s :: r, env => litRes r (litArg env (.tmp s))
  | .cell _ _ :: r, env => litRes r env
def endK (T : TTab) (rvs : List ResultVar) (rs : List Ty) (fresh st : Bool) (env : Env) : Option (Ress rs) :=
  match collect T (litRes rvs env) rvs rs with
  | some (lss, y) => bif (!fresh || freshOk lss) && (!st || strictOk rs lss) then some y else none
  | none => none
def fnK (T : TTab) (K : CTab) (H : List (Nat × List Nat)) (rs : List Ty) (LT : LTab (Ress rs)) (c : Code) (rvs : List ResultVar) (ps : List PK) (fresh st : Bool) (x : Args ps) : Option (Ress rs) :=
  evL T K H LT c (initEnv 0 ps x) (endK T rvs rs fresh st) (fun _ _ => none) (endK T rvs rs fresh st)
section
variable {P : Program} {T : TTab} {K : CTab} {n : NS} {w0 w : World} {W : Nat → Prop} {g : Gh} {a : Act}
theorem litRes_sound : ∀ {rvs : List ResultVar} {env : Env} {g : Gh}, (∀ b, W b → g.al b) → St n w0 W g env.get a w → ∃ g', g'.al = g.al ∧ St n w0 W g' (litRes rvs env).get a w
  | [], env, g, hw, st => ⟨g, rfl, st⟩
  | .tmp s :: r, env, g, hw, st => by
    obtain ⟨g1, q1, q2⟩ := litArg_sound (x := .tmp s) hw st
    obtain ⟨g2, q3, q4⟩ := litRes_sound (rvs := r) (fun b hb => by rw [q1]; exact hw b hb) q2
    exact ⟨g2, q3.trans q1, q4⟩
  | .cell s t :: r, env, g, hw, st => litRes_sound (rvs := r) hw st
def resOne (tmps : Array Value) : ResultVar → Sem Value
  | .tmp t => pure (tmps.getD t undef)
  | .cell a t => do loadVar t (← asAddr (tmps.getD a undef))
theorem leavesOf_sound {env : Env} {rv : ResultVar} {t : Ty} {ls : List Leaf} {y : t.den} (hT : TOK P T) (he : ∀ s, EntR g w.heap s (env.get s) (a.tmps.getD s undef)) (h : leavesOf T env rv t = some ls) (hy : valAs t ls = some y) :
    ∃ v, (resOne a.tmps rv).run P w = .ok v w ∧ ValR g w.heap t.agg ls v := by
  unfold leavesOf at h
  split at h
  · rename_i s
    split at h
    · rename_i agg ls' hg
      cases hq : ((agg && t.agg) || (!agg && !t.agg)) with
      | false => rw [hq] at h; cases h
      | true =>
        rw [hq] at h; injection h with h; subst h
        have e : agg = t.agg := by cases agg <;> cases ht : t.agg <;> simp [ht] at hq <;> rfl
        have := he s; rw [hg] at this
        exact ⟨_, rfl, by rw [← e]; exact this⟩
    · cases h
  · rename_i s ty
    split at h
    · rename_i ro ls' t' hg ht
      cases hq : t'.eqb t with
      | false => rw [hq] at h; cases h
      | true =>
        rw [hq] at h; injection h with h; subst h
        have := eqb_eq hq; subst this
        have hb := he s; rw [hg] at hb
        obtain ⟨b, c, e, fr, bs, h1, h2, h3, _⟩ := hb
        have k := hT _ _ ht
        have hl := h3.length
        have hz := valAs_size hy
        have hrd := valAs_rd hy h3
        have hsz : t'.size = c.toList.length := by omega
        refine ⟨_, ?_, ⟨c.toList, bs, rfl, fun ha => ?_, h3⟩⟩
        · simp only [resOne, h1]
          have ho : 0 + t'.size ≤ c.size := by rw [hsz]; simp
          have e1 : (asAddr (.pointer (some ⟨b, 0, none⟩))).run P w = .ok ⟨b, 0, none⟩ w := rfl
          simp only [Sem.run_bind, e1, Result.andThen_ok, run_loadVar k h2 ho]
          rw [List.drop_zero, hsz, List.take_length]
        · obtain ⟨v, hv1, hv2⟩ := hrd.one ha
          rw [hv1, ha]; exact ⟨rfl, hv2⟩
    · cases h
theorem valAs_shape {h : Mem} {t : Ty} {ls : List Leaf} {v : Value} {y : t.den} (hv : ValR g h t.agg ls v) (hy : valAs t ls = some y) : ∃ bs, LeavesB g h ls v.cells.toList bs ∧ OneV h t y v bs := by
  obtain ⟨bs, hl⟩ := ValR.cells hv
  exact ⟨bs, hl, valAs_rd hy hl, (ValR.shape hv).1, (ValR.shape hv).2⟩
theorem distinct_nodup : ∀ {l : List Nat}, distinct l = true → l.Nodup
  | [], _ => List.nodup_nil
  | x :: r, h => by
    simp only [distinct, Bool.and_eq_true, Bool.not_eq_true'] at h
    refine List.nodup_cons.2 ⟨fun hm => ?_, distinct_nodup h.2⟩
    rw [memN_iff.2 hm] at h; cases h.1
theorem fresh_nodup {h : Mem} : ∀ {ls : List Leaf} {cs : List Value} {bs : List Nat} {l : List Nat}, LeavesB g h ls cs bs → regsOf ls = some l → l.Nodup → bs.Nodup ∧ ∀ b ∈ bs, g.own b ∈ l ∧ g.own b ≠ 0
  | [], cs, bs, l, ⟨_, h2⟩, _, _ => by subst h2; exact ⟨List.nodup_nil, fun b hb => (by cases hb)⟩
  | .fz t reg lin v :: r, cs, bs, l, ⟨b1, b2, h1, h2, h3⟩, hr, hn => by
    subst h3
    simp only [regsOf] at hr
    cases hf : t.flat with
    | true =>
      rw [hf] at hr
      have : b1 = [] := h1.1.flat hf
      subst this
      exact fresh_nodup h2 hr hn
    | false =>
      rw [hf] at hr; simp only [cond_false] at hr
      cases hq : (lin && !(Nat.beq reg 0)) with
      | false => rw [hq] at hr; cases hr
      | true =>
        rw [hq] at hr; simp only [cond_true] at hr
        simp only [Bool.and_eq_true, Bool.not_eq_true'] at hq
        split at hr
        · rename_i l' hl
          injection hr with hr; subst hr
          have hn' := List.nodup_cons.1 hn
          obtain ⟨p1, p2⟩ := fresh_nodup h2 hl hn'.2
          have o1 : ∀ b ∈ b1, g.own b = reg := h1.2.2.1 (nbeq_ne hq.2)
          refine ⟨List.nodup_append.2 ⟨(h1.2.2.2 hq.1).1 (nbeq_ne hq.2), p1, fun x hx z hz e => ?_⟩, fun b hb => ?_⟩
          · subst e; have := (p2 x hz).1; rw [o1 x hx] at this; exact hn'.1 this
          · rcases List.mem_append.1 hb with hb | hb
            · rw [o1 b hb]; exact ⟨by simp, nbeq_ne hq.2⟩
            · obtain ⟨z1, z2⟩ := p2 b hb; exact ⟨by simp [z1], z2⟩
        · cases hr
  | .rt e t tag sub lin st v :: r, cs, bs, l, ⟨b1, b2, h1, h2, h3⟩, hr, hn => by
    subst h3
    simp only [regsOf] at hr
    cases hq : (lin && !(Nat.beq tag 0)) with
    | false => rw [hq] at hr; cases hr
    | true =>
      rw [hq] at hr; simp only [cond_true] at hr
      simp only [Bool.and_eq_true, Bool.not_eq_true'] at hq
      split at hr
      · rename_i l' hl
        injection hr with hr; subst hr
        have hn' := List.nodup_cons.1 hn
        obtain ⟨p1, p2⟩ := fresh_nodup h2 hl hn'.2
        obtain ⟨hd, blk, bs', e1, e2, _, _, _, e5, e6, e7⟩ := h1
        subst e2
        obtain ⟨z1, z2⟩ := e7 hq.1
        have o1 : ∀ b ∈ blk.toList ++ bs', g.own b = tag := by
          intro b hb
          rcases List.mem_append.1 hb with hb | hb
          · exact (e6 b (by simpa using hb)).2.1
          · exact z1 b hb
        have nd1 : (blk.toList ++ bs').Nodup := by
          refine List.nodup_append.2 ⟨by cases blk <;> simp, z2, fun x hx y hy e => ?_⟩
          subst e
          have := (e6 x (by simpa using hx)).1
          rw [e5 x hy] at this; cases this
        refine ⟨List.nodup_append.2 ⟨nd1, p1, fun x hx z hz e => ?_⟩, fun b hb => ?_⟩
        · subst e; have := (p2 x hz).1; rw [o1 x hx] at this; exact hn'.1 this
        · rcases List.mem_append.1 hb with hb | hb
          · rw [o1 b hb]; exact ⟨by simp, nbeq_ne hq.2⟩
          · obtain ⟨z1, z2⟩ := p2 b hb; exact ⟨by simp [z1], z2⟩
      · cases hr
theorem LeavesB.mine {h : Mem} : ∀ {ls : List Leaf} {cs : List Value} {bs : List Nat}, LeavesB g h ls cs bs → ∀ b ∈ bs, g.kd b = .fz ∨ ∃ t, g.kd b = .mu t
  | [], cs, bs, ⟨_, h2⟩ => by subst h2; intro b hb; cases hb
  | l :: r, cs, bs, ⟨b1, b2, h1, h2, h3⟩ => by
    subst h3; intro b hb
    rcases List.mem_append.1 hb with hb | hb
    · exact h1.mine b hb
    · exact LeavesB.mine h2 b hb
theorem strict_one {h : Mem} {e : TypeId} {u : Ty} {e' : TypeId} {u' : Ty} {tag : Nat} {sub lin : Bool} {x : List u'.den} {v : Value} {y : List u.den} {cs : List Value} {bs : List Nat} (hl : LeavesB g h [.rt e' u' tag sub lin true x] cs bs)
    (hy : valAs (.slice e u) [.rt e' u' tag sub lin true x] = some y) (hc : v.cells = #[v]) (hcs : cs = v.cells.toList) : v = .slice none 0 0 ↔ y = [] := by
  have hl := hl.one
  obtain ⟨hd, blk, bs', e1, e2, _, e4, _⟩ := hl
  rw [hcs, hc] at e1
  injection e1 with e1 _
  rw [e1, e4 rfl]
  unfold valAs at hy
  simp only at hy
  cases hq : (Leaf.rt e' u' tag sub lin true x).ty.eqb (.slice e u) with
  | false => rw [hq] at hy; simp [valMany] at hy
  | true =>
    rw [hq] at hy; simp only [cond_true] at hy
    obtain ⟨ee, hy⟩ := Ty.cast_eq hy
    injection ee with ee1 ee2
    subst ee1; subst ee2
    have hy : x = y := hy
    rw [hy]
theorem strict_ne {h : Mem} {e : TypeId} {u : Ty} {y : List u.den} {v : Value} {bs : List Nat} (ho : OneV h (.slice e u) y v bs) (hy : y ≠ []) : v = .slice none 0 0 ↔ y = [] := by
  constructor
  · intro hv
    obtain ⟨⟨hd, blk, bs', h1, h2, _⟩, _, h3⟩ := ho
    rw [h3 rfl] at h1
    injection h1 with h1 _
    rcases h2 with ⟨_, _, q, _⟩ | ⟨b, o, cap, c, fr, q, _⟩
    · exact q
    · rw [← h1, hv] at q; cases q
  · intro q; exact absurd q hy
theorem valAs_len {e : TypeId} {u : Ty} {l : Leaf} {y : List u.den} {m : Nat} (hy : valAs (.slice e u) [l] = some y) (hm : lenL l = some m) : y.length = m := by
  unfold valAs at hy
  simp only at hy
  cases hq : l.ty.eqb (.slice e u) with
  | false => rw [hq] at hy; simp [valMany] at hy
  | true =>
    rw [hq] at hy; simp only [cond_true] at hy
    obtain ⟨ee, hy⟩ := Ty.cast_eq hy
    cases l with
    | rt e' u' tag sub lin st x =>
      injection ee with ee1 ee2
      subst ee1; subst ee2
      have hy : x = y := hy
      subst hy
      simpa [lenL] using hm
    | fz t reg lin x =>
      have ee : t = .slice e u := ee
      subst ee
      have hy : x = y := hy
      subst hy
      simpa [lenL] using hm
theorem collect_sound {env : Env} {st : Bool} (hT : TOK P T) (he : ∀ s, EntR g w.heap s (env.get s) (a.tmps.getD s undef)) : ∀ {rvs : List ResultVar} {rs : List Ty} {lss : List (List Leaf)} {y : Ress rs}, collect T env rvs rs = some (lss, y) → (st = true → strictOk rs lss = true) →
    ∃ vs bs, (rvs.mapM (resOne a.tmps)).run P w = .ok vs w ∧ ResV w.heap st rs y vs bs ∧ (∀ b ∈ bs, g.kd b = .fz ∨ ∃ t, g.kd b = .mu t) ∧ ∃ cs, LeavesB g w.heap lss.flatten cs bs
  | [], [], lss, y, h, hs => by
    simp only [collect, Option.some.injEq, Prod.mk.injEq] at h
    obtain ⟨rfl, -⟩ := h
    exact ⟨[], [], rfl, ⟨rfl, rfl⟩, fun b hb => (by cases hb), [], rfl, rfl⟩
  | rv :: r, t :: ts, lss, y, h, hs => by
    simp only [collect] at h
    split at h
    · rename_i ls hls
      split at h
      · rename_i x lss' y' hx hr
        simp only [Option.some.injEq, Prod.mk.injEq] at h
        obtain ⟨rfl, rfl⟩ := h
        obtain ⟨v, q1, q2⟩ := leavesOf_sound hT he hls hx
        obtain ⟨b1, q3, q4⟩ := valAs_shape q2 hx
        have hs' : st = true → strictOk ts lss' = true := by
          intro hst
          have := hs hst
          cases t <;> simp only [strictOk, Bool.and_eq_true] at this <;> first | exact this.2 | exact this
        obtain ⟨vs, bs, z1, z2, z3, cs, z4⟩ := collect_sound (st := st) hT he hr hs'
        refine ⟨v :: vs, b1 ++ bs, ?_, ⟨v, vs, b1, bs, rfl, q4, fun hst => ?_, z2, rfl⟩, fun b hb => ?_, v.cells.toList ++ cs, ?_⟩
        · rw [List.mapM_cons]
          simp only [Sem.run_bind, q1, Result.andThen_ok, z1, Sem.run_pure]
        · have hh := hs hst
          cases t with
          | slice e u =>
            simp only [strictOk, Bool.and_eq_true] at hh
            obtain ⟨hh, _⟩ := hh
            split at hh
            · exact strict_one q3 hx (q4.2.2 rfl) rfl
            · refine strict_ne q4 fun hy => ?_
              have := valAs_len hx (m := _) rfl
              rw [show x = [] from hy] at this
              simp only [Bool.not_eq_true', List.isEmpty_eq_false_iff] at hh
              exact hh (List.eq_nil_of_length_eq_zero this.symm)
            · refine strict_ne q4 fun hy => ?_
              have := valAs_len hx (m := _) rfl
              rw [show x = [] from hy] at this
              simp only [Bool.not_eq_true', List.isEmpty_eq_false_iff] at hh
              exact hh (List.eq_nil_of_length_eq_zero this.symm)
            · cases hh
          | _ => trivial
        · rcases List.mem_append.1 hb with hb | hb
          · exact q3.mine b hb
          · exact z3 b hb
        · simp only [List.flatten_cons]
          have app : ∀ {ls rest : List Leaf} {cs cs' : List Value} {b1 b2 : List Nat}, LeavesB g w.heap ls cs b1 → LeavesB g w.heap rest cs' b2 → LeavesB g w.heap (ls ++ rest) (cs ++ cs') (b1 ++ b2) := by
            intro ls
            induction ls with
            | nil => rintro rest cs cs' b1 b2 ⟨rfl, rfl⟩ h; simpa using h
            | cons l ls ih =>
              rintro rest cs cs' b1 b2 ⟨c1, c2, k1, k2, rfl⟩ k3
              have hlen : l.ty.size ≤ cs.length := by have := k1.rd.length; simp at this; omega
              rw [List.append_assoc]
              refine ⟨c1, c2 ++ b2, ?_, ?_, rfl⟩
              · rw [List.take_append_of_le_length hlen]; exact k1
              · rw [List.drop_append_of_le_length hlen]; exact ih k2 k3
          exact app q3 z4
      · cases h
    · cases h
  | [], _ :: _, _, _, h, _ => by cases h
  | _ :: _, [], _, _, h, _ => by cases h
end
section
variable {P : Program} {T : TTab} {K : CTab} {H : List (Nat × List Nat)} {n : NS} {w0 w : World} {W : Nat → Prop} {g : Gh} {a : Act}
def blkOf : Value → Nat
  | .pointer (some ⟨b, _, _⟩) => b
  | _ => 0
open Classical in
noncomputable def gh0 (w : World) (vs : List Value) (ba : List Nat) : Gh where
  kd b := if w.heap.size ≤ b ∨ b ∈ ba then .fz else .no
  own _ := 0
  H _ := undef
  bx s := blkOf (vs.getD s undef)
  al b := b ∈ ba
  mt _ := (.unit, .unit)
theorem mkfz_old {h : Mem} (t : Ty) (v : t.den) {cs : List Value} {bs : List Nat} (hr : Rd h t v cs bs) (hk : ∀ b ∈ bs, g.kd b = .fz) (ho : ∀ b ∈ bs, g.own b = 0) : LeavesB g h [mkfz t 0 true v] cs bs :=
  (mkfz_B hr hk (fun q => absurd rfl q) (fun _ => ⟨fun q => absurd rfl q, fun _ => ho⟩)).many
theorem boxInit_B {h : Mem} {t : Ty} {x : t.den} {cs : List Value} {bs : List Nat} (hr : Rd h t x cs bs) (hk : ∀ b ∈ bs, g.kd b = .fz) (ho : ∀ b ∈ bs, g.own b = 0) : LeavesB g h (boxInit t x) cs bs := by
  have h0 := mkfz_old t x hr hk ho
  unfold boxInit
  split
  · rename_i ls hls; exact (boxLeaves_B hls h0).1
  · exact h0
theorem ArgsV.blocks {h : Mem} : ∀ {ps : List PK} {x : Args ps} {vs : List Value} {ba : List Nat}, ArgsV h ps x vs ba → vs.length = ps.length
  | [], x, vs, ba, ⟨h1, _⟩ => by subst h1; rfl
  | .v t :: r, x, vs, ba, hh => by obtain ⟨v, vr, b1, b2, h1, _, _, h4⟩ := hh; subst h1; simp [ArgsV.blocks h4]
  | .p t :: r, x, vs, ba, hh => by obtain ⟨b, vr, c, e, fr, b1, b2, h1, _, _, _, h4⟩ := hh; subst h1; simp [ArgsV.blocks h4]
  | .fn f :: r, x, vs, ba, hh => by obtain ⟨vr, h1, h4⟩ := hh; subst h1; simp [ArgsV.blocks h4]
  | .m kt vt :: r, x, vs, ba, hh => by obtain ⟨b, vr, es, c, h1, _, _, h4⟩ := hh; subst h1; simp [ArgsV.blocks h4]
theorem init_ent {w : World} {all : List Value} {bal : List Nat} {tm : Nat → Value} : ∀ {ps : List PK} {x : Args ps} {vs : List Value} {ba : List Nat} {i : Nat}, ArgsV w.heap ps x vs ba → (∀ j, j < vs.length → tm (i + j) = vs.getD j undef) → (∀ j, all.getD (i + j) undef = vs.getD j undef) → (∀ b ∈ ba, b ∈ bal) →
    ∀ s, EntR (gh0 w all bal) w.heap s ((initEnv i ps x).get s) (tm s)
  | [], x, vs, ba, i, _, _, _, _, s => trivial
  | .v t :: r, x, vs, ba, i, hh, ht, ha, hb, s => by
    obtain ⟨v, vr, b1, b2, h1, h2, h3, h4⟩ := hh
    subst h1; subst h2
    simp only [initEnv, Env.get]
    cases hq : Nat.beq i s with
    | true =>
      have := Nat.eq_of_beq_eq_true hq; subst this
      have hv : tm i = v := by have := ht 0 (by simp); simpa using this
      rw [hv]
      refine leaves_of (mkfz_old t x.1 h3.1 (fun b hb' => ?_) (fun _ _ => rfl)) h3.2.1 h3.2.2
      simp only [gh0]; rw [if_pos (.inr (hb b (List.mem_append_left _ hb')))]
    | false =>
      refine init_ent (i := i + 1) h4 (fun j hj => ?_) (fun j => ?_) (fun b hb' => hb b (List.mem_append_right _ hb')) s
      · have := ht (j + 1) (by simpa using hj); rw [show i + 1 + j = i + (j + 1) by omega]; simpa using this
      · have := ha (j + 1); rw [show i + 1 + j = i + (j + 1) by omega]; simpa using this
  | .p t :: r, x, vs, ba, i, hh, ht, ha, hb, s => by
    obtain ⟨b, vr, c, e, fr, b1, b2, h1, h2, h3, h3', h4⟩ := hh
    subst h1; subst h2
    simp only [initEnv, Env.get]
    cases hq : Nat.beq i s with
    | true =>
      have := Nat.eq_of_beq_eq_true hq; subst this
      have hv : tm i = .pointer (some ⟨b, 0, none⟩) := by have := ht 0 (by simp); simpa using this
      rw [hv]
      refine ⟨b, c, e, fr, b1, rfl, h3, boxInit_B h3' (fun b hb' => ?_) (fun _ _ => rfl), ?_, fun q => (by cases q), fun _ => ?_⟩
      · simp only [gh0]; rw [if_pos (.inr (hb b (List.mem_append_left _ hb')))]
      · have := ha 0; simp only [Nat.add_zero] at this
        simp only [gh0, this]; rfl
      · simp only [gh0]
        split
        · exact .inl rfl
        · exact .inr rfl
    | false =>
      refine init_ent (i := i + 1) h4 (fun j hj => ?_) (fun j => ?_) (fun b hb' => hb b (List.mem_append_right _ hb')) s
      · have := ht (j + 1) (by simpa using hj); rw [show i + 1 + j = i + (j + 1) by omega]; simpa using this
      · have := ha (j + 1); rw [show i + 1 + j = i + (j + 1) by omega]; simpa using this
  | .fn f :: r, x, vs, ba, i, hh, ht, ha, hb, s => by
    obtain ⟨vr, h1, h4⟩ := hh
    subst h1
    simp only [initEnv, Env.get]
    cases hq : Nat.beq i s with
    | true =>
      have := Nat.eq_of_beq_eq_true hq; subst this
      have hv : tm i = .func (.func f) #[] #[] := by have := ht 0 (by simp); simpa using this
      rw [hv]; rfl
    | false =>
      refine init_ent (i := i + 1) h4 (fun j hj => ?_) (fun j => ?_) hb s
      · have := ht (j + 1) (by simpa using hj); rw [show i + 1 + j = i + (j + 1) by omega]; simpa using this
      · have := ha (j + 1); rw [show i + 1 + j = i + (j + 1) by omega]; simpa using this
  | .m kt vt :: r, x, vs, ba, i, hh, ht, ha, hb, s => by
    obtain ⟨b, vr, es, c, h1, _, _, h4⟩ := hh
    subst h1
    simp only [initEnv, Env.get]
    cases hq : Nat.beq i s with
    | true => trivial
    | false =>
      refine init_ent (i := i + 1) h4 (fun j hj => ?_) (fun j => ?_) hb s
      · have := ht (j + 1) (by simpa using hj); rw [show i + 1 + j = i + (j + 1) by omega]; simpa using this
      · have := ha (j + 1); rw [show i + 1 + j = i + (j + 1) by omega]; simpa using this
theorem init_St {w : World} {ps : List PK} {x : Args ps} {vs : List Value} {ba : List Nat} {n : Nat} (hv : ArgsV w.heap ps x vs ba) (hn : ps.length ≤ n) :
    St ⟨n, false, undef⟩ w (fun _ => False) (gh0 w vs ba) (initEnv 0 ps x).get { tmps := vs.toArray ++ Array.replicate (n - vs.toArray.size) undef, defers := [] } w where
  inv := by
    refine ⟨Nat.le_refl _, fun b _ _ => rfl, fun b => ?_, fun b hb => ?_, fun b hb => ?_, fun b hb => absurd rfl hb, fun b hb => absurd rfl hb⟩
    · simp only [gh0]
      split
      · exact .inl rfl
      · exact .inr (.inl rfl)
    · simp only [gh0] at hb
      split at hb
      · cases hb
      · rename_i h; exact Nat.lt_of_not_le fun q => h (.inl q)
    · simp only [gh0] at hb
      split at hb
      · rename_i h; exact h
      · cases hb
  ent := by
    refine init_ent hv (fun j hj => ?_) (fun j => by simp) (fun b hb => hb)
    simp only [Nat.zero_add]
    rw [Array.getD_eq_getD_getElem?, Array.getElem?_append_left (by simpa using hj), List.getElem?_toArray, List.getD_eq_getElem?_getD]
  sz := by
    have := ArgsV.blocks hv
    exact ⟨by simp; omega, fun h => (by cases h)⟩
  df := rfl
  os := rfl
  tape := Tp.refl
  output := rfl
theorem endK_inv {rvs : List ResultVar} {rs : List Ty} {fresh st : Bool} {env : Env} {y : Ress rs} (h : endK T rvs rs fresh st env = some y) : ∃ lss, collect T (litRes rvs env) rvs rs = some (lss, y) ∧ (fresh = true → freshOk lss = true) ∧ (st = true → strictOk rs lss = true) := by
  unfold endK at h
  split at h
  · rename_i lss y' hc
    cases hq : ((!fresh || freshOk lss) && (!st || strictOk rs lss)) with
    | false => rw [hq] at h; cases h
    | true =>
      rw [hq] at h; injection h with h; subst h
      simp only [Bool.and_eq_true, Bool.or_eq_true, Bool.not_eq_true'] at hq
      exact ⟨lss, hc, fun hf => hq.1.resolve_left (by rw [hf]; simp), fun hf => hq.2.resolve_left (by rw [hf]; simp)⟩
  · cases h
theorem retV_of (vs : List Value) : (if h : vs.toArray.size = 1 then vs.toArray[0] else .tuple vs.toArray) = retV vs := by
  match vs with
  | [] => rfl
  | [v] => rfl
  | v :: v' :: r => rfl
theorem results_run {fn : Func} {vs : List Value} (h : (fn.results.toList.mapM (resOne a.tmps)).run P w = .ok vs w) : (results fn a.tmps).run P w = .ok (retV vs) w := by
  have e : (results fn a.tmps) = (do let vs ← fn.results.mapM (resOne a.tmps); pure (if h : vs.size = 1 then vs[0] else .tuple vs)) := by
    unfold results
    have : ∀ rv, (match rv with | .tmp t => pure (a.tmps.getD t undef) | .cell b t => do loadVar t (← asAddr (a.tmps.getD b undef)) : Sem Value) = resOne a.tmps rv := by
      intro rv; cases rv <;> rfl
    congr 1
  rw [e, Array.mapM_eq_mapM_toList]
  simp only [Sem.run_bind, Sem.run_map, h, Result.andThen_ok, Sem.run_pure]
  rw [← retV_of vs]
theorem After_of {C : Ctr} {y : Ress C.rs} {w w1 : World} {ba : List Nat} {g1 : Gh} {a1 : Act} {fn : Func} {n : NS} {env : Env} (hT : TOK P T) (st : St n w (fun _ => False) g1 env.get a1 w1) (hA : g1.al = fun b => b ∈ ba)
    (h : endK T fn.results.toList C.rs C.fresh C.st env = some y) : a1.defers = [] ∧ ∃ v, (results fn a1.tmps).run P w1 = .ok v w1 ∧ After C y w ba (.returned v) w1 := by
  obtain ⟨lss, h1, h2, h3⟩ := endK_inv h
  obtain ⟨g2, q1, q2⟩ := litRes_sound (rvs := fn.results.toList) (fun b hb => by cases hb) st
  obtain ⟨vs, bs, z1, z2, z3, cs, z4⟩ := collect_sound (st := C.st) hT q2.ent h1 h3
  have blw : Below w.heap.size w w1 := ⟨st.os, st.tape.tape, st.output, st.inv.size, fun k hk => st.inv.old k hk (fun h => h)⟩
  have news : ∀ b, g2.own b ≠ 0 → w.heap.size ≤ b := fun b hb => by
    rcases (q2.inv.own b hb).2 with q | q
    · exact q
    · cases q
  refine ⟨st.df, retV vs, results_run z1, vs, bs, rfl, z2, blw, st.tape.dr, fun b hb => ?_, fun hf => ?_⟩
  · rcases z3 b hb with q | ⟨t, q⟩
    · rcases q2.inv.al b q with q | q
      · exact .inl q
      · rw [q1, hA] at q; exact .inr q
    · rcases q2.inv.kd b with r | r | r
      · rw [q] at r; cases r
      · rw [q] at r; cases r
      · rcases r.2 with r | r
        · exact .inl r
        · cases r
  · have hfr := h2 hf
    unfold freshOk at hfr
    split at hfr
    · rename_i l hl
      obtain ⟨p1, p2⟩ := fresh_nodup z4 hl (distinct_nodup hfr)
      exact ⟨p1, fun b hb => ⟨news b (p2 b hb).2, q2.inv.wr b (p2 b hb).2⟩⟩
    · cases hfr
theorem fn_ok {k : Nat} {C : Ctr} {fn : Func} {c : Code} (hm : P.follows .mixedOrders = true) (hT : TOK P T) (hK : KOK P K) (hf : P.funcs[k]? = some fn) (hb : fn.body = some c) (hc : okCode ⟨fn.ntmps, false, undef⟩ c = true) (hp : C.ps.length ≤ fn.ntmps)
    (h : ∀ (x : Args C.ps) (y : Ress C.rs), C.f x = some y → ∃ LT : LTab (Ress C.rs), LTOK P ⟨fn.ntmps, false, undef⟩ LT (endK T fn.results.toList C.rs C.fresh C.st) c ∧ fnK T K H C.rs LT c fn.results.toList C.ps C.fresh C.st x = some y) : FnOK P k C := by
  intro x y hxy w vs ba hv
  obtain ⟨LT, hL, hF⟩ := h x y hxy
  refine calls_of_wp hf hb ?_
  exact evL_sound (W := fun _ => False) (A := fun b => b ∈ ba) hm hT hK (fun b hb => (by cases hb)) hc hL hF (init_St hv hp) rfl (fun env' a' w' g' q1 q2 q3 => After_of hT q2 q3 q1) (fun id env' a' w' g' q1 => (by cases q1)) (fun env' a' w' g' q1 q2 q3 => After_of hT q2 q3 q1)
theorem fn_one {k : Nat} {C : Ctr} {fn : Func} {c : Code} (hi : C.inp = 0) (hm : P.follows .mixedOrders = true) (hT : TOK P T) (hK : KOK P K) (hf : P.funcs[k]? = some fn) (hb : fn.body = some c) (hc : okCode ⟨fn.ntmps, false, undef⟩ c = true) (hp : C.ps.length ≤ fn.ntmps) (hn : fn.name ≠ "runtime.NumGoroutine")
    (h : ∀ (x : Args C.ps) (y : Ress C.rs), C.f x = some y → ∃ LT : LTab (Ress C.rs), LTOK P ⟨fn.ntmps, false, undef⟩ LT (endK T fn.results.toList C.rs C.fresh C.st) c ∧ fnK T K H C.rs LT c fn.results.toList C.ps C.fresh C.st x = some y) : KOne P k C :=
  ⟨fun _ => fn_ok hm hT hK hf hb hc hp h, fun q => (by rw [hi] at q; cases q), fun q => (by rw [hi] at q; cases q), fn, hf, hn, by rw [hb]; rfl⟩
def loopsOf : Code → List Code
  | .seq a b => loopsOf a ++ loopsOf b
  | .cond _ a b => loopsOf a ++ loopsOf b
  | .block _ b => loopsOf b
  | .loop b => [b]
  | _ => []
def loopAt (id : Nat) : Code → Option Code
  | .seq a b => (match loopAt id a with | some c => some c | none => loopAt id b)
  | .cond _ a b => (match loopAt id a with | some c => some c | none => loopAt id b)
  | .block _ b => loopAt id b
  | .loop b => bif Nat.beq (headId b) id then some b else loopAt id b
  | _ => none
def bodyOf (f : Func) : Code := match f.body with | some c => c | none => .skip
def loopOf (f : Func) (id : Nat) : Code := match loopAt id (bodyOf f) with | some c => c | none => .skip
def LTs {α : Type} (P : Program) (n : NS) (LT : LTab α) (kr : Env → Option α) : List Code → Prop
  | [] => True
  | b :: r => (∀ ls, findN LT (headId b) = some ls → LSOK P n ls b kr) ∧ LTs P n LT kr r
theorem LTs_append {α : Type} {LT : LTab α} {kr : Env → Option α} : ∀ {a b : List Code}, LTs P n LT kr (a ++ b) → LTs P n LT kr a ∧ LTs P n LT kr b
  | [], b, h => ⟨trivial, h⟩
  | x :: a, b, h => ⟨⟨h.1, (LTs_append h.2).1⟩, (LTs_append h.2).2⟩
theorem LTOK_of {α : Type} {LT : LTab α} {kr : Env → Option α} : ∀ {c : Code}, LTs P n LT kr (loopsOf c) → LTOK P n LT kr c := by
  intro c
  induction c with
  | seq a b iha ihb => intro h; exact ⟨iha (LTs_append h).1, ihb (LTs_append h).2⟩
  | cond c a b iha ihb => intro h; exact ⟨iha (LTs_append h).1, ihb (LTs_append h).2⟩
  | block id b ih => intro h; exact ih h
  | loop b _ => intro h; exact h.1
  | _ => intro _; exact trivial
theorem LTOK_by {α : Type} {LT : LTab α} {kr : Env → Option α} {c : Code} {l : List Code} (e : loopsOf c = l) (h : LTs P n LT kr l) : LTOK P n LT kr c := LTOK_of (by rw [e]; exact h)
theorem ls_at {α : Type} {LT : LTab α} {kr : Env → Option α} {b : Code} {ls0 : LS α} (h : findN LT (headId b) = some ls0) (ok : LSOK P n ls0 b kr) : ∀ ls, findN LT (headId b) = some ls → LSOK P n ls b kr := by
  intro ls h'
  rw [h] at h'; injection h' with h'; rw [← h']; exact ok
end
def initM (e : TypeId) (u : Ty) (v : List u.den) (m : Int) : Env :=
  [(0, .val false [.rt e u 1 false true false v]), (1, intE .i64 m)]
def endM (e : TypeId) (u : Ty) (rvs : List ResultVar) (env : Env) : Option (Ress [.slice e u, .int .i64]) :=
  match rvs, env.get 0 with
  | [.tmp s], .val false [.rt e' u' tag false lin st v] => bif Nat.beq tag 1 then (match Ty.cast (.slice e u) (Leaf.rt e' u' tag false lin st v).val, asI (env.get s) with
    | some v, some (k, m) => bif kEq k .i64 then some (v, m, ()) else none
    | _, _ => none) else none
  | _, _ => none
def fnM (T : TTab) (K : CTab) (H : List (Nat × List Nat)) (e : TypeId) (u : Ty) (LT : LTab (Ress [.slice e u, .int .i64])) (c : Code) (rvs : List ResultVar) (x : Args [.v (.slice e u), .v (.int .i64)]) : Option (Ress [.slice e u, .int .i64]) :=
  evL T K H LT c (initM e u x.1 x.2.1) (endM e u rvs) (fun _ _ => none) (endM e u rvs)
section
variable {P : Program} {T : TTab} {K : CTab} {H : List (Nat × List Nat)}
open Classical in
noncomputable def ghM (w : World) (v0 : Value) (ba : List Nat) : Gh where
  kd b := if b ∈ ba then .mu 1 else if w.heap.size ≤ b then .fz else .no
  own b := if b ∈ ba then 1 else 0
  H _ := v0
  bx _ := 0
  al b := b ∈ ba
  mt _ := (.unit, .unit)
theorem initM_St {w : World} {e : TypeId} {u : Ty} {x : List u.den} {m : Int} {v0 v1 : Value} {ba : List Nat} {n : Nat} (hu : u.flat = true) (ho : OneV w.heap (.slice e u) x v0 ba) (h1 : v1 = .int .i64 m) (h2 : (Lit.int .i64 m).wf = true) (hn : 2 ≤ n)
    (hw : ∀ b ∈ ba, ∃ c e, w.heap[b]? = some (.cells c e (0, 0))) :
    St ⟨n, true, v0⟩ w (fun b => b ∈ ba) (ghM w v0 ba) (initM e u x m).get { tmps := [v0, v1].toArray ++ Array.replicate (n - [v0, v1].toArray.size) undef, defers := [] } w where
  inv := by
    have lt : ∀ b ∈ ba, b < w.heap.size := ho.1.lt
    refine ⟨Nat.le_refl _, fun b _ _ => rfl, fun b => ?_, fun b hb => ?_, fun b hb => ?_, fun b hb => ?_, fun b hb => ?_⟩
    · simp only [ghM]
      by_cases q : b ∈ ba
      · exact .inr (.inr ⟨lt b q, .inr q⟩)
      · rw [if_neg q]
        split
        · exact .inl rfl
        · exact .inr (.inl rfl)
    · simp only [ghM] at hb
      split at hb
      · cases hb
      · split at hb
        · cases hb
        · omega
    · simp only [ghM] at hb
      split at hb
      · cases hb
      · split at hb
        · rename_i q; exact .inl q
        · cases hb
    · simp only [ghM] at hb
      split at hb
      · rename_i q; exact ⟨lt b q, .inr q⟩
      · exact absurd rfl hb
    · simp only [ghM] at hb
      split at hb
      · rename_i q; exact hw b q
      · exact absurd rfl hb
  ent s := by
    simp only [initM, Env.get]
    cases q0 : Nat.beq 0 s with
    | true =>
      have := Nat.eq_of_beq_eq_true q0; subst this
      simp only [cond_true]
      have ev : ([v0, v1].toArray ++ Array.replicate (n - [v0, v1].toArray.size) undef).getD 0 undef = v0 := by rw [Array.getD_eq_getD_getElem?, Array.getElem?_append_left (by simp)]; rfl
      rw [ev]
      obtain ⟨⟨hd, blk, bs', z1, z2, z3⟩, _, z4⟩ := ho
      have hc := z4 rfl
      have eh : hd = v0 := by rw [hc] at z1; injection z1 with z1 _; exact z1.symm
      subst eh
      have eb := slR_flat hu z2
      subst eb
      rw [List.append_nil] at z3
      refine ⟨[hd], ba, rfl, fun _ => ⟨rfl, hc⟩, LeafB.many ⟨hd, blk, [], rfl, by rw [z3, List.append_nil], fun _ => rfl, fun q => (by cases q), z2, fun b hb => (by cases hb), fun b hb => ?_, fun _ => ⟨fun b hb => (by cases hb), List.nodup_nil⟩⟩⟩
      have hm : b ∈ ba := by rw [z3, hb]; simp
      refine ⟨by simp [ghM, hm], by simp [ghM, hm], ?_⟩
      rcases z2 with ⟨_, _, _, q, _⟩ | ⟨b', o, cap, c, fr, _, q1, _, q2, _⟩
      · rw [hb] at q; cases q
      · rw [hb] at q1; injection q1 with q1; subst q1
        obtain ⟨c', e', q3⟩ := hw b hm
        exact ⟨c', e', q3⟩
    | false =>
      simp only [cond_false]
      cases q1 : Nat.beq 1 s with
      | true =>
        have := Nat.eq_of_beq_eq_true q1; subst this
        simp only [cond_true]
        have ev : ([v0, v1].toArray ++ Array.replicate (n - [v0, v1].toArray.size) undef).getD 1 undef = v1 := by rw [Array.getD_eq_getD_getElem?, Array.getElem?_append_left (by simp)]; rfl
        rw [ev, h1]
        exact intE_sound h2
      | false => trivial
  sz := ⟨by simp; omega, fun _ => by rw [Array.getD_eq_getD_getElem?, Array.getElem?_append_left (by simp)]; rfl⟩
  df := rfl
  os := rfl
  tape := Tp.refl
  output := rfl
theorem AfterM_of {e : TypeId} {u : Ty} {x : List u.den} {C : Ctr} {w w1 : World} {ba : List Nat} {g1 : Gh} {a1 : Act} {fn : Func} {n : Nat} {env : Env} {v0 : Value} {r : List Value} {F : Args [.v (.slice e u), .v (.int .i64)] → Option (Ress [.slice e u, .int .i64])} {y : Ress [.slice e u, .int .i64]} (hu : u.flat = true) (ho : OneV w.heap (.slice e u) x v0 ba)
    (st : St ⟨n, true, v0⟩ w (fun b => b ∈ ba) g1 env.get a1 w1) (h : endM e u fn.results.toList env = some y) :
    a1.defers = [] ∧ ∃ v, (results fn a1.tmps).run P w1 = .ok v w1 ∧ AfterIn ⟨[.v (.slice e u), .v (.int .i64)], [.slice e u, .int .i64], false, false, 1, F⟩ y w (v0 :: r) ba (.returned v) w1 := by
  refine ⟨st.df, ?_⟩
  unfold endM at h
  split at h
  · rename_i s e' u' tag lin sst v hrv hg
    cases ht : Nat.beq tag 1 with
    | false => rw [ht] at h; cases h
    | true =>
      rw [ht] at h; simp only [cond_true] at h
      have := Nat.eq_of_beq_eq_true ht; subst this
      split at h
      · rename_i v' k m hc hi
        cases hk : kEq k .i64 with
        | false => rw [hk] at h; cases h
        | true =>
          rw [hk] at h; injection h with h; subst h
          have := kEq_eq hk; subst this
          obtain ⟨ee, hc⟩ := Ty.cast_eq hc
          injection ee with e1 e2
          subst e1; subst e2
          have hc : v = v' := hc
          subst hc
          have he := st.ent 0
          rw [hg] at he
          rw [st.sz.2 rfl] at he
          obtain ⟨bs, hl, hcc⟩ := val1 he
          obtain ⟨hd, blk, bs', y1, y2, _, _, y5, _, y7, _⟩ := hl
          injection y1 with y1 _
          have y1 : hd = v0 := y1.symm
          subst y1
          have eb := slR_flat hu y5
          subst eb
          have hw1 := asI_inv (st.ent s) hi
          obtain ⟨⟨hd2, blk2, bs2, z1, z2, z3⟩, _, z4⟩ := ho
          have eh : hd2 = hd := by rw [z4 rfl] at z1; injection z1 with z1 _; exact z1.symm
          subst eh
          have eb2 := slR_flat hu z2
          subst eb2
          have ebl := slR_blk z2 y5
          subst ebl
          have hba : ba = blk2.toList := by rw [z3, List.append_nil]
          refine ⟨a1.tmps.getD s undef, ?_, hd2, [a1.tmps.getD s undef], ba, rfl, rfl, ?_, ⟨by rw [hba]; cases blk2 <;> simp, fun _ h => h⟩, st.os, st.tape, st.output, st.inv.size, fun b hb hn => st.inv.old b hb hn, fun b hb => ?_⟩
          · have : (fn.results.toList.mapM (resOne a1.tmps)).run P w1 = .ok [a1.tmps.getD s undef] w1 := by rw [hrv]; rfl
            exact results_run this
          · refine ⟨hd2, [a1.tmps.getD s undef], ba, [], rfl, ⟨⟨hd2, blk2, [], by rw [hcc], y5, by rw [hba, List.append_nil]⟩, fun q => (by cases q), fun _ => hcc⟩, fun q => (by cases q), ?_, by simp⟩
            refine ⟨_, [], [], [], rfl, ?_, fun q => (by cases q), ⟨rfl, rfl⟩, rfl⟩
            rw [hw1.1]
            exact one_int hw1.2
          · obtain ⟨q1, q2, c, q3⟩ := y7 b (by rw [hba] at hb; simpa using hb)
            exact ⟨c, q3⟩
      · cases h
  · cases h
theorem fnM_one {k : Nat} {e : TypeId} {u : Ty} {fn : Func} {c : Code} {F : Args [.v (.slice e u), .v (.int .i64)] → Option (Ress [.slice e u, .int .i64])} (hu : u.flat = true) (hm : P.follows .mixedOrders = true) (hT : TOK P T) (hK : KOK P K) (hf : P.funcs[k]? = some fn) (hb : fn.body = some c) (hc : okCode ⟨fn.ntmps, true, undef⟩ c = true) (hp : 2 ≤ fn.ntmps) (hn : fn.name ≠ "runtime.NumGoroutine")
    (h : ∀ (x : Args [.v (.slice e u), .v (.int .i64)]) (y : Ress [.slice e u, .int .i64]), F x = some y → ∃ LT : LTab (Ress [.slice e u, .int .i64]), (∀ v0, LTOK P ⟨fn.ntmps, true, v0⟩ LT (endM e u fn.results.toList) c) ∧ fnM T K H e u LT c fn.results.toList x = some y) :
    KOne P k ⟨[.v (.slice e u), .v (.int .i64)], [.slice e u, .int .i64], false, false, 1, F⟩ := by
  refine ⟨fun q => (by cases q), fun _ => ?_, fun q => (by cases q), fn, hf, hn, by rw [hb]; rfl⟩
  intro x y hxy w vs ba hv hnd hw
  obtain ⟨LT, hL, hF⟩ := h x y hxy
  obtain ⟨v0, r1, b1, b2, rfl, rfl, o1, v1, r2, b3, b4, rfl, rfl, o2, rfl, rfl⟩ := hv
  have eb3 : b3 = [] := o2.1.flat rfl
  subst eb3
  simp only [List.append_nil] at *
  have hv1 : v1 = .int .i64 x.2.1 ∧ (Lit.int .i64 x.2.1).wf = true := by
    have c1 := o2.2.2 rfl
    have c2 := o2.1.1
    rw [c1] at c2
    simp only [List.cons.injEq, and_true] at c2
    exact ⟨c2, o2.1.2.1⟩
  refine calls_of_wp hf hb ?_
  have okc : okCode ⟨fn.ntmps, true, v0⟩ c = true := by
    have : ∀ c, okCode ⟨fn.ntmps, true, undef⟩ c = okCode ⟨fn.ntmps, true, v0⟩ c := by
      intro c
      induction c <;> simp_all [okCode]
    rw [← this]; exact hc
  exact evL_sound (W := fun b => b ∈ b1) (A := fun b => b ∈ b1) hm hT hK (fun b hb => hb) okc (hL v0) hF (initM_St hu o1 hv1.1 hv1.2 hp hw) rfl (fun env' a' w' g' q1 q2 q3 => AfterM_of (C := ⟨_, _, false, false, 1, F⟩) (x := x.1) hu o1 q2 q1) (fun id env' a' w' g' q1 => (by cases q1)) (fun env' a' w' g' q1 q2 q3 => AfterM_of (C := ⟨_, _, false, false, 1, F⟩) (x := x.1) hu o1 q2 q1)
end
section
variable {P : Program} {T : TTab} {K : CTab} {H : List (Nat × List Nat)}
end
section
variable {P : Program} {T : TTab} {K : CTab} {H : List (Nat × List Nat)}
end
section
variable {P : Program} {T : TTab} {K : CTab} {n : NS} {w0 w : World} {W : Nat → Prop} {g : Gh} {a : Act} {d : Nat}
theorem wpOps_cons {ops : Array Oper} {i : Nat} {rest : List Nat} {Q : Exit → Act → World → Prop} {o : Oper} (h : ops[i]? = some o) (hg : o.guard = none) (hw : o.wp P a w (wpOps P ops Q rest) Q) : wpOps P ops Q (i :: rest) a w := by
  simp only [wpOps, h]
  have : Region.wanted o (yielded ops a.tmps) = true := by simp [Region.wanted, hg]
  rw [this]
  exact .inl hw
theorem ev_wp {c : Code} {A : Nat → Prop} {env env1 : Env} {ks : List Nat} {Q : Exit → Act → World → Prop} (hm : P.follows .mixedOrders = true) (hT : TOK P T) (hK : KOK P K) (hwal : ∀ b, W b → A b) (hc : okCode n c = true) (hl : LTOK P n ([] : LTab Env) (fun _ => none) c)
    (h : evL T K [] [] c env (fun e => some (keepK ks e)) (fun _ _ => none) (fun _ => none) = some env1) (st : St n w0 W g env.get a w) (hA : g.al = A) (hk : ∀ a' w' g', St n w0 W g' env1.get a' w' → g'.al = A → Q .normal a' w') : c.wp P Q a w :=
  evL_sound (Q := Q) hm hT hK hwal hc hl h st hA (fun env' a' w' g' q1 q2 q3 => hk a' w' g' (by injection q1 with q1; rw [← q1]; exact q2.kill (keepK_get ks env')) q3) (fun _ _ _ _ _ q => (by cases q)) (fun _ _ _ _ q => (by cases q))
end
open Go Go.RowKit Go.ChangeShapes Go.WideShapes
def okV : (t : Ty) → t.den → Bool
  | .int k, x => kwf k x
  | .arr n t, x => okT (okV t) n x
  | .pair a b, x => okV a x.1 && okV b x.2
  | .slice _ t, x => decide (x.length ≤ 9223372036854775807) && x.all (okV t)
  | _, _ => true
where
  okT {α : Type} (f : α → Bool) : (n : Nat) → Tup α n → Bool
    | 0, _ => true
    | n + 1, x => f x.1 && okT f n x.2
def okA : (ps : List PK) → Args ps → Bool
  | [], _ => true
  | .v t :: r, x => okV t x.1 && okA r x.2
  | .p t :: r, x => okV t x.1 && okA r x.2
  | .fn _ :: r, x => okA r x.2
  | .m _ _ :: r, x => okA r x.2
theorem wf_kwf {k : IntKind} {n : Int} (h : (Lit.int k n).wf = true) : kwf k n = true := by
  simpa [Lit.wf, kwf] using h
section
variable {P : Program} {T : TTab} {H : Type} {enc : TypeId × Value → H} {w : World} {base : Nat} {spare : Nat → Bool} {held : Bool}
theorem cells_size {t : TypeId} {ty : Ty} (k : TyOK P T t ty) : P.cellsOf t = ty.size := by
  obtain ⟨i, h1, h2, _⟩ := k.info
  simp [Program.cellsOf, h1, h2]
end
section
variable {P : Program} {T : TTab} {H : Type} {enc : TypeId × Value → H} {w : World} {base : Nat} {spare : Nat → Bool} {held : Bool}
theorem mkTupB {α : Type} {R : α → List Value → List Nat → Prop} {f : α → Bool} {s : Nat} : ∀ (n : Nat) (cs : List Value), (∀ i, i < n → ∃ y b, R y ((cs.drop (i * s)).take s) b ∧ f y = true) → ∃ (x : Tup α n) (bs : List Nat), RdL R s (tlist n x) cs bs ∧ okV.okT f n x = true
  | 0, cs, _ => ⟨(), [], by simp [RdL, tlist], rfl⟩
  | n + 1, cs, h => by
    obtain ⟨y, b, h1, h2⟩ := h 0 (by omega)
    obtain ⟨x, bs, q1, q2⟩ := mkTupB n (cs.drop s) (fun i hi => by
      obtain ⟨z, b', z1, z2⟩ := h (i + 1) (by omega)
      refine ⟨z, b', ?_, z2⟩
      rw [List.drop_drop]
      rw [show s + i * s = (i + 1) * s by rw [Nat.succ_mul]; omega]
      exact z1)
    refine ⟨(y, x), b ++ bs, ⟨b, bs, by simpa using h1, q1, rfl⟩, ?_⟩
    simp only [okV.okT, h2, q2, Bool.and_self]
theorem mkLst {α : Type} {R : α → List Value → List Nat → Prop} {f : α → Bool} {s : Nat} : ∀ (n : Nat) (cs : List Value), (∀ i, i < n → ∃ y b, R y ((cs.drop (i * s)).take s) b ∧ f y = true) → ∃ (l : List α) (bs : List Nat), l.length = n ∧ RdL R s l cs bs ∧ l.all f = true
  | 0, cs, _ => ⟨[], [], rfl, rfl, rfl⟩
  | n + 1, cs, h => by
    obtain ⟨y, b, h1, h2⟩ := h 0 (by omega)
    obtain ⟨x, bs, q0, q1, q2⟩ := mkLst n (cs.drop s) (fun i hi => by
      obtain ⟨z, b', z1, z2⟩ := h (i + 1) (by omega)
      refine ⟨z, b', ?_, z2⟩
      rw [List.drop_drop]
      rw [show s + i * s = (i + 1) * s by rw [Nat.succ_mul]; omega]
      exact z1)
    refine ⟨y :: x, b ++ bs, by simp [q0], ⟨b, bs, by simpa using h1, q1, rfl⟩, ?_⟩
    simp only [List.all_cons, h2, q2, Bool.and_self]
theorem cell_at {a : Addr} {v : Value} (h : w.cell? a = some v) : a.spot = none ∧ ∃ c e fr, w.heap[a.block]? = some (.cells c e fr) ∧ c[a.off]? = some v := by
  unfold World.cell? at h
  split at h
  · rename_i c e fr hc
    split at h
    · cases h
    · rename_i hs
      exact ⟨by cases hq : a.spot <;> simp_all, c, e, fr, hc, h⟩
  · cases h
theorem cells_get {a : Addr} {n : Nat} {cs : List Value} (h : w.cells? base a n = some cs) : cs.length = n ∧ ∀ i, i < n → w.cell? (a.add i) = cs[i]? := by
  unfold World.cells? at h
  split at h
  · refine ⟨by simpa using mapM_some_length h, fun i hi => ?_⟩
    exact mapM_some_get h i i (by simp [hi])
  · cases h
theorem open_any (hT : TOK P T) : ∀ {ty : Ty},
    (∀ {t : TypeId} {fuel : Nat} {cs : List Value} {x : DataW H × List MemPlace}, TyOK P T t ty → DataW.trod enc P w base spare held fuel t cs = some x → (∀ b, spare b = true) → ∃ (y : ty.den) (bs : List Nat), Rd w.heap ty y cs bs ∧ okV ty y = true) ∧
    (∀ (fs : List Field) (off n : Nat) (cs : List Value), FsOK P T fs ty off → (cs.drop off).length = ty.size → (∀ b, spare b = true) →
      (∀ f, f ∈ fs → ∃ y, DataW.trod enc P w base spare held n f.type ((cs.drop f.offset).take (P.cellsOf f.type)) = some y) → ∃ (y : ty.den) (bs : List Nat), Rd w.heap ty y (cs.drop off) bs ∧ okV ty y = true) := by
  intro ty
  induction ty with
  | int k =>
    refine ⟨fun {t fuel cs x} kk h _ => ?_, fun fs off n cs h => by cases fs <;> exact h.elim⟩
    obtain ⟨m, rfl, _, hw⟩ := DataW.trod_int kk.und h
    exact ⟨m, [], ⟨rfl, hw, rfl⟩, wf_kwf hw⟩
  | bool =>
    refine ⟨fun {t fuel cs x} kk h _ => ?_, fun fs off n cs h => by cases fs <;> exact h.elim⟩
    obtain ⟨m, rfl, _⟩ := DataW.trod_bool kk.und h
    exact ⟨m, [], ⟨rfl, rfl⟩, rfl⟩
  | unit =>
    have F : ∀ (fs : List Field) (off n : Nat) (cs : List Value), FsOK P T fs .unit off → (cs.drop off).length = Ty.unit.size → (∀ b, spare b = true) →
      (∀ f, f ∈ fs → ∃ y, DataW.trod enc P w base spare held n f.type ((cs.drop f.offset).take (P.cellsOf f.type)) = some y) → ∃ (y : Ty.unit.den) (bs : List Nat), Rd w.heap .unit y (cs.drop off) bs ∧ okV .unit y = true :=
      fun fs off n cs _ hl _ _ => ⟨(), [], ⟨List.eq_nil_of_length_eq_zero hl, rfl⟩, rfl⟩
    refine ⟨fun {t fuel cs x} kk h hs => ?_, F⟩
    obtain ⟨fs, u1, _, u3⟩ := kk.und
    obtain ⟨xs, n, _, _, hlen, hxl, hx⟩ := DataW.trod_struct u1 h
    rw [cells_size kk] at hlen
    exact F fs.toList 0 n cs u3 hlen hs (fun f hf => by
      obtain ⟨i, hi, e⟩ := List.getElem_of_mem hf
      have hi' : i < xs.length := by rw [hxl]; simpa using hi
      exact ⟨xs[i], by rw [hx i f (by rw [Array.getElem?_eq_getElem (by simpa using hi)]; simpa using e), List.getElem?_eq_getElem hi']⟩)
  | pair a b iha ihb =>
    have F : ∀ (fs : List Field) (off n : Nat) (cs : List Value), FsOK P T fs (.pair a b) off → (cs.drop off).length = (Ty.pair a b).size → (∀ b, spare b = true) →
      (∀ f, f ∈ fs → ∃ y, DataW.trod enc P w base spare held n f.type ((cs.drop f.offset).take (P.cellsOf f.type)) = some y) → ∃ (y : (Ty.pair a b).den) (bs : List Nat), Rd w.heap (.pair a b) y (cs.drop off) bs ∧ okV (.pair a b) y = true := by
      intro fs off n cs hf hl hs hr
      cases fs with
      | nil => exact hf.elim
      | cons f fs =>
        obtain ⟨f1, f2, _, _, f3⟩ := hf
        have kf := hT _ _ f2
        obtain ⟨x, hx⟩ := hr f (.head _)
        rw [f1, cells_size kf] at hx
        obtain ⟨y1, b1, q1, q2⟩ := iha.1 kf hx hs
        have hl' : (cs.drop (off + a.size)).length = b.size := by
          have : (Ty.pair a b).size = a.size + b.size := rfl
          rw [this] at hl
          simp only [List.length_drop] at hl ⊢
          omega
        obtain ⟨y2, b2, q3, q4⟩ := ihb.2 fs (off + a.size) n cs f3 hl' hs (fun f' h' => hr f' (.tail _ h'))
        refine ⟨(y1, y2), b1 ++ b2, ⟨b1, b2, q1, ?_, rfl⟩, ?_⟩
        · rw [List.drop_drop]; exact q3
        · simp only [okV, q2, q4, Bool.and_self]
    refine ⟨fun {t fuel cs x} kk h hs => ?_, F⟩
    obtain ⟨fs, u1, _, u3⟩ := kk.und
    obtain ⟨xs, n, _, _, hlen, hxl, hx⟩ := DataW.trod_struct u1 h
    rw [cells_size kk] at hlen
    exact F fs.toList 0 n cs u3 hlen hs (fun f hf => by
      obtain ⟨i, hi, e⟩ := List.getElem_of_mem hf
      have hi' : i < xs.length := by rw [hxl]; simpa using hi
      exact ⟨xs[i], by rw [hx i f (by rw [Array.getElem?_eq_getElem (by simpa using hi)]; simpa using e), List.getElem?_eq_getElem hi']⟩)
  | arr n u ih =>
    refine ⟨fun {t fuel cs x} kk h hs => ?_, fun fs off n cs h => by cases fs <;> exact h.elim⟩
    obtain ⟨e, u1, u2, _, _⟩ := kk.und
    obtain ⟨xs, m, _, _, hlen, hxl, hx⟩ := DataW.trod_array u1 h
    have ke := hT _ _ u2
    rw [cells_size kk] at hlen
    rw [cells_size ke] at hx
    obtain ⟨y, bs, q1, q2⟩ := mkTupB (R := Rd w.heap u) (f := okV u) n cs (fun i hi => by
      have e0 := hx i hi
      rw [List.getElem?_eq_getElem (by omega)] at e0
      exact ih.1 ke e0 hs)
    exact ⟨y, bs, ⟨hlen, q1⟩, q2⟩
  | slice e u ih =>
    refine ⟨fun {t fuel cs x} kk h hs => ?_, fun fs off n cs h => by cases fs <;> exact h.elim⟩
    obtain ⟨u1, u2, u3⟩ := kk.und
    have ke := hT _ _ u2
    rcases DataW.trod_slice u1 h with ⟨rfl, _⟩ | ⟨a, len, cap, elems, rest, n, _, rfl, _, _, hlc, hmx, hel, he, hr, _⟩
    · exact ⟨[], [], ⟨_, none, [], rfl, .inl ⟨none, rfl, rfl, rfl, rfl⟩, rfl⟩, rfl⟩
    · obtain ⟨hrl, hr⟩ := hr (hs _)
      rw [cells_size ke] at he hr
      rcases Nat.eq_zero_or_pos cap with hc | hc
      · have hl0 : len = 0 := by omega
        subst hc; subst hl0
        exact ⟨[], [], ⟨_, none, [], rfl, .inl ⟨some a, rfl, rfl, rfl, rfl⟩, rfl⟩, rfl⟩
      · have hC : ∀ i, i < cap → ∃ cs', w.cells? base (a.add (i * u.size)) u.size = some cs' ∧ (i < len → ∃ y, DataW.trod enc P w base spare held n e cs' = some y) := by
          intro i hi
          by_cases q : i < len
          · have e0 := he i q
            rw [List.getElem?_eq_getElem (by omega)] at e0
            obtain ⟨cs', z1, z2⟩ := Option.bind_eq_some_iff.1 e0
            exact ⟨cs', z1, fun _ => ⟨_, z2⟩⟩
          · have e0 := hr (i - len) (by omega)
            rw [List.getElem?_eq_getElem (by omega), show len + (i - len) = i by omega] at e0
            obtain ⟨cs', z1, z2⟩ := Option.bind_eq_some_iff.1 e0
            exact ⟨cs', z1, fun h => absurd h q⟩
        have hus : 0 < u.size := Nat.pos_of_ne_zero u3
        have s1 : a.spot = none := by
          obtain ⟨cs0, z1, _⟩ := hC 0 hc
          obtain ⟨z2, z3⟩ := cells_get z1
          have z4 := z3 0 (by omega)
          rw [List.getElem?_eq_getElem (by omega)] at z4
          have e0 : (a.add (0 * u.size)).add 0 = a := by simp [Addr.add]
          rw [e0] at z4
          exact (cell_at z4).1
        obtain ⟨b0, o0, sp⟩ := a
        have s1 : sp = none := s1
        subst s1
        obtain ⟨csl, z1, _⟩ := hC (cap - 1) (by omega)
        obtain ⟨z2, z3⟩ := cells_get z1
        have z4 := z3 (u.size - 1) (by omega)
        rw [List.getElem?_eq_getElem (by omega)] at z4
        rw [addr_add, addr_add] at z4
        obtain ⟨_, c, e', fr, s2, s3⟩ := cell_at z4
        have s2 : w.heap[b0]? = some (.cells c e' fr) := s2
        have hsz : o0 + cap * u.size ≤ c.size := by
          have : o0 + (cap - 1) * u.size + (u.size - 1) < c.size := by
            rcases Nat.lt_or_ge (o0 + (cap - 1) * u.size + (u.size - 1)) c.size with q | q
            · exact q
            · have s3 : c[o0 + (cap - 1) * u.size + (u.size - 1)]? = some csl[u.size - 1] := s3
              rw [Array.getElem?_eq_none q] at s3; cases s3
          have e1 : cap * u.size = (cap - 1) * u.size + u.size := by
            rw [← Nat.succ_mul]; congr 1; omega
          omega
        obtain ⟨l, bs, q0, q1, q2⟩ := mkLst (R := Rd w.heap u) (f := okV u) len (c.toList.drop o0) (fun i hi => by
          obtain ⟨cs', y1, y2⟩ := hC i (by omega)
          obtain ⟨x', y2⟩ := y2 hi
          obtain ⟨y3, y4⟩ := cells_get y1
          have hi2 : (i + 1) * u.size ≤ cap * u.size := Nat.mul_le_mul_right _ (by omega)
          rw [Nat.succ_mul] at hi2
          have ecs : ((c.toList.drop o0).drop (i * u.size)).take u.size = cs' := by
            apply List.ext_getElem?
            intro j
            by_cases hj : j < u.size
            · rw [List.getElem?_take_of_lt hj, List.getElem?_drop, List.getElem?_drop, ← y4 j hj]
              have : w.cell? (((⟨b0, o0, none⟩ : Addr).add (i * u.size)).add j) = c[o0 + i * u.size + j]? := by
                rw [addr_add, addr_add]
                unfold World.cell?
                show (match w.heap[b0]? with | some (.cells c _ _) => if (none : Option Nat).isSome then none else c[o0 + i * u.size + j]? | _ => none) = _
                rw [s2]; rfl
              rw [this]; simp; congr 1; omega
            · rw [List.getElem?_eq_none (by simp; omega), List.getElem?_eq_none (by omega)]
          rw [ecs]
          exact ih.1 ke y2 hs)
        exact ⟨l, [b0] ++ bs, ⟨_, some b0, bs, rfl, .inr ⟨b0, o0, cap, c, fr, by rw [q0], rfl, ⟨by omega, hc⟩, ⟨e', s2⟩, hsz, q1⟩, rfl⟩, by
          have hmx : cap ≤ 9223372036854775807 := hmx
          have : decide (l.length ≤ 9223372036854775807) = true := decide_eq_true (by omega)
          show (decide (l.length ≤ 9223372036854775807) && l.all (okV u)) = true
          rw [this, q2]; rfl⟩
theorem open_val (hT : TOK P T) {ty : Ty} {t : TypeId} {r : Reach} {v : Value} {d : DataW H} {ps : List MemPlace} (ht : tyOf T t = some ty) {base2 : Nat} (hval : Value.okWide P w r base2 t v) (hs : ∀ b, spare b = true) (h : DataW.Trod enc P w base spare held t v d ps) :
    ∃ (y : ty.den) (bs : List Nat), OneV w.heap ty y v bs ∧ okV ty y = true := by
  obtain ⟨fuel, hx⟩ := h
  have k := hT _ _ ht
  obtain ⟨y, bs, q1, q2⟩ := (open_any hT).1 k hx hs
  refine ⟨y, bs, ⟨q1, fun ha => ?_, fun ha => ?_⟩, q2⟩
  · cases ty with
    | arr n u =>
      obtain ⟨e, u1, _⟩ := k.und
      simp only [Value.okWide, u1] at hval
      obtain ⟨cs, h1, _⟩ := hval
      subst h1; rfl
    | int k => cases ha
    | bool => cases ha
    | slice e u => cases ha
    | unit =>
      obtain ⟨fs, u1, _⟩ := k.und
      simp only [Value.okWide, u1] at hval
      obtain ⟨cs, h1, _⟩ := hval
      subst h1; rfl
    | pair a b =>
      obtain ⟨fs, u1, _⟩ := k.und
      simp only [Value.okWide, u1] at hval
      obtain ⟨cs, h1, _⟩ := hval
      subst h1; rfl
  · cases ty with
    | int kk =>
      obtain ⟨m, rfl⟩ := okWide_int k.und hval
      rfl
    | bool =>
      have u1 : P.underlying t = some .bool := k.und
      simp only [Value.okWide, Cell.okWide, Cell.ok, u1] at hval
      cases v <;> first | rfl | exact hval.elim
    | slice e u =>
      have u1 := k.und.1
      simp only [Value.okWide, Cell.okWide, Cell.ok, u1] at hval
      cases v <;> first | rfl | exact hval.elim
    | arr n u => cases ha
    | unit => cases ha
    | pair a b => cases ha
end
abbrev i64 : Ty := .int .i64
abbrev u8 : Ty := .int .u8
abbrev ex : Ty := .arr 3 u8
abbrev mat : Ty := .arr 3 ex
abbrev term : Ty := .pair ex (.pair i64 .unit)
abbrev poly : Ty := .pair i64 (.pair i64 (.pair (.slice 135 term) .unit))
abbrev lterm : Ty := .pair ex (.pair i64 .unit)
abbrev lpoly : Ty := .pair i64 (.pair i64 (.pair (.slice 158 lterm) .unit))
abbrev TT : TTab := [(2, i64), (3, i64), (4, .bool), (5, u8), (22, ex), (23, mat), (24, .slice 2 i64), (27, mat), (34, .slice 24 (.slice 2 i64)), (56, .slice 135 term), (58, poly), (105, ex), (135, term), (45, .pair i64 (.pair i64 (.pair (.slice 23 mat) .unit))), (46, .pair i64 (.pair i64 (.pair (.slice 23 mat) .unit))), (51, .pair i64 (.pair i64 (.pair (.slice 27 mat) .unit))), (49, .slice 27 mat), (44, .slice 23 mat), (37, .slice 58 poly), (123, .slice 37 (.slice 58 poly)), (82, .slice 158 lterm), (84, lpoly), (158, lterm), (32, .slice 84 lpoly), (99, .slice 105 ex), (112, mapT 105 2), (113, mapT 105 2)]
theorem tt_ok : TOK Try.prog TT := tokB_ok (by kernel_rfl)
abbrev vv (t : Ty) : Sh := .val false [.fz t 0 false]
abbrev va (t : Ty) : Sh := .val true [.fz t 0 false]
abbrev bb (t : Ty) : Sh := .box false [.fz t 0 false]
abbrev vr (e : TypeId) (t : Ty) (tag : Nat) (st : Bool) : Sh := .val false [.rt e t tag false true st]
abbrev w6 (x : Int) : Int := IntKind.wrap .i64 x
abbrev w8 (x : Int) : Int := IntKind.wrap .u8 x
abbrev tn (x : Int) : Nat := Int.toNat x
abbrev ib (i n : Int) : Bool := decide ((0 : Int) ≤ i) && decide (i < n)
theorem mixed : Try.prog.follows .mixedOrders = true := by kernel_rfl
abbrev R159 : Type := Ress [i64]
abbrev G159 : Type := Args [.v ex] → Option R159
abbrev kp159 : List (Nat × List Nat) := [(0, [1]), (1, [2])]
abbrev ct159 : CTab := []
def fn159 (F : Nat) (x : Args [.v ex]) : Option R159 :=
  match x with
  | (x0, _) => (some ((w6 ((w6 ((w6 (tget (0 : Int) 3 x0 (tn (0 : Int)))) + (w6 (tget (0 : Int) 3 x0 (tn (1 : Int)))))) + (w6 (tget (0 : Int) 3 x0 (tn (2 : Int)))))), ()))
theorem ev159 (F : Nat) (x : Args [.v ex]) : fnK TT (ct159 ) kp159 [i64] [] (bodyOf Try.f159) [.tmp 2] [.v ex] false false x = fn159 F x := by
  obtain ⟨x0, _⟩ := x
  kernel_rfl
theorem ok159 (hK : KOK Try.prog (ct159 )) (cf : G159) (h : ∀ x y, cf x = some y → ∃ F, fn159 F x = some y) : KOne Try.prog 159 ⟨[.v ex], [i64], false, false, 0, cf⟩ :=
  fn_one rfl (c := bodyOf Try.f159) mixed tt_ok hK Try.func159 (by kernel_rfl) (by kernel_rfl) (Nat.le_of_ble_eq_true (by kernel_rfl)) (by decide) fun x y hxy => by
    obtain ⟨F, hF⟩ := h x y hxy
    exact ⟨[], LTOK_by (l := []) (by kernel_rfl) trivial, (ev159 F x).trans hF⟩
abbrev R151 : Type := Ress [i64]
abbrev G151 : Type := Args [.v ex, .v ex] → Option R151
abbrev kp151 : List (Nat × List Nat) := [(0, [2, 3]), (1, [2, 3, 5]), (2, [12, 2, 3, 5]), (3, [4]), (4, [18, 3, 2]), (5, [4]), (6, [4])]
abbrev ct151 (g159 : G159) : CTab := [(159, ⟨[.v ex], [i64], false, false, 0, g159⟩)]
def fn151 (g159 : G159) (F : Nat) (x : Args [.v ex, .v ex]) : Option R151 :=
  match x with
  | (x0, x1, _) => (match (g159 (x0, ())) with | some r5 => (match (g159 (x1, ())) with | some r6 => (bif (!decide ((w6 (r5.1 - r6.1)) = (0 : Int))) then (some ((w6 (r5.1 - r6.1)), ())) else (bif (!decide ((tget (0 : Int) 3 x0 (tn (0 : Int))) = (tget (0 : Int) 3 x1 (tn (0 : Int))))) then (some ((w6 ((w6 (tget (0 : Int) 3 x1 (tn (0 : Int)))) - (w6 (tget (0 : Int) 3 x0 (tn (0 : Int)))))), ())) else (some ((w6 ((w6 (tget (0 : Int) 3 x1 (tn (1 : Int)))) - (w6 (tget (0 : Int) 3 x0 (tn (1 : Int)))))), ())))) | none => none) | none => none)
theorem ev151 (g159 : G159) (F : Nat) (x : Args [.v ex, .v ex]) : fnK TT (ct151 g159 ) kp151 [i64] [] (bodyOf Try.f151) [.tmp 4] [.v ex, .v ex] false false x = fn151 g159 F x := by
  obtain ⟨x0, x1, _⟩ := x
  kernel_rfl
theorem ok151 (g159 : G159) (hK : KOK Try.prog (ct151 g159 )) (cf : G151) (h : ∀ x y, cf x = some y → ∃ F, fn151 g159 F x = some y) : KOne Try.prog 151 ⟨[.v ex, .v ex], [i64], false, false, 0, cf⟩ :=
  fn_one rfl (c := bodyOf Try.f151) mixed tt_ok hK Try.func151 (by kernel_rfl) (by kernel_rfl) (Nat.le_of_ble_eq_true (by kernel_rfl)) (by decide) fun x y hxy => by
    obtain ⟨F, hF⟩ := h x y hxy
    exact ⟨[], LTOK_by (l := []) (by kernel_rfl) trivial, (ev151 g159 F x).trans hF⟩
open Go Go.RowKit Go.Proofs Go.Shelf Go.Sort
section
variable {P : Program} {α : Type} [Inhabited α] {w : World} {b o : Nat} {c : Array Value} {e : TypeId} {fr : Nat × Nat}
end
section
variable {P : Program} {e : TypeId} {u : Ty} {g : Nat} {cf : u.den → u.den → Int} {key : u.den → Int} {good : u.den → Prop} {fr st f1 f2 : Bool} {F : Args [.v u, .v u] → Option (Ress [.int .i64])} {f : Args [.v (.slice e u), .fn g] → Option (Ress [.slice e u])}
theorem take1 {α : Type} {l : List α} {i : Nat} (h : i < l.length) : (l.drop i).take 1 = [l[i]] := by rw [List.drop_eq_getElem_cons h]; rfl
end
open Go Go.RowKit Go.Proofs
theorem w6_i {x : Int} (h0 : -9223372036854775808 ≤ x) (h1 : x ≤ 9223372036854775807) : w6 x = x := by
  simp [w6, IntKind.wrap, IntKind.bits, IntKind.signed]; split <;> omega
def okN (a b c : Int) : Prop := (0 ≤ a ∧ a ≤ 255) ∧ (0 ≤ b ∧ b ≤ 255) ∧ (0 ≤ c ∧ c ≤ 255)
instance (a b c : Int) : Decidable (okN a b c) := by unfold okN; exact inferInstance
def key3 (a b c : Int) : Int := (a + b + c) * 65536 + (255 - a) * 256 + (255 - b)
def cmp3 (a b c a' b' c' : Int) : Int := if (a + b + c) - (a' + b' + c') = 0 then (if a = a' then b' - b else a' - a) else (a + b + c) - (a' + b' + c')
theorem cmp3_key {a b c a' b' c' : Int} (ha : okN a b c) (hb : okN a' b' c') : cmp3 a b c a' b' c' < 0 ↔ key3 a b c < key3 a' b' c' := by
  unfold okN at ha hb
  unfold cmp3 key3
  split
  · split <;> omega
  · omega
def okX (e : ex.den) : Prop := okN e.1 e.2.1 e.2.2.1
instance (e : ex.den) : Decidable (okX e) := by unfold okX; exact inferInstance
def degX (e : ex.den) : Int := @HAdd.hAdd Int Int Int _ (@HAdd.hAdd Int Int Int _ e.1 e.2.1) e.2.2.1
def keyX (e : ex.den) : Int := key3 e.1 e.2.1 e.2.2.1
def cmpX (a b : ex.den) : Int := cmp3 a.1 a.2.1 a.2.2.1 b.1 b.2.1 b.2.2.1
theorem cmpX_key {a b : ex.den} (ha : okX a) (hb : okX b) : cmpX a b < 0 ↔ keyX a < keyX b := cmp3_key ha hb
theorem run159 (a b c : Int) (h : okN a b c) : fn159 0 ((a, b, c, ()), ()) = some ((a + b + c : Int), ()) := by
  unfold okN at h
  show some (w6 (w6 (w6 a + w6 b) + w6 c), ()) = _
  rw [w6_i (x := a) (by omega) (by omega), w6_i (x := b) (by omega) (by omega), w6_i (x := c) (by omega) (by omega), w6_i (x := a + b) (by omega) (by omega), w6_i (by omega) (by omega)]
def cf159 : G159 := fun x => if okX x.1 then some (degX x.1, ()) else none
theorem k159 : KOne Try.prog 159 ⟨[.v ex], [i64], false, false, 0, cf159⟩ := ok159 .nil cf159 fun x y h => by
  obtain ⟨e, _⟩ := x
  simp only [cf159] at h
  split at h
  · rename_i hc
    injection h with h; subst h
    exact ⟨0, run159 e.1 e.2.1 e.2.2.1 hc⟩
  · cases h
theorem run151 (a b c a' b' c' : Int) (h : okN a b c) (h' : okN a' b' c') (e1 : cf159 ((a, b, c, ()), ()) = some ((a + b + c : Int), ())) (e2 : cf159 ((a', b', c', ()), ()) = some ((a' + b' + c' : Int), ())) :
    fn151 cf159 0 ((a, b, c, ()), (a', b', c', ()), ()) = some ((cmp3 a b c a' b' c' : Int), ()) := by
  unfold okN at h h'
  simp only [fn151, e1, e2]
  show (bif !decide (w6 ((a + b + c) - (a' + b' + c')) = 0) then some (w6 ((a + b + c) - (a' + b' + c')), ()) else bif !decide (a = a') then some (w6 (w6 a' - w6 a), ()) else some (w6 (w6 b' - w6 b), ())) = _
  rw [w6_i (x := (a + b + c) - (a' + b' + c')) (by omega) (by omega), w6_i (x := a) (by omega) (by omega), w6_i (x := a') (by omega) (by omega), w6_i (x := b) (by omega) (by omega), w6_i (x := b') (by omega) (by omega), w6_i (x := a' - a) (by omega) (by omega), w6_i (x := b' - b) (by omega) (by omega)]
  unfold cmp3
  clear e1 e2
  generalize (a + b + c) - (a' + b' + c') = D
  by_cases h1 : D = 0
  · by_cases h2 : a = a' <;> simp [h1, h2]
  · simp [h1]
def cf151 : G151 := fun x => if okX x.1 ∧ okX x.2.1 then some (cmpX x.1 x.2.1, ()) else none
theorem k151 : KOne Try.prog 151 ⟨[.v ex, .v ex], [i64], false, false, 0, cf151⟩ := ok151 _ (.cons k159 .nil) cf151 fun x y h => by
  obtain ⟨a, b, _⟩ := x
  simp only [cf151] at h
  split at h
  · rename_i hc
    injection h with h; subst h
    have e1 : cf159 (a, ()) = some (degX a, ()) := if_pos hc.1
    have e2 : cf159 (b, ()) = some (degX b, ()) := if_pos hc.2
    exact ⟨0, run151 a.1 a.2.1 a.2.2.1 b.1 b.2.1 b.2.2.1 hc.1 hc.2 e1 e2⟩
  · cases h
def keyT3 (t : term.den) : Int := keyX t.1
instance decX : DecidableEq ex.den := inferInstanceAs (DecidableEq (Int × Int × Int × Unit))
structure CanT (p : Int) (ts : List term.den) : Prop where
  srt : ts.Pairwise fun a b => keyT3 a < keyT3 b
  ok : ∀ t ∈ ts, okX t.1 ∧ (0 : Int) < t.2.1 ∧ t.2.1 < p
theorem CanT.tail {p : Int} {t : term.den} {ts : List term.den} (h : CanT p (t :: ts)) : CanT p ts := ⟨(List.pairwise_cons.1 h.srt).2, fun s hs => h.ok s (.tail _ hs)⟩
theorem CanT.filter {p : Int} {ts : List term.den} (h : CanT p ts) (f : term.den → Bool) : CanT p (ts.filter f) := ⟨h.srt.sublist List.filter_sublist, fun t ht => h.ok t (List.mem_filter.1 ht).1⟩
abbrev R73 : Type := Ress [.bool]
abbrev G73 : Type := Args [.v i64, .v i64, .v i64] → Option R73
abbrev kp73 : List (Nat × List Nat) := [(0, [1, 0, 2]), (1, [6])]
abbrev ct73 : CTab := []
def fn73 (F : Nat) (x : Args [.v i64, .v i64, .v i64]) : Option R73 :=
  match x with
  | (x0, x1, x2, _) => (bif decide (x1 ≤ x0) then (some ((bif true then decide (x0 ≤ x2) else false), ())) else (some (false, ())))
theorem ev73 (F : Nat) (x : Args [.v i64, .v i64, .v i64]) : fnK TT (ct73 ) kp73 [.bool] [] (bodyOf Try.f73) [.tmp 6] [.v i64, .v i64, .v i64] false false x = fn73 F x := by
  obtain ⟨x0, x1, x2, _⟩ := x
  kernel_rfl
theorem ok73 (hK : KOK Try.prog (ct73 )) (cf : G73) (h : ∀ x y, cf x = some y → ∃ F, fn73 F x = some y) : KOne Try.prog 73 ⟨[.v i64, .v i64, .v i64], [.bool], false, false, 0, cf⟩ :=
  fn_one rfl (c := bodyOf Try.f73) mixed tt_ok hK Try.func73 (by kernel_rfl) (by kernel_rfl) (Nat.le_of_ble_eq_true (by kernel_rfl)) (by decide) fun x y hxy => by
    obtain ⟨F, hF⟩ := h x y hxy
    exact ⟨[], LTOK_by (l := []) (by kernel_rfl) trivial, (ev73 F x).trans hF⟩
abbrev R82 : Type := Ress [.bool]
abbrev G82 : Type := Args [.v i64] → Option R82
abbrev kp82 : List (Nat × List Nat) := [(0, [0]), (1, [2])]
abbrev ct82 : CTab := []
def fn82 (F : Nat) (x : Args [.v i64]) : Option R82 :=
  match x with
  | (x0, _) => (bif decide (x0 = (2 : Int)) then (some (true, ())) else (bif (bif false then true else decide (x0 = (3 : Int))) then (some (true, ())) else (bif (bif false then true else decide (x0 = (5 : Int))) then (some (true, ())) else (bif (bif false then true else decide (x0 = (7 : Int))) then (some (true, ())) else (bif (bif false then true else decide (x0 = (11 : Int))) then (some (true, ())) else (some ((bif false then true else decide (x0 = (13 : Int))), ())))))))
theorem ev82 (F : Nat) (x : Args [.v i64]) : fnK TT (ct82 ) kp82 [.bool] [] (bodyOf Try.f82) [.tmp 2] [.v i64] false false x = fn82 F x := by
  obtain ⟨x0, _⟩ := x
  kernel_rfl
theorem ok82 (hK : KOK Try.prog (ct82 )) (cf : G82) (h : ∀ x y, cf x = some y → ∃ F, fn82 F x = some y) : KOne Try.prog 82 ⟨[.v i64], [.bool], false, false, 0, cf⟩ :=
  fn_one rfl (c := bodyOf Try.f82) mixed tt_ok hK Try.func82 (by kernel_rfl) (by kernel_rfl) (Nat.le_of_ble_eq_true (by kernel_rfl)) (by decide) fun x y hxy => by
    obtain ⟨F, hF⟩ := h x y hxy
    exact ⟨[], LTOK_by (l := []) (by kernel_rfl) trivial, (ev82 F x).trans hF⟩
abbrev R86 : Type := Ress [.bool]
abbrev G86 : Type := Args [.v i64] → Option R86
abbrev kp86 : List (Nat × List Nat) := [(0, [0]), (1, [2])]
abbrev ct86 : CTab := []
def fn86 (F : Nat) (x : Args [.v i64]) : Option R86 :=
  match x with
  | (x0, _) => (bif decide (x0 = (2 : Int)) then (some (true, ())) else (bif (bif false then true else decide (x0 = (3 : Int))) then (some (true, ())) else (bif (bif false then true else decide (x0 = (5 : Int))) then (some (true, ())) else (bif (bif false then true else decide (x0 = (7 : Int))) then (some (true, ())) else (bif (bif false then true else decide (x0 = (11 : Int))) then (some (true, ())) else (some ((bif false then true else decide (x0 = (13 : Int))), ())))))))
theorem ev86 (F : Nat) (x : Args [.v i64]) : fnK TT (ct86 ) kp86 [.bool] [] (bodyOf Try.f86) [.tmp 2] [.v i64] false false x = fn86 F x := by
  obtain ⟨x0, _⟩ := x
  kernel_rfl
theorem ok86 (hK : KOK Try.prog (ct86 )) (cf : G86) (h : ∀ x y, cf x = some y → ∃ F, fn86 F x = some y) : KOne Try.prog 86 ⟨[.v i64], [.bool], false, false, 0, cf⟩ :=
  fn_one rfl (c := bodyOf Try.f86) mixed tt_ok hK Try.func86 (by kernel_rfl) (by kernel_rfl) (Nat.le_of_ble_eq_true (by kernel_rfl)) (by decide) fun x y hxy => by
    obtain ⟨F, hF⟩ := h x y hxy
    exact ⟨[], LTOK_by (l := []) (by kernel_rfl) trivial, (ev86 F x).trans hF⟩
abbrev R87 : Type := Ress [.bool]
abbrev G87 : Type := Args [.v i64] → Option R87
abbrev kp87 : List (Nat × List Nat) := [(0, [0]), (1, [2])]
abbrev ct87 : CTab := []
def fn87 (F : Nat) (x : Args [.v i64]) : Option R87 :=
  match x with
  | (x0, _) => (bif decide ((1 : Int) ≤ x0) then (some ((bif true then decide (x0 ≤ (3 : Int)) else false), ())) else (some (false, ())))
theorem ev87 (F : Nat) (x : Args [.v i64]) : fnK TT (ct87 ) kp87 [.bool] [] (bodyOf Try.f87) [.tmp 2] [.v i64] false false x = fn87 F x := by
  obtain ⟨x0, _⟩ := x
  kernel_rfl
theorem ok87 (hK : KOK Try.prog (ct87 )) (cf : G87) (h : ∀ x y, cf x = some y → ∃ F, fn87 F x = some y) : KOne Try.prog 87 ⟨[.v i64], [.bool], false, false, 0, cf⟩ :=
  fn_one rfl (c := bodyOf Try.f87) mixed tt_ok hK Try.func87 (by kernel_rfl) (by kernel_rfl) (Nat.le_of_ble_eq_true (by kernel_rfl)) (by decide) fun x y hxy => by
    obtain ⟨F, hF⟩ := h x y hxy
    exact ⟨[], LTOK_by (l := []) (by kernel_rfl) trivial, (ev87 F x).trans hF⟩
abbrev R18 : Type := Ress [.bool]
abbrev G18 : Type := Args [.v (.slice 2 i64), .v (.slice 2 i64)] → Option R18
abbrev kp18 : List (Nat × List Nat) := [(0, [0, 1]), (1, [10, 0, 1]), (2, [4]), (3, [5, 1, 0]), (4, [14, 0, 1, 5]), (6, [25, 0, 1, 5]), (7, [4]), (5, [5, 1, 0]), (8, [4])]
abbrev ct18 : CTab := []
abbrev kr18 : Env → Option R18 := endK TT [.tmp 4] [.bool] false false
abbrev sh18_4 : Shape := [(0, vv (.slice 2 i64)), (1, vv (.slice 2 i64)), (5, vv i64)]
def st18_4 (F : Nat) (s : ShVal sh18_4) (k kx : ShVal sh18_4 → Option R18) : Option R18 :=
  match s with
  | ((t0, _), (t1, _), (t5, _), _) => (bif decide ((List.length t0) ≤ 9223372036854775807) then (bif decide (t5 < (Int.ofNat (List.length t0))) then (bif ib t5 (Int.ofNat (List.length t0)) then (bif ib t5 (Int.ofNat (List.length t1)) then (bif (!decide ((List.getD t0 (tn t5) (0 : Int)) = (List.getD t1 (tn t5) (0 : Int)))) then (some (false, ())) else k ((t0, ()), ((t1, ()), (((w6 (t5 + (1 : Int))), ()), ())))) else none) else none) else kx ((t0, ()), ((t1, ()), ((t5, ()), ())))) else none)
def ru18_4 (F : Nat) (s : ShVal sh18_4) (kx : ShVal sh18_4 → Option R18) : Option R18 := iter (fun s k => st18_4 F s k kx) F s
abbrev ls18_4 (F : Nat) : LS R18 := ⟨sh18_4, 0, ru18_4 F⟩
def fn18 (F : Nat) (x : Args [.v (.slice 2 i64), .v (.slice 2 i64)]) : Option R18 :=
  match x with
  | (x0, x1, _) => (bif decide ((List.length x0) ≤ 9223372036854775807) then (bif decide ((List.length x1) ≤ 9223372036854775807) then (bif (!decide ((Int.ofNat (List.length x0)) = (Int.ofNat (List.length x1)))) then (some (false, ())) else (ru18_4 F ((x0, ()), ((x1, ()), (((0 : Int), ()), ()))) (fun s' => match s' with | ((t0, _), (t1, _), (t5, _), _) => (some (true, ()))))) else none) else none)
theorem ev18_4 (F : Nat) (s : ShVal sh18_4) (k kx : ShVal sh18_4 → Option R18) : evL TT (ct18 ) kp18 [] (loopOf Try.f18 4) (envOf sh18_4 s) (fitK sh18_4 k) (fun j e => bif Nat.beq j 0 then fitK sh18_4 kx e else none) kr18 = st18_4 F s k kx := by
  obtain ⟨⟨t0, _⟩, ⟨t1, _⟩, ⟨t5, _⟩, _⟩ := s
  kernel_rfl
theorem ok18_4 (F : Nat) (hK : KOK Try.prog (ct18 )) : LSOK Try.prog ⟨26, false, undef⟩ (ls18_4 F) (loopOf Try.f18 4) kr18 :=
  loop_ok (st18_4 F) mixed tt_ok hK (by kernel_rfl) (LTOK_by (l := []) (by kernel_rfl) trivial) (ev18_4 F)
theorem ev18 (F : Nat) (x : Args [.v (.slice 2 i64), .v (.slice 2 i64)]) : fnK TT (ct18 ) kp18 [.bool] [(4, ls18_4 F)] (bodyOf Try.f18) [.tmp 4] [.v (.slice 2 i64), .v (.slice 2 i64)] false false x = fn18 F x := by
  obtain ⟨x0, x1, _⟩ := x
  kernel_rfl
theorem ok18 (hK : KOK Try.prog (ct18 )) (cf : G18) (h : ∀ x y, cf x = some y → ∃ F, fn18 F x = some y) : KOne Try.prog 18 ⟨[.v (.slice 2 i64), .v (.slice 2 i64)], [.bool], false, false, 0, cf⟩ :=
  fn_one rfl (c := bodyOf Try.f18) mixed tt_ok hK Try.func18 (by kernel_rfl) (by kernel_rfl) (Nat.le_of_ble_eq_true (by kernel_rfl)) (by decide) fun x y hxy => by
    obtain ⟨F, hF⟩ := h x y hxy
    exact ⟨[(4, ls18_4 F)], LTOK_by (l := [loopOf Try.f18 4]) (by kernel_rfl) ⟨ls_at (by kernel_rfl) (ok18_4 F hK), trivial⟩, (ev18 F x).trans hF⟩
abbrev R19 : Type := Ress [(.slice 2 i64), i64]
abbrev G19 : Type := Args [.v (.slice 2 i64), .v i64] → Option R19
abbrev kp19 : List (Nat × List Nat) := [(0, [1, 0]), (1, [5, 1, 0]), (2, [9, 1, 5, 0]), (4, [1, 5, 0]), (5, [5, 1, 0]), (3, [5, 1, 0]), (6, [4, 0])]
abbrev ct19 : CTab := []
abbrev kr19 : Env → Option R19 := endM 2 i64 [.tmp 4]
abbrev sh19_2 : Shape := [(0, vr 2 i64 1 false), (1, vv i64), (5, vv i64)]
def st19_2 (F : Nat) (s : ShVal sh19_2) (k kx : ShVal sh19_2 → Option R19) : Option R19 :=
  match s with
  | ((t0, _), (t1, _), (t5, _), _) => (bif decide ((List.length t0) ≤ 9223372036854775807) then (bif decide (t5 < (Int.ofNat (List.length t0))) then (bif ib t5 (Int.ofNat (List.length t0)) then k (((List.set t0 (tn t5) t1), ()), (((w6 (t1 + (1 : Int))), ()), (((w6 (t5 + (1 : Int))), ()), ()))) else none) else kx ((t0, ()), ((t1, ()), ((t5, ()), ())))) else none)
def ru19_2 (F : Nat) (s : ShVal sh19_2) (kx : ShVal sh19_2 → Option R19) : Option R19 := iter (fun s k => st19_2 F s k kx) F s
abbrev ls19_2 (F : Nat) : LS R19 := ⟨sh19_2, 0, ru19_2 F⟩
def fn19 (F : Nat) (x : Args [.v (.slice 2 i64), .v i64]) : Option R19 :=
  match x with
  | (x0, x1, _) => (ru19_2 F ((x0, ()), ((x1, ()), (((0 : Int), ()), ()))) (fun s' => match s' with | ((t0, _), (t1, _), (t5, _), _) => (some (t0, (t1, ())))))
theorem ev19_2 (F : Nat) (s : ShVal sh19_2) (k kx : ShVal sh19_2 → Option R19) : evL TT (ct19 ) kp19 [] (loopOf Try.f19 2) (envOf sh19_2 s) (fitK sh19_2 k) (fun j e => bif Nat.beq j 0 then fitK sh19_2 kx e else none) kr19 = st19_2 F s k kx := by
  obtain ⟨⟨t0, _⟩, ⟨t1, _⟩, ⟨t5, _⟩, _⟩ := s
  kernel_rfl
theorem ok19_2 (F : Nat) (hK : KOK Try.prog (ct19 )) (v0 : Value) : LSOK Try.prog ⟨19, true, v0⟩ (ls19_2 F) (loopOf Try.f19 2) kr19 :=
  loop_ok (st19_2 F) mixed tt_ok hK (by kernel_rfl) (LTOK_by (l := []) (by kernel_rfl) trivial) (ev19_2 F)
theorem ev19 (F : Nat) (x : Args [.v (.slice 2 i64), .v i64]) : fnM TT (ct19 ) kp19 2 i64 [(2, ls19_2 F)] (bodyOf Try.f19) [.tmp 4] x = fn19 F x := by
  obtain ⟨x0, x1, _⟩ := x
  kernel_rfl
theorem ok19 (hK : KOK Try.prog (ct19 )) (cf : G19) (h : ∀ x y, cf x = some y → ∃ F, fn19 F x = some y) : KOne Try.prog 19 ⟨[.v (.slice 2 i64), .v i64], [(.slice 2 i64), i64], false, false, 1, cf⟩ :=
  fnM_one rfl (c := bodyOf Try.f19) mixed tt_ok hK Try.func19 (by kernel_rfl) (by kernel_rfl) (Nat.le_of_ble_eq_true (by kernel_rfl)) (by decide) fun x y hxy => by
    obtain ⟨F, hF⟩ := h x y hxy
    exact ⟨[(2, ls19_2 F)], fun v0 => LTOK_by (l := [loopOf Try.f19 2]) (by kernel_rfl) ⟨ls_at (by kernel_rfl) (ok19_2 F hK v0), trivial⟩, (ev19 F x).trans hF⟩
abbrev R20 : Type := Ress [i64]
abbrev G20 : Type := Args [.v (.slice 2 i64), .v i64] → Option R20
abbrev kp20 : List (Nat × List Nat) := [(0, [1, 0]), (1, [1, 5, 0]), (2, [9, 0, 5, 1]), (4, [17, 0, 5, 1]), (5, [4]), (6, [5, 1, 0]), (3, [1, 5, 0]), (7, [4])]
abbrev ct20 : CTab := []
abbrev kr20 : Env → Option R20 := endK TT [.tmp 4] [i64] false false
abbrev sh20_2 : Shape := [(0, vv (.slice 2 i64)), (1, vv i64), (5, vv i64)]
def st20_2 (F : Nat) (s : ShVal sh20_2) (k kx : ShVal sh20_2 → Option R20) : Option R20 :=
  match s with
  | ((t0, _), (t1, _), (t5, _), _) => (bif decide ((List.length t0) ≤ 9223372036854775807) then (bif decide (t5 < (Int.ofNat (List.length t0))) then (bif ib t5 (Int.ofNat (List.length t0)) then (bif (!decide ((List.getD t0 (tn t5) (0 : Int)) = t1)) then (some ((-(1 : Int)), ())) else k ((t0, ()), (((w6 (t1 + (1 : Int))), ()), (((w6 (t5 + (1 : Int))), ()), ())))) else none) else kx ((t0, ()), ((t1, ()), ((t5, ()), ())))) else none)
def ru20_2 (F : Nat) (s : ShVal sh20_2) (kx : ShVal sh20_2 → Option R20) : Option R20 := iter (fun s k => st20_2 F s k kx) F s
abbrev ls20_2 (F : Nat) : LS R20 := ⟨sh20_2, 0, ru20_2 F⟩
def fn20 (F : Nat) (x : Args [.v (.slice 2 i64), .v i64]) : Option R20 :=
  match x with
  | (x0, x1, _) => (ru20_2 F ((x0, ()), ((x1, ()), (((0 : Int), ()), ()))) (fun s' => match s' with | ((t0, _), (t1, _), (t5, _), _) => (some (t1, ()))))
theorem ev20_2 (F : Nat) (s : ShVal sh20_2) (k kx : ShVal sh20_2 → Option R20) : evL TT (ct20 ) kp20 [] (loopOf Try.f20 2) (envOf sh20_2 s) (fitK sh20_2 k) (fun j e => bif Nat.beq j 0 then fitK sh20_2 kx e else none) kr20 = st20_2 F s k kx := by
  obtain ⟨⟨t0, _⟩, ⟨t1, _⟩, ⟨t5, _⟩, _⟩ := s
  kernel_rfl
theorem ok20_2 (F : Nat) (hK : KOK Try.prog (ct20 )) : LSOK Try.prog ⟨21, false, undef⟩ (ls20_2 F) (loopOf Try.f20 2) kr20 :=
  loop_ok (st20_2 F) mixed tt_ok hK (by kernel_rfl) (LTOK_by (l := []) (by kernel_rfl) trivial) (ev20_2 F)
theorem ev20 (F : Nat) (x : Args [.v (.slice 2 i64), .v i64]) : fnK TT (ct20 ) kp20 [i64] [(2, ls20_2 F)] (bodyOf Try.f20) [.tmp 4] [.v (.slice 2 i64), .v i64] false false x = fn20 F x := by
  obtain ⟨x0, x1, _⟩ := x
  kernel_rfl
theorem ok20 (hK : KOK Try.prog (ct20 )) (cf : G20) (h : ∀ x y, cf x = some y → ∃ F, fn20 F x = some y) : KOne Try.prog 20 ⟨[.v (.slice 2 i64), .v i64], [i64], false, false, 0, cf⟩ :=
  fn_one rfl (c := bodyOf Try.f20) mixed tt_ok hK Try.func20 (by kernel_rfl) (by kernel_rfl) (Nat.le_of_ble_eq_true (by kernel_rfl)) (by decide) fun x y hxy => by
    obtain ⟨F, hF⟩ := h x y hxy
    exact ⟨[(2, ls20_2 F)], LTOK_by (l := [loopOf Try.f20 2]) (by kernel_rfl) ⟨ls_at (by kernel_rfl) (ok20_2 F hK), trivial⟩, (ev20 F x).trans hF⟩
def isP (p : Int) : Bool := decide (p = 2) || (decide (p = 3) || (decide (p = 5) || (decide (p = 7) || (decide (p = 11) || decide (p = 13)))))
def invA (p r : Int) : Nat → Int → Int
  | 0, _ => 0
  | f + 1, k => if k < p then (if k * r % p = 1 then k else invA p r f (k + 1)) else 0
def inv (p x : Int) : Int := invA p (x % p) 13 1
abbrev el (r : List Int) (i : Nat) : Int := r.getD i 0
def ld : List Int → Nat
  | [] => 0
  | a :: r => if a = 0 then ld r + 1 else 0
theorem el_cons_zero (a : Int) (r : List Int) : el (a :: r) 0 = a := by simp [el]
theorem el_cons_succ (a : Int) (r : List Int) (i : Nat) : el (a :: r) (i + 1) = el r i := by simp [el]
theorem el_ge {r : List Int} {i : Nat} (h : r.length ≤ i) : el r i = 0 := by
  simp [el, List.getD_eq_getElem?_getD, List.getElem?_eq_none h]
theorem ld_zero : ∀ (r : List Int) (i : Nat), i < ld r → el r i = 0
  | [], i, h => by simp [ld] at h
  | a :: r, i, h => by
    simp only [ld] at h
    split at h
    · rename_i ha
      cases i with
      | zero => rw [el_cons_zero]; exact ha
      | succ i => rw [el_cons_succ]; exact ld_zero r i (by omega)
    · omega
theorem row_ext {a b : List Int} (hl : a.length = b.length) (h : ∀ i, el a i = el b i) : a = b := by
  refine List.ext_getElem hl fun i h1 h2 => ?_
  have := h i
  simpa [el, List.getD_eq_getElem?_getD, List.getElem?_eq_getElem h1, List.getElem?_eq_getElem h2] using this
def subm (p k : Int) (r o : List Int) : List Int := List.zipWith (fun a b => (a - k * b) % p) r o
theorem subm_len {p k : Int} {r o : List Int} (h : r.length = o.length) : (subm p k r o).length = r.length := by simp [subm, h]
theorem el_subm {p k : Int} {r o : List Int} (h : r.length = o.length) (i : Nat) : el (subm p k r o) i = (el r i - k * el o i) % p := by
  rcases Nat.lt_or_ge i r.length with q | q
  · simp [el, subm, List.getD_eq_getElem?_getD, List.getElem?_zipWith, List.getElem?_eq_getElem q, List.getElem?_eq_getElem (show i < o.length by omega)]
  · rw [el_ge q, el_ge (show o.length ≤ i by omega), el_ge (by rw [subm_len h]; exact q)]; simp
structure Can (p : Int) (m : Nat) (r : List Int) : Prop where
  len : r.length = m
  rng : ∀ i, 0 ≤ el r i ∧ el r i < p
theorem Can.subm {p k : Int} {m : Nat} {r o : List Int} (hp : 0 < p) (h1 : r.length = m) (h2 : o.length = m) : Can p m (subm p k r o) :=
  ⟨by rw [subm_len (by omega)]; exact h1, fun i => by rw [el_subm (by omega)]; exact ⟨Int.emod_nonneg _ (by omega), Int.emod_lt_of_pos _ hp⟩⟩
def rest (p : Int) : List (List Int) → List Int → List Int
  | [], r => r
  | o :: os, r => rest p os (subm p (el r (ld o)) r o)
structure RR (p : Int) (m : Nat) (out : List (List Int)) : Prop where
  can : ∀ r ∈ out, Can p m r
  lt : ∀ r ∈ out, ld r < m
  one : ∀ r ∈ out, el r (ld r) = 1
  ord : out.Pairwise fun a b => ld a < ld b ∧ el a (ld b) = 0
theorem RR.nil {p : Int} {m : Nat} : RR p m [] := ⟨by simp, by simp, by simp, .nil⟩
theorem RR.tail {p : Int} {m : Nat} {o : List Int} {os : List (List Int)} (h : RR p m (o :: os)) : RR p m os :=
  ⟨fun r hr => h.can r (.tail _ hr), fun r hr => h.lt r (.tail _ hr), fun r hr => h.one r (.tail _ hr), (List.pairwise_cons.1 h.ord).2⟩
section
variable {p : Int} {m : Nat}
structure Own (p : Int) (m : Nat) (own : List Int) (at_ : Nat) (out : List (List Int)) : Prop where
  can : Can p m own
  lt : at_ < m
  led : ld own = at_
  one : el own at_ = 1
  zero : ∀ o ∈ out, el own (ld o) = 0
theorem Own.tail {own : List Int} {at_ : Nat} {o : List Int} {os : List (List Int)} (w : Own p m own at_ (o :: os)) : Own p m own at_ os := ⟨w.can, w.lt, w.led, w.one, fun x hx => w.zero x (.tail _ hx)⟩
end
theorem iter_run {S α : Type} {step : S → (S → Option α) → Option α} {r : Option α} : ∀ (n F : Nat) (st : Nat → S), n < F → (∀ i, i < n → ∀ k, step (st i) k = k (st (i + 1))) → (∀ k, step (st n) k = r) → iter step F (st 0) = r
  | 0, F, st, hF, _, h => by
    obtain ⟨F, rfl⟩ : ∃ f, F = f + 1 := ⟨F - 1, by omega⟩
    exact h _
  | n + 1, F, st, hF, h1, h => by
    obtain ⟨F, rfl⟩ : ∃ f, F = f + 1 := ⟨F - 1, by omega⟩
    simp only [iter]
    rw [h1 0 (by omega)]
    exact iter_run n F (fun i => st (i + 1)) (by omega) (fun i hi k => h1 (i + 1) (by omega) k) h
theorem dlt_t {a b : Int} (h : a < b) : decide (a < b) = true := decide_eq_true h
theorem dlt_f {a b : Int} (h : b ≤ a) : decide (a < b) = false := decide_eq_false (by omega)
theorem dle_t {a b : Int} (h : a ≤ b) : decide (a ≤ b) = true := decide_eq_true h
theorem dle_f {a b : Int} (h : b < a) : decide (a ≤ b) = false := decide_eq_false (by omega)
theorem dln_t {a b : Nat} (h : a ≤ b) : decide (a ≤ b) = true := decide_eq_true h
theorem deq_t {a b : Int} (h : a = b) : decide (a = b) = true := decide_eq_true h
theorem deq_f {a b : Int} (h : a ≠ b) : decide (a = b) = false := decide_eq_false h
theorem ib_t {i n : Int} (h0 : 0 ≤ i) (h1 : i < n) : ib i n = true := by simp [ib, h0, h1]
theorem w6_id {x : Int} (h0 : -9223372036854775808 ≤ x) (h1 : x ≤ 9223372036854775807) : w6 x = x := by
  simp [w6, IntKind.wrap, IntKind.bits, IntKind.signed]; split <;> omega
theorem grow_t {a b : Nat} (h : a + b ≤ 1099511627776) : growOk a b = true := decide_eq_true h
theorem ofn (n : Nat) : Int.ofNat n = (n : Int) := rfl
theorem tn_cast (n : Nat) : tn (n : Int) = n := rfl
abbrev B : Nat := 1000000
def cf82 : Args [.v i64] → Option R82 := fun x => some (isP x.1, ())
theorem isP_text (a b c d e f : Bool) : (bif a then (some (true, ())) else (bif (bif false then true else b) then (some (true, ())) else (bif (bif false then true else c) then (some (true, ())) else (bif (bif false then true else d) then (some (true, ())) else (bif (bif false then true else e) then (some (true, ())) else (some ((bif false then true else f), ()))))))) = some (a || (b || (c || (d || (e || f)))), ()) := by
  cases a <;> cases b <;> cases c <;> cases d <;> cases e <;> rfl
theorem k82 : KOne Try.prog 82 ⟨[.v i64], [.bool], false, false, 0, cf82⟩ := ok82 .nil cf82 fun x y h => by
  obtain ⟨p, _⟩ := x
  injection h with h; subst h
  exact ⟨0, isP_text _ _ _ _ _ _⟩
theorem k86 : KOne Try.prog 86 ⟨[.v i64], [.bool], false, false, 0, cf82⟩ := ok86 .nil cf82 fun x y h => by
  obtain ⟨p, _⟩ := x
  injection h with h; subst h
  exact ⟨0, isP_text _ _ _ _ _ _⟩
def cf73 : Args [.v i64, .v i64, .v i64] → Option R73 := fun x => some (decide (x.2.1 ≤ x.1) && decide (x.1 ≤ x.2.2.1), ())
theorem k73 : KOne Try.prog 73 ⟨[.v i64, .v i64, .v i64], [.bool], false, false, 0, cf73⟩ := ok73 .nil cf73 fun x y h => by
  obtain ⟨a, b, c, _⟩ := x
  injection h with h; subst h
  refine ⟨0, ?_⟩
  simp only [fn73]
  cases decide (b ≤ a) <;> rfl
def cf87 : Args [.v i64] → Option R87 := fun x => some (decide (1 ≤ x.1) && decide (x.1 ≤ 3), ())
theorem k87 : KOne Try.prog 87 ⟨[.v i64], [.bool], false, false, 0, cf87⟩ := ok87 .nil cf87 fun x y h => by
  obtain ⟨a, _⟩ := x
  injection h with h; subst h
  refine ⟨0, ?_⟩
  simp only [fn87]
  cases decide ((1 : Int) ≤ a) <;> rfl
def c18 (a b : List Int) : Option (Bool × Unit) := if a.length ≤ B ∧ b.length ≤ B then some (decide (a = b), ()) else none
def cf18 : Args [.v (.slice 2 i64), .v (.slice 2 i64)] → Option R18 := fun x => c18 x.1 x.2.1
theorem first_diff : ∀ (a b : List Int), a.length = b.length → a ≠ b → ∃ n, n < a.length ∧ el a n ≠ el b n ∧ ∀ i, i < n → el a i = el b i
  | [], [], _, h => absurd rfl h
  | x :: a, y :: b, hl, h => by
    by_cases q : x = y
    · subst q
      obtain ⟨n, h1, h2, h3⟩ := first_diff a b (by simpa using hl) (fun q => h (by rw [q]))
      refine ⟨n + 1, by simpa using h1, by rw [el_cons_succ, el_cons_succ]; exact h2, fun i hi => ?_⟩
      cases i with
      | zero => rfl
      | succ i => rw [el_cons_succ, el_cons_succ]; exact h3 i (by omega)
    · exact ⟨0, by simp, by rw [el_cons_zero, el_cons_zero]; exact q, fun i hi => by omega⟩
  | [], _ :: _, hl, _ => by simp at hl
  | _ :: _, [], hl, _ => by simp at hl
theorem k18 : KOne Try.prog 18 ⟨[.v (.slice 2 i64), .v (.slice 2 i64)], [.bool], false, false, 0, cf18⟩ := ok18 .nil cf18 fun x y h => by
  obtain ⟨a, b, _⟩ := x
  simp only [cf18, c18] at h
  split at h
  · rename_i hc
    injection h with h; subst h
    simp only [B] at hc
    refine ⟨a.length + 1, ?_⟩
    by_cases hl : a.length = b.length
    · simp (disch := omega) only [fn18, dln_t, cond_true, ofn, deq_t, Bool.not_true, cond_false, ru18_4]
      by_cases hq : a = b
      · subst hq
        rw [decide_eq_true rfl]
        refine iter_run a.length _ (fun i => ((a, ()), ((a, ()), ((i : Int), ()), ()))) (by omega) (fun i hi k => ?_) (fun k => ?_)
        · simp (disch := omega) only [st18_4, dln_t, cond_true, ofn, dlt_t, ib_t, deq_t, Bool.not_true, cond_false, w6_id]
          rfl
        · simp (disch := omega) only [st18_4, dln_t, cond_true, ofn, dlt_f, cond_false]
      · rw [decide_eq_false hq]
        obtain ⟨n, h1, h2, h3⟩ := first_diff a b hl hq
        refine iter_run n _ (fun i => ((a, ()), ((b, ()), ((i : Int), ()), ()))) (by omega) (fun i hi k => ?_) (fun k => ?_)
        · have h0 : a.getD i 0 = b.getD i 0 := h3 i hi
          simp (disch := omega) only [st18_4, dln_t, cond_true, ofn, dlt_t, ib_t, tn_cast, h0, deq_t, Bool.not_true, cond_false, w6_id]
          rfl
        · have h0 : a.getD n 0 ≠ b.getD n 0 := h2
          simp (disch := first | omega | exact h0) only [st18_4, dln_t, cond_true, ofn, dlt_t, ib_t, tn_cast, deq_f, Bool.not_false]
    · rw [decide_eq_false (fun q => hl (by rw [q]))]
      simp (disch := omega) only [fn18, dln_t, cond_true, ofn, deq_f, Bool.not_false]
  · cases h
def marks (k : Int) : Nat → List Int
  | 0 => []
  | n + 1 => k :: marks (k + 1) n
theorem marks_len (n : Nat) : ∀ k, (marks k n).length = n := by induction n with | zero => intro k; rfl | succ n ih => intro k; simp [marks, ih]
theorem marks_el (n : Nat) : ∀ (k : Int) (i : Nat), i < n → el (marks k n) i = k + i := by
  induction n with
  | zero => intro k i h; omega
  | succ n ih =>
    intro k i h
    cases i with
    | zero => simp [marks, el]
    | succ i => simp only [marks]; rw [el_cons_succ, ih _ _ (by omega)]; omega
def c19 (l : List Int) (k : Int) : Option (List Int × Int × Unit) := if l.length ≤ B ∧ 0 ≤ k ∧ k ≤ 1000000000000 then some (marks k l.length, k + l.length, ()) else none
def cf19 : Args [.v (.slice 2 i64), .v i64] → Option R19 := fun x => c19 x.1 x.2.1
theorem run19 (l : List Int) (k0 : Int) (hc : l.length ≤ 1000000 ∧ 0 ≤ k0 ∧ k0 ≤ 1000000000000) : fn19 (l.length + 1) (l, k0, ()) = some (marks k0 l.length, k0 + l.length, ()) := by
  simp only [fn19, ru19_2]
  have hs : ∀ i, i ≤ l.length → ((marks k0 i) ++ l.drop i).length = l.length := fun i hi => by simp [marks_len]; omega
  have key := iter_run (step := fun s k => st19_2 (l.length + 1) s k (fun s' => match s' with | ((t0, _), (t1, _), (t5, _), _) => (some (t0, (t1, ()))))) (r := some (marks k0 l.length, k0 + l.length, ())) l.length (l.length + 1) (fun i => ((marks k0 i ++ l.drop i, ()), ((k0 + (i : Int), ()), ((i : Int), ()), ()))) (by omega) (fun i hi k => ?_) (fun k => ?_)
  · simpa [marks] using key
  · have h1 := hs i (by omega)
    generalize hL : marks k0 i ++ l.drop i = L at *
    simp (disch := omega) only [st19_2, dln_t, cond_true, ofn, dlt_t, ib_t, tn_cast, w6_id]
    have e : L.set i (k0 + i) = marks k0 (i + 1) ++ l.drop (i + 1) := by
      refine row_ext (by rw [List.length_set, h1, hs (i + 1) (by omega)]) fun j => ?_
      simp only [el, List.getD_eq_getElem?_getD]
      rw [List.getElem?_set]
      by_cases q : i = j
      · subst q
        rw [if_pos rfl, if_pos (by rw [h1]; exact hi), List.getElem?_append_left (by rw [marks_len]; omega)]
        have := marks_el (i + 1) k0 i (by omega)
        simp only [el, List.getD_eq_getElem?_getD] at this
        rw [this]; rfl
      · rw [if_neg q, ← hL]
        rcases Nat.lt_or_ge j i with z | z
        · rw [List.getElem?_append_left (by rw [marks_len]; omega), List.getElem?_append_left (by rw [marks_len]; omega)]
          have a1 := marks_el i k0 j z
          have a2 := marks_el (i + 1) k0 j (by omega)
          simp only [el, List.getD_eq_getElem?_getD] at a1 a2
          rw [a1, a2]
        · rw [List.getElem?_append_right (by rw [marks_len]; omega), List.getElem?_append_right (by rw [marks_len]; omega), marks_len, marks_len, List.getElem?_drop, List.getElem?_drop]
          rw [show i + (j - i) = i + 1 + (j - (i + 1)) by omega]
    rw [e, show k0 + (i : Int) + 1 = k0 + ((i + 1 : Nat) : Int) by omega]
    rfl
  · have e : marks k0 l.length ++ l.drop l.length = marks k0 l.length := by simp
    have h2 := marks_len l.length k0
    generalize hM : marks k0 l.length = M at *
    rw [e]
    simp (disch := omega) only [st19_2, dln_t, cond_true, ofn, dlt_f, cond_false]
theorem k19 : KOne Try.prog 19 ⟨[.v (.slice 2 i64), .v i64], [.slice 2 i64, i64], false, false, 1, cf19⟩ := ok19 .nil cf19 fun x y h => by
  obtain ⟨l, k0, _⟩ := x
  simp only [cf19, c19] at h
  split at h
  · rename_i hc
    injection h with h; subst h
    exact ⟨_, run19 l k0 hc⟩
  · cases h
def c20 (l : List Int) (k : Int) : Option (Int × Unit) := if l.length ≤ B ∧ 0 ≤ k ∧ k ≤ 1000000000000 ∧ l = marks k l.length then some (k + l.length, ()) else none
def cf20 : Args [.v (.slice 2 i64), .v i64] → Option R20 := fun x => c20 x.1 x.2.1
theorem run20 (l : List Int) (k0 : Int) (hc : l.length ≤ 1000000 ∧ 0 ≤ k0 ∧ k0 ≤ 1000000000000 ∧ l = marks k0 l.length) : fn20 (l.length + 1) (l, k0, ()) = some (k0 + l.length, ()) := by
  simp only [fn20, ru20_2]
  have key := iter_run (step := fun s k => st20_2 (l.length + 1) s k (fun s' => match s' with | ((t0, _), (t1, _), (t5, _), _) => (some (t1, ())))) (r := some (k0 + l.length, ())) l.length (l.length + 1) (fun i => ((l, ()), ((k0 + (i : Int), ()), ((i : Int), ()), ()))) (by omega) (fun i hi k => ?_) (fun k => ?_)
  · simpa using key
  · have h0 : l.getD i 0 = k0 + i := by
      have := marks_el l.length k0 i hi
      rw [← hc.2.2.2] at this
      exact this
    simp (disch := omega) only [st20_2, dln_t, cond_true, ofn, dlt_t, ib_t, tn_cast, h0, deq_t, decide_true, Bool.not_true, cond_false, w6_id]
    rw [show k0 + (i : Int) + 1 = k0 + ((i + 1 : Nat) : Int) by omega]
    rfl
  · simp (disch := omega) only [st20_2, dln_t, cond_true, ofn, dlt_f, cond_false]
theorem k20 : KOne Try.prog 20 ⟨[.v (.slice 2 i64), .v i64], [i64], false, false, 0, cf20⟩ := ok20 .nil cf20 fun x y h => by
  obtain ⟨l, k0, _⟩ := x
  simp only [cf20, c20] at h
  split at h
  · rename_i hc
    injection h with h; subst h
    exact ⟨_, run20 l k0 hc⟩
  · cases h
abbrev R158 : Type := Ress [i64]
abbrev G158 : Type := Args [.v ex] → Option R158
abbrev kp158 : List (Nat × List Nat) := [(0, [1]), (1, [2])]
abbrev ct158 : CTab := []
def fn158 (F : Nat) (x : Args [.v ex]) : Option R158 :=
  match x with
  | (x0, _) => (some ((w6 ((w6 ((w6 (tget (0 : Int) 3 x0 (tn (0 : Int)))) + (w6 (tget (0 : Int) 3 x0 (tn (1 : Int)))))) + (w6 (tget (0 : Int) 3 x0 (tn (2 : Int)))))), ()))
theorem ev158 (F : Nat) (x : Args [.v ex]) : fnK TT (ct158 ) kp158 [i64] [] (bodyOf Try.f158) [.tmp 2] [.v ex] false false x = fn158 F x := by
  obtain ⟨x0, _⟩ := x
  kernel_rfl
theorem ok158 (hK : KOK Try.prog (ct158 )) (cf : G158) (h : ∀ x y, cf x = some y → ∃ F, fn158 F x = some y) : KOne Try.prog 158 ⟨[.v ex], [i64], false, false, 0, cf⟩ :=
  fn_one rfl (c := bodyOf Try.f158) mixed tt_ok hK Try.func158 (by kernel_rfl) (by kernel_rfl) (Nat.le_of_ble_eq_true (by kernel_rfl)) (by decide) fun x y hxy => by
    obtain ⟨F, hF⟩ := h x y hxy
    exact ⟨[], LTOK_by (l := []) (by kernel_rfl) trivial, (ev158 F x).trans hF⟩
abbrev R115 : Type := Ress [i64]
abbrev G115 : Type := Args [.v poly] → Option R115
abbrev kp115 : List (Nat × List Nat) := [(0, [1]), (1, [6, 1]), (2, [2]), (3, [2])]
abbrev ct115 (g158 : G158) : CTab := [(158, ⟨[.v ex], [i64], false, false, 0, g158⟩)]
def fn115 (g158 : G158) (F : Nat) (x : Args [.v poly]) : Option R115 :=
  match x with
  | (x0, _) => (bif decide ((List.length x0.2.2.1) ≤ 9223372036854775807) then (bif decide ((Int.ofNat (List.length x0.2.2.1)) = (0 : Int)) then (some ((-(1 : Int)), ())) else (bif decide ((List.length x0.2.2.1) ≤ 9223372036854775807) then (bif ib (w6 ((Int.ofNat (List.length x0.2.2.1)) - (1 : Int))) (Int.ofNat (List.length x0.2.2.1)) then (match (g158 ((List.getD x0.2.2.1 (tn (w6 ((Int.ofNat (List.length x0.2.2.1)) - (1 : Int)))) (Ty.dflt (.pair (.arr 3 (.int .u8)) (.pair (.int .i64) .unit)))).1, ())) with | some r5 => (some (r5.1, ())) | none => none) else none) else none)) else none)
theorem ev115 (g158 : G158) (F : Nat) (x : Args [.v poly]) : fnK TT (ct115 g158 ) kp115 [i64] [] (bodyOf Try.f115) [.tmp 2] [.v poly] false false x = fn115 g158 F x := by
  obtain ⟨x0, _⟩ := x
  kernel_rfl
theorem ok115 (g158 : G158) (hK : KOK Try.prog (ct115 g158 )) (cf : G115) (h : ∀ x y, cf x = some y → ∃ F, fn115 g158 F x = some y) : KOne Try.prog 115 ⟨[.v poly], [i64], false, false, 0, cf⟩ :=
  fn_one rfl (c := bodyOf Try.f115) mixed tt_ok hK Try.func115 (by kernel_rfl) (by kernel_rfl) (Nat.le_of_ble_eq_true (by kernel_rfl)) (by decide) fun x y hxy => by
    obtain ⟨F, hF⟩ := h x y hxy
    exact ⟨[], LTOK_by (l := []) (by kernel_rfl) trivial, (ev115 g158 F x).trans hF⟩
abbrev R143 : Type := Ress [.bool]
abbrev G143 : Type := Args [.v i64, .v ex] → Option R143
abbrev kp143 : List (Nat × List Nat) := [(0, [0, 3]), (1, [5, 3]), (2, [8, 3, 5]), (4, [14, 3, 5]), (5, [4]), (3, [5, 3]), (6, [4])]
abbrev ct143 (g158 : G158) : CTab := [(158, ⟨[.v ex], [i64], false, false, 0, g158⟩)]
abbrev kr143 : Env → Option R143 := endK TT [.tmp 4] [.bool] false false
abbrev sh143_2 : Shape := [(3, bb ex), (5, vv i64)]
def st143_2 (g158 : G158) (F : Nat) (s : ShVal sh143_2) (k kx : ShVal sh143_2 → Option R143) : Option R143 :=
  match s with
  | ((t3, _), (t5, _), _) => (bif decide (t5 < (3 : Int)) then (bif ib t5 (Int.ofNat 3) then (bif (!decide ((tget (0 : Int) 3 t3 (tn t5)) = (0 : Int))) then (some (false, ())) else k ((t3, ()), (((w6 (t5 + (1 : Int))), ()), ()))) else none) else kx ((t3, ()), ((t5, ()), ())))
def ru143_2 (g158 : G158) (F : Nat) (s : ShVal sh143_2) (kx : ShVal sh143_2 → Option R143) : Option R143 := iter (fun s k => st143_2 g158 F s k kx) F s
abbrev ls143_2 (g158 : G158) (F : Nat) : LS R143 := ⟨sh143_2, 0, ru143_2 g158 F⟩
def fn143 (g158 : G158) (F : Nat) (x : Args [.v i64, .v ex]) : Option R143 :=
  match x with
  | (x0, x1, _) => (ru143_2 g158 F ((x1, ()), ((x0, ()), ())) (fun s' => match s' with | ((t3, _), (t5, _), _) => (match (g158 (t3, ())) with | some r8 => (some (decide (r8.1 ≤ (12 : Int)), ())) | none => none)))
theorem ev143_2 (g158 : G158) (F : Nat) (s : ShVal sh143_2) (k kx : ShVal sh143_2 → Option R143) : evL TT (ct143 g158 ) kp143 [] (loopOf Try.f143 2) (envOf sh143_2 s) (fitK sh143_2 k) (fun j e => bif Nat.beq j 0 then fitK sh143_2 kx e else none) kr143 = st143_2 g158 F s k kx := by
  obtain ⟨⟨t3, _⟩, ⟨t5, _⟩, _⟩ := s
  kernel_rfl
theorem ok143_2 (g158 : G158) (F : Nat) (hK : KOK Try.prog (ct143 g158 )) : LSOK Try.prog ⟨18, false, undef⟩ (ls143_2 g158 F) (loopOf Try.f143 2) kr143 :=
  loop_ok (st143_2 g158 F) mixed tt_ok hK (by kernel_rfl) (LTOK_by (l := []) (by kernel_rfl) trivial) (ev143_2 g158 F)
theorem ev143 (g158 : G158) (F : Nat) (x : Args [.v i64, .v ex]) : fnK TT (ct143 g158 ) kp143 [.bool] [(2, ls143_2 g158 F)] (bodyOf Try.f143) [.tmp 4] [.v i64, .v ex] false false x = fn143 g158 F x := by
  obtain ⟨x0, x1, _⟩ := x
  kernel_rfl
theorem ok143 (g158 : G158) (hK : KOK Try.prog (ct143 g158 )) (cf : G143) (h : ∀ x y, cf x = some y → ∃ F, fn143 g158 F x = some y) : KOne Try.prog 143 ⟨[.v i64, .v ex], [.bool], false, false, 0, cf⟩ :=
  fn_one rfl (c := bodyOf Try.f143) mixed tt_ok hK Try.func143 (by kernel_rfl) (by kernel_rfl) (Nat.le_of_ble_eq_true (by kernel_rfl)) (by decide) fun x y hxy => by
    obtain ⟨F, hF⟩ := h x y hxy
    exact ⟨[(2, ls143_2 g158 F)], LTOK_by (l := [loopOf Try.f143 2]) (by kernel_rfl) ⟨ls_at (by kernel_rfl) (ok143_2 g158 F hK), trivial⟩, (ev143 g158 F x).trans hF⟩
abbrev R167 : Type := Ress [.bool]
abbrev G167 : Type := Args [.v poly] → Option R167
abbrev kp167 : List (Nat × List Nat) := [(0, [1]), (1, [2])]
abbrev ct167 (g158 : G158) (g115 : G115) : CTab := [(158, ⟨[.v ex], [i64], false, false, 0, g158⟩), (115, ⟨[.v poly], [i64], false, false, 0, g115⟩)]
def fn167 (g158 : G158) (g115 : G115) (F : Nat) (x : Args [.v poly]) : Option R167 :=
  match x with
  | (x0, _) => (bif decide ((List.length x0.2.2.1) ≤ 9223372036854775807) then (bif decide ((Int.ofNat (List.length x0.2.2.1)) = (0 : Int)) then (some (true, ())) else (bif ib (0 : Int) (Int.ofNat (List.length x0.2.2.1)) then (match (g158 ((List.getD x0.2.2.1 (tn (0 : Int)) (Ty.dflt (.pair (.arr 3 (.int .u8)) (.pair (.int .i64) .unit)))).1, ())) with | some r5 => (match (g115 ((x0.1, (x0.2.1, (x0.2.2.1, ()))), ())) with | some r6 => (some ((bif false then true else decide (r5.1 = r6.1)), ())) | none => none) | none => none) else none)) else none)
theorem ev167 (g158 : G158) (g115 : G115) (F : Nat) (x : Args [.v poly]) : fnK TT (ct167 g158 g115 ) kp167 [.bool] [] (bodyOf Try.f167) [.tmp 2] [.v poly] false false x = fn167 g158 g115 F x := by
  obtain ⟨x0, _⟩ := x
  kernel_rfl
theorem ok167 (g158 : G158) (g115 : G115) (hK : KOK Try.prog (ct167 g158 g115 )) (cf : G167) (h : ∀ x y, cf x = some y → ∃ F, fn167 g158 g115 F x = some y) : KOne Try.prog 167 ⟨[.v poly], [.bool], false, false, 0, cf⟩ :=
  fn_one rfl (c := bodyOf Try.f167) mixed tt_ok hK Try.func167 (by kernel_rfl) (by kernel_rfl) (Nat.le_of_ble_eq_true (by kernel_rfl)) (by decide) fun x y hxy => by
    obtain ⟨F, hF⟩ := h x y hxy
    exact ⟨[], LTOK_by (l := []) (by kernel_rfl) trivial, (ev167 g158 g115 F x).trans hF⟩
abbrev R147 : Type := Ress [.bool]
abbrev G147 : Type := Args [.v ex, .v ex] → Option R147
abbrev kp147 : List (Nat × List Nat) := [(0, [2, 3]), (1, [9, 2, 3]), (2, [4]), (3, [19, 2, 3]), (4, [4]), (5, [4])]
abbrev ct147 (g158 : G158) : CTab := [(158, ⟨[.v ex], [i64], false, false, 0, g158⟩)]
def fn147 (g158 : G158) (F : Nat) (x : Args [.v ex, .v ex]) : Option R147 :=
  match x with
  | (x0, x1, _) => (match (g158 (x0, ())) with | some r5 => (match (g158 (x1, ())) with | some r6 => (bif (!decide (r5.1 = r6.1)) then (match (g158 (x0, ())) with | some r8 => (match (g158 (x1, ())) with | some r9 => (some (decide (r8.1 < r9.1), ())) | none => none) | none => none) else (bif (!decide ((tget (0 : Int) 3 x0 (tn (0 : Int))) = (tget (0 : Int) 3 x1 (tn (0 : Int))))) then (some (decide ((tget (0 : Int) 3 x1 (tn (0 : Int))) < (tget (0 : Int) 3 x0 (tn (0 : Int)))), ())) else (some (decide ((tget (0 : Int) 3 x1 (tn (1 : Int))) < (tget (0 : Int) 3 x0 (tn (1 : Int)))), ())))) | none => none) | none => none)
theorem ev147 (g158 : G158) (F : Nat) (x : Args [.v ex, .v ex]) : fnK TT (ct147 g158 ) kp147 [.bool] [] (bodyOf Try.f147) [.tmp 4] [.v ex, .v ex] false false x = fn147 g158 F x := by
  obtain ⟨x0, x1, _⟩ := x
  kernel_rfl
theorem ok147 (g158 : G158) (hK : KOK Try.prog (ct147 g158 )) (cf : G147) (h : ∀ x y, cf x = some y → ∃ F, fn147 g158 F x = some y) : KOne Try.prog 147 ⟨[.v ex, .v ex], [.bool], false, false, 0, cf⟩ :=
  fn_one rfl (c := bodyOf Try.f147) mixed tt_ok hK Try.func147 (by kernel_rfl) (by kernel_rfl) (Nat.le_of_ble_eq_true (by kernel_rfl)) (by decide) fun x y hxy => by
    obtain ⟨F, hF⟩ := h x y hxy
    exact ⟨[], LTOK_by (l := []) (by kernel_rfl) trivial, (ev147 g158 F x).trans hF⟩
abbrev R119 : Type := Ress [.bool]
abbrev G119 : Type := Args [.v poly] → Option R119
abbrev kp119 : List (Nat × List Nat) := [(0, [1]), (1, [14, 1]), (2, [2]), (3, [3, 1]), (4, [19, 1, 3]), (6, [4, 1, 3]), (7, [58, 1, 3]), (8, [2]), (5, [3, 1]), (9, [2])]
abbrev ct119 (g82 : G82) (g73 : G73) (g143 : G143) (g147 : G147) : CTab := [(82, ⟨[.v i64], [.bool], false, false, 0, g82⟩), (73, ⟨[.v i64, .v i64, .v i64], [.bool], false, false, 0, g73⟩), (143, ⟨[.v i64, .v ex], [.bool], false, false, 0, g143⟩), (147, ⟨[.v ex, .v ex], [.bool], false, false, 0, g147⟩)]
abbrev kr119 : Env → Option R119 := endK TT [.tmp 2] [.bool] false false
abbrev sh119_4 : Shape := [(1, .box false [.fz i64 0 false, .fz i64 0 false, .fz (.slice 135 term) 0 true]), (3, vv i64)]
def st119_4 (g82 : G82) (g73 : G73) (g143 : G143) (g147 : G147) (F : Nat) (s : ShVal sh119_4) (k kx : ShVal sh119_4 → Option R119) : Option R119 :=
  match s with
  | ((t1_0, t1_1, t1_2, _), (t3, _), _) => (bif decide ((List.length t1_2) ≤ 9223372036854775807) then (bif decide (t3 < (Int.ofNat (List.length t1_2))) then (bif ib t3 (Int.ofNat (List.length t1_2)) then (match (g143 (t1_1, ((List.getD t1_2 (tn t3) (Ty.dflt (.pair (.arr 3 (.int .u8)) (.pair (.int .i64) .unit)))).1, ()))) with | some r17 => (bif (!r17.1) then (some (false, ())) else (match (g73 ((List.getD t1_2 (tn t3) (Ty.dflt (.pair (.arr 3 (.int .u8)) (.pair (.int .i64) .unit)))).2.1, ((1 : Int), ((w6 (t1_0 - (1 : Int))), ())))) with | some r18 => (bif (bif false then true else (!r18.1)) then (some (false, ())) else (bif decide ((0 : Int) < t3) then (bif ib (w6 (t3 - (1 : Int))) (Int.ofNat (List.length t1_2)) then (match (g147 ((List.getD t1_2 (tn (w6 (t3 - (1 : Int)))) (Ty.dflt (.pair (.arr 3 (.int .u8)) (.pair (.int .i64) .unit)))).1, ((List.getD t1_2 (tn t3) (Ty.dflt (.pair (.arr 3 (.int .u8)) (.pair (.int .i64) .unit)))).1, ()))) with | some r19 => (bif (bif false then true else (bif true then (!r19.1) else false)) then (some (false, ())) else k ((t1_0, (t1_1, (t1_2, ()))), (((w6 (t3 + (1 : Int))), ()), ()))) | none => none) else none) else (bif (bif false then true else false) then (some (false, ())) else k ((t1_0, (t1_1, (t1_2, ()))), (((w6 (t3 + (1 : Int))), ()), ()))))) | none => none)) | none => none) else none) else kx ((t1_0, (t1_1, (t1_2, ()))), ((t3, ()), ()))) else none)
def ru119_4 (g82 : G82) (g73 : G73) (g143 : G143) (g147 : G147) (F : Nat) (s : ShVal sh119_4) (kx : ShVal sh119_4 → Option R119) : Option R119 := iter (fun s k => st119_4 g82 g73 g143 g147 F s k kx) F s
abbrev ls119_4 (g82 : G82) (g73 : G73) (g143 : G143) (g147 : G147) (F : Nat) : LS R119 := ⟨sh119_4, 0, ru119_4 g82 g73 g143 g147 F⟩
def fn119 (g82 : G82) (g73 : G73) (g143 : G143) (g147 : G147) (F : Nat) (x : Args [.v poly]) : Option R119 :=
  match x with
  | (x0, _) => (match (g82 (x0.1, ())) with | some r7 => (bif (!r7.1) then (some (false, ())) else (match (g73 (x0.2.1, ((1 : Int), ((3 : Int), ())))) with | some r8 => (bif (bif false then true else (!r8.1)) then (some (false, ())) else (ru119_4 g82 g73 g143 g147 F ((x0.1, (x0.2.1, (x0.2.2.1, ()))), (((0 : Int), ()), ())) (fun s' => match s' with | ((t1_0, t1_1, t1_2, _), (t3, _), _) => (some (true, ()))))) | none => none)) | none => none)
theorem ev119_4 (g82 : G82) (g73 : G73) (g143 : G143) (g147 : G147) (F : Nat) (s : ShVal sh119_4) (k kx : ShVal sh119_4 → Option R119) : evL TT (ct119 g82 g73 g143 g147 ) kp119 [] (loopOf Try.f119 4) (envOf sh119_4 s) (fitK sh119_4 k) (fun j e => bif Nat.beq j 0 then fitK sh119_4 kx e else none) kr119 = st119_4 g82 g73 g143 g147 F s k kx := by
  obtain ⟨⟨t1_0, t1_1, t1_2, _⟩, ⟨t3, _⟩, _⟩ := s
  kernel_rfl
theorem ok119_4 (g82 : G82) (g73 : G73) (g143 : G143) (g147 : G147) (F : Nat) (hK : KOK Try.prog (ct119 g82 g73 g143 g147 )) : LSOK Try.prog ⟨59, false, undef⟩ (ls119_4 g82 g73 g143 g147 F) (loopOf Try.f119 4) kr119 :=
  loop_ok (st119_4 g82 g73 g143 g147 F) mixed tt_ok hK (by kernel_rfl) (LTOK_by (l := []) (by kernel_rfl) trivial) (ev119_4 g82 g73 g143 g147 F)
theorem ev119 (g82 : G82) (g73 : G73) (g143 : G143) (g147 : G147) (F : Nat) (x : Args [.v poly]) : fnK TT (ct119 g82 g73 g143 g147 ) kp119 [.bool] [(4, ls119_4 g82 g73 g143 g147 F)] (bodyOf Try.f119) [.tmp 2] [.v poly] false false x = fn119 g82 g73 g143 g147 F x := by
  obtain ⟨x0, _⟩ := x
  kernel_rfl
theorem ok119 (g82 : G82) (g73 : G73) (g143 : G143) (g147 : G147) (hK : KOK Try.prog (ct119 g82 g73 g143 g147 )) (cf : G119) (h : ∀ x y, cf x = some y → ∃ F, fn119 g82 g73 g143 g147 F x = some y) : KOne Try.prog 119 ⟨[.v poly], [.bool], false, false, 0, cf⟩ :=
  fn_one rfl (c := bodyOf Try.f119) mixed tt_ok hK Try.func119 (by kernel_rfl) (by kernel_rfl) (Nat.le_of_ble_eq_true (by kernel_rfl)) (by decide) fun x y hxy => by
    obtain ⟨F, hF⟩ := h x y hxy
    exact ⟨[(4, ls119_4 g82 g73 g143 g147 F)], LTOK_by (l := [loopOf Try.f119 4]) (by kernel_rfl) ⟨ls_at (by kernel_rfl) (ok119_4 g82 g73 g143 g147 F hK), trivial⟩, (ev119 g82 g73 g143 g147 F x).trans hF⟩
theorem run158 (a b c : Int) (h : okN a b c) : fn158 0 ((a, b, c, ()), ()) = some ((a + b + c : Int), ()) := by
  unfold okN at h
  show some (w6 (w6 (w6 a + w6 b) + w6 c), ()) = _
  rw [w6_i (x := a) (by omega) (by omega), w6_i (x := b) (by omega) (by omega), w6_i (x := c) (by omega) (by omega), w6_i (x := a + b) (by omega) (by omega), w6_i (by omega) (by omega)]
def cf158 : G158 := fun x => if okX x.1 then some (degX x.1, ()) else none
theorem k158 : KOne Try.prog 158 ⟨[.v ex], [i64], false, false, 0, cf158⟩ := ok158 .nil cf158 fun x y h => by
  obtain ⟨e, _⟩ := x
  simp only [cf158] at h
  split at h
  · rename_i hc
    injection h with h; subst h
    exact ⟨0, run158 e.1 e.2.1 e.2.2.1 hc⟩
  · cases h
theorem run147 (a b c a' b' c' : Int) (h : okN a b c) (h' : okN a' b' c') (e1 : cf158 ((a, b, c, ()), ()) = some ((a + b + c : Int), ())) (e2 : cf158 ((a', b', c', ()), ()) = some ((a' + b' + c' : Int), ())) :
    fn147 cf158 0 ((a, b, c, ()), (a', b', c', ()), ()) = some (decide (key3 a b c < key3 a' b' c'), ()) := by
  have hk := cmp3_key h h'
  unfold okN at h h'
  simp only [fn147, e1, e2]
  show (bif !decide (a + b + c = a' + b' + c') then some (decide (a + b + c < a' + b' + c'), ()) else bif !decide (a = a') then some (decide (a' < a), ()) else some (decide (b' < b), ())) = _
  unfold cmp3 at hk
  by_cases h1 : a + b + c = a' + b' + c'
  · have h1' : (a + b + c) - (a' + b' + c') = 0 := by omega
    rw [if_pos h1'] at hk
    by_cases h2 : a = a'
    · rw [if_pos h2] at hk
      have : decide (b' < b) = decide (key3 a b c < key3 a' b' c') := decide_eq_decide.2 ⟨fun q => hk.1 (by omega), fun q => by have := hk.2 q; omega⟩
      rw [decide_eq_true h1, decide_eq_true h2, this]; rfl
    · rw [if_neg h2] at hk
      have : decide (a' < a) = decide (key3 a b c < key3 a' b' c') := decide_eq_decide.2 ⟨fun q => hk.1 (by omega), fun q => by have := hk.2 q; omega⟩
      rw [decide_eq_true h1, decide_eq_false h2, this]; rfl
  · rw [if_neg (by omega)] at hk
    have : decide (a + b + c < a' + b' + c') = decide (key3 a b c < key3 a' b' c') := decide_eq_decide.2 ⟨fun q => hk.1 (by omega), fun q => by have := hk.2 q; omega⟩
    rw [decide_eq_false h1, this]; rfl
def cf147 : G147 := fun x => if okX x.1 ∧ okX x.2.1 then some (decide (keyX x.1 < keyX x.2.1), ()) else none
theorem k147 : KOne Try.prog 147 ⟨[.v ex, .v ex], [.bool], false, false, 0, cf147⟩ := ok147 _ (.cons k158 .nil) cf147 fun x y h => by
  obtain ⟨a, b, _⟩ := x
  simp only [cf147] at h
  split at h
  · rename_i hc
    injection h with h; subst h
    have e1 : cf158 (a, ()) = some (degX a, ()) := if_pos hc.1
    have e2 : cf158 (b, ()) = some (degX b, ()) := if_pos hc.2
    exact ⟨0, run147 a.1 a.2.1 a.2.2.1 b.1 b.2.1 b.2.2.1 hc.1 hc.2 e1 e2⟩
  · cases h
theorem getD_pre {α : Type} {pre r : List α} {t d : α} : (pre ++ t :: r).getD pre.length d = t := by
  rw [List.getD_eq_getElem?_getD, List.getElem?_append_right (Nat.le_refl _)]; simp
abbrev R117 : Type := Ress [i64]
abbrev G117 : Type := Args [.v poly] → Option R117
abbrev kp117 : List (Nat × List Nat) := [(0, [1]), (1, [6, 1]), (2, [2]), (3, [2])]
abbrev ct117 (g159 : G159) : CTab := [(159, ⟨[.v ex], [i64], false, false, 0, g159⟩)]
def fn117 (g159 : G159) (F : Nat) (x : Args [.v poly]) : Option R117 :=
  match x with
  | (x0, _) => (bif decide ((List.length x0.2.2.1) ≤ 9223372036854775807) then (bif decide ((Int.ofNat (List.length x0.2.2.1)) = (0 : Int)) then (some ((-(1 : Int)), ())) else (bif decide ((List.length x0.2.2.1) ≤ 9223372036854775807) then (bif ib (w6 ((Int.ofNat (List.length x0.2.2.1)) - (1 : Int))) (Int.ofNat (List.length x0.2.2.1)) then (match (g159 ((List.getD x0.2.2.1 (tn (w6 ((Int.ofNat (List.length x0.2.2.1)) - (1 : Int)))) (Ty.dflt (.pair (.arr 3 (.int .u8)) (.pair (.int .i64) .unit)))).1, ())) with | some r5 => (some (r5.1, ())) | none => none) else none) else none)) else none)
theorem ev117 (g159 : G159) (F : Nat) (x : Args [.v poly]) : fnK TT (ct117 g159 ) kp117 [i64] [] (bodyOf Try.f117) [.tmp 2] [.v poly] false false x = fn117 g159 F x := by
  obtain ⟨x0, _⟩ := x
  kernel_rfl
theorem ok117 (g159 : G159) (hK : KOK Try.prog (ct117 g159 )) (cf : G117) (h : ∀ x y, cf x = some y → ∃ F, fn117 g159 F x = some y) : KOne Try.prog 117 ⟨[.v poly], [i64], false, false, 0, cf⟩ :=
  fn_one rfl (c := bodyOf Try.f117) mixed tt_ok hK Try.func117 (by kernel_rfl) (by kernel_rfl) (Nat.le_of_ble_eq_true (by kernel_rfl)) (by decide) fun x y hxy => by
    obtain ⟨F, hF⟩ := h x y hxy
    exact ⟨[], LTOK_by (l := []) (by kernel_rfl) trivial, (ev117 g159 F x).trans hF⟩
def nT (t : term.den) : Int := t.2.1
section
variable {p : Int} {m : Nat}
theorem RR.inj {out : List (List Int)} (rr : RR p m out) : out.Pairwise fun a b => ld a < ld b := rr.ord.imp fun h => h.1
theorem RR.off {out : List (List Int)} (rr : RR p m out) {a b : List Int} (ha : a ∈ out) (hb : b ∈ out) (h : a ≠ b) : ld a ≠ ld b ∧ el a (ld b) = 0 := by
  have hh : ∀ {l : List (List Int)}, (l.Pairwise fun a b => ld a < ld b ∧ el a (ld b) = 0) → a ∈ l → b ∈ l → ld a ≠ ld b ∧ el a (ld b) = 0 := by
    intro l
    induction l with
    | nil => intro _ h; cases h
    | cons x l ih =>
      intro hp ha hb
      have hp' := List.pairwise_cons.1 hp
      rcases List.mem_cons.1 ha with e | ha' <;> rcases List.mem_cons.1 hb with e' | hb'
      · exact absurd (e.trans e'.symm) h
      · subst e; exact ⟨Nat.ne_of_lt (hp'.1 b hb').1, (hp'.1 b hb').2⟩
      · subst e'; exact ⟨Nat.ne_of_gt (hp'.1 a ha').1, ld_zero a _ (hp'.1 a ha').1⟩
      · exact ih hp'.2 ha' hb'
  exact hh rr.ord ha hb
end
abbrev x0 (e : ex.den) : Int := e.1
abbrev x1 (e : ex.den) : Int := e.2.1
abbrev x2 (e : ex.den) : Int := e.2.2.1
theorem okX_rng {a : ex.den} (h : okX a) : (0 ≤ x0 a ∧ x0 a ≤ 255) ∧ (0 ≤ x1 a ∧ x1 a ≤ 255) ∧ (0 ≤ x2 a ∧ x2 a ≤ 255) := h
theorem degX_eq (a : ex.den) : degX a = x0 a + x1 a + x2 a := rfl
def DegLe (d : Int) (ts : List term.den) : Prop := ∀ t ∈ ts, degX t.1 ≤ d
theorem DegLe.mono {d e : Int} {ts : List term.den} (h : DegLe d ts) (hd : d ≤ e) : DegLe e ts := fun t ht => Int.le_trans (h t ht) hd
def degI (ts : List term.den) : Int := match ts.getLast? with | none => -1 | some t => degX t.1
theorem degI_le {d : Int} {ts : List term.den} (h : DegLe d ts) (hd : -1 ≤ d) : degI ts ≤ d := by
  unfold degI
  cases hl : ts.getLast? with
  | none => exact hd
  | some s => exact h s (List.mem_of_getLast? hl)
theorem degX_nn {a : ex.den} (h : okX a) : 0 ≤ degX a := by
  have h := okX_rng h
  rw [degX_eq]; omega
theorem degI_rng {p d : Int} {ts : List term.den} (h : CanT p ts) (hd : DegLe d ts) (h0 : -1 ≤ d) : -1 ≤ degI ts ∧ degI ts ≤ d := by
  refine ⟨?_, degI_le hd h0⟩
  unfold degI
  cases hl : ts.getLast? with
  | none => exact Int.le_refl _
  | some s => have := degX_nn (h.ok s (List.mem_of_getLast? hl)).1; simp only; omega
theorem can_len {p d : Int} {ts : List term.den} (h : CanT p ts) (hd : DegLe d ts) (h1 : d ≤ 40) : ts.length ≤ 68921 := by
  have nd : (ts.map fun t => ((x0 t.1).toNat * 1681 + (x1 t.1).toNat * 41 + (x2 t.1).toNat)).Nodup := by
    refine List.pairwise_map.2 (List.Pairwise.imp_of_mem ?_ h.srt)
    intro a b ha hb hab e
    have oa := okX_rng (h.ok a ha).1
    have ob := okX_rng (h.ok b hb).1
    have da := hd a ha
    have db := hd b hb
    rw [degX_eq] at da db
    have e0 : x0 a.1 = x0 b.1 := by omega
    have e1 : x1 a.1 = x1 b.1 := by omega
    have e2 : x2 a.1 = x2 b.1 := by omega
    have hab : (x0 a.1 + x1 a.1 + x2 a.1) * 65536 + (255 - x0 a.1) * 256 + (255 - x1 a.1) < (x0 b.1 + x1 b.1 + x2 b.1) * 65536 + (255 - x0 b.1) * 256 + (255 - x1 b.1) := hab
    omega
  have := len_sub (R := List.range 68921) nd fun z hz => by
    obtain ⟨t, ht, rfl⟩ := List.mem_map.1 hz
    have ot := okX_rng (h.ok t ht).1
    have dt := hd t ht
    rw [degX_eq] at dt
    exact List.mem_range.2 (by omega)
  simpa using this
theorem can_nil {p : Int} : CanT p [] := ⟨.nil, by simp⟩
theorem getD_last {ts : List term.den} {d : term.den} (h : ts ≠ []) : ts.getLast? = some (ts.getD (ts.length - 1) d) := by
  have hl : 0 < ts.length := List.length_pos_iff.2 h
  rw [List.getLast?_eq_getElem?, List.getD_eq_getElem?_getD, List.getElem?_eq_getElem (by omega)]; rfl
theorem degI_last {ts : List term.den} {d : term.den} (h : ts ≠ []) : degI ts = degX (ts.getD (ts.length - 1) d).1 := by
  unfold degI; rw [getD_last (d := d) h]
def okTs (ts : List term.den) : Prop := ts.length ≤ 1000000 ∧ ∀ t ∈ ts, okX t.1
theorem okTs.last {ts : List term.den} {d : term.den} (h : okTs ts) (hn : ts ≠ []) : okX (ts.getD (ts.length - 1) d).1 := by
  have hl : 0 < ts.length := List.length_pos_iff.2 hn
  rw [List.getD_eq_getElem?_getD, List.getElem?_eq_getElem (by omega)]
  exact h.2 _ (List.getElem_mem _)
noncomputable def cf115 : G115 := by
  classical exact fun x => if okTs x.1.2.2.1 then some (degI x.1.2.2.1, ()) else none
theorem k115 : KOne Try.prog 115 ⟨[.v poly], [i64], false, false, 0, cf115⟩ := ok115 _ (.cons k158 .nil) cf115 fun x y h => by
  obtain ⟨⟨p, v, ts, _⟩, _⟩ := x
  simp only [cf115] at h
  split at h
  · rename_i hc
    injection h with h; subst h
    replace hc : okTs ts := hc
    have h1 := hc.1
    refine ⟨0, ?_⟩
    show (bif decide (ts.length ≤ _) then _ else _) = _
    by_cases q : ts = []
    · subst q; rfl
    · have hl : 0 < ts.length := List.length_pos_iff.2 q
      have wi : w6 ((ts.length : Int) - 1) = ((ts.length - 1 : Nat) : Int) := by rw [w6_i (by omega) (by omega)]; omega
      have g : cf158 ((ts.getD (ts.length - 1) (Ty.dflt term)).1, ()) = some (degX (ts.getD (ts.length - 1) (Ty.dflt term)).1, ()) := if_pos (hc.last q)
      simp (disch := omega) only [dln_t, cond_true, ofn, deq_f, cond_false, wi, ib_t, tn_cast]
      show (match cf158 ((ts.getD (ts.length - 1) (Ty.dflt term)).1, ()) with | some r5 => some (r5.1, ()) | none => none) = some (degI ts, ())
      rw [g, degI_last (d := Ty.dflt term) q]
  · cases h
theorem g115_ok {p v : Int} {ts : List term.den} (h : okTs ts) : cf115 ((p, v, ts, ()), ()) = some (degI ts, ()) := if_pos h
noncomputable def cf117 : G117 := by
  classical exact fun x => if okTs x.1.2.2.1 then some (degI x.1.2.2.1, ()) else none
theorem k117 : KOne Try.prog 117 ⟨[.v poly], [i64], false, false, 0, cf117⟩ := ok117 _ (.cons k159 .nil) cf117 fun x y h => by
  obtain ⟨⟨p, v, ts, _⟩, _⟩ := x
  simp only [cf117] at h
  split at h
  · rename_i hc
    injection h with h; subst h
    replace hc : okTs ts := hc
    have h1 := hc.1
    refine ⟨0, ?_⟩
    show (bif decide (ts.length ≤ _) then _ else _) = _
    by_cases q : ts = []
    · subst q; rfl
    · have hl : 0 < ts.length := List.length_pos_iff.2 q
      have wi : w6 ((ts.length : Int) - 1) = ((ts.length - 1 : Nat) : Int) := by rw [w6_i (by omega) (by omega)]; omega
      have g : cf159 ((ts.getD (ts.length - 1) (Ty.dflt term)).1, ()) = some (degX (ts.getD (ts.length - 1) (Ty.dflt term)).1, ()) := if_pos (hc.last q)
      simp (disch := omega) only [dln_t, cond_true, ofn, deq_f, cond_false, wi, ib_t, tn_cast]
      show (match cf159 ((ts.getD (ts.length - 1) (Ty.dflt term)).1, ()) with | some r5 => some (r5.1, ()) | none => none) = some (degI ts, ())
      rw [g, degI_last (d := Ty.dflt term) q]
  · cases h
theorem g117_ok {p v : Int} {ts : List term.den} (h : okTs ts) : cf117 ((p, v, ts, ()), ()) = some (degI ts, ()) := if_pos h
def fits (a b : List term.den) : Bool := decide (a = []) || decide (b = []) || decide (degI a + degI b ≤ 12)
theorem okTs_of {p d : Int} {a : List term.den} (h : CanT p a) (hd : DegLe d a) (h1 : d ≤ 40) : okTs a := ⟨Nat.le_trans (can_len h hd h1) (by omega), fun t ht => (h.ok t ht).1⟩
def e0 : ex.den := ((0 : Int), (0 : Int), (0 : Int), ())
abbrev R171 : Type := Ress [.bool]
abbrev G171 : Type := Args [.v ex, .v ex] → Option R171
abbrev kp171 : List (Nat × List Nat) := [(0, [3, 2]), (1, [5, 3, 2]), (2, [7, 2, 3, 5]), (4, [16, 2, 3, 5]), (5, [4]), (3, [5, 3, 2]), (6, [4])]
abbrev ct171 : CTab := []
abbrev kr171 : Env → Option R171 := endK TT [.tmp 4] [.bool] false false
abbrev sh171_2 : Shape := [(2, bb ex), (3, bb ex), (5, vv i64)]
def st171_2 (F : Nat) (s : ShVal sh171_2) (k kx : ShVal sh171_2 → Option R171) : Option R171 :=
  match s with
  | ((t2, _), (t3, _), (t5, _), _) => (bif decide (t5 < (3 : Int)) then (bif ib t5 (Int.ofNat 3) then (bif ib t5 (Int.ofNat 3) then (bif (!decide ((tget (0 : Int) 3 t2 (tn t5)) = (tget (0 : Int) 3 t3 (tn t5)))) then (some (false, ())) else k ((t2, ()), ((t3, ()), (((w6 (t5 + (1 : Int))), ()), ())))) else none) else none) else kx ((t2, ()), ((t3, ()), ((t5, ()), ()))))
def ru171_2 (F : Nat) (s : ShVal sh171_2) (kx : ShVal sh171_2 → Option R171) : Option R171 := iter (fun s k => st171_2 F s k kx) F s
abbrev ls171_2 (F : Nat) : LS R171 := ⟨sh171_2, 0, ru171_2 F⟩
def fn171 (F : Nat) (x : Args [.v ex, .v ex]) : Option R171 :=
  match x with
  | (x0, x1, _) => (ru171_2 F ((x0, ()), ((x1, ()), (((0 : Int), ()), ()))) (fun s' => match s' with | ((t2, _), (t3, _), (t5, _), _) => (some (true, ()))))
theorem ev171_2 (F : Nat) (s : ShVal sh171_2) (k kx : ShVal sh171_2 → Option R171) : evL TT (ct171 ) kp171 [] (loopOf Try.f171 2) (envOf sh171_2 s) (fitK sh171_2 k) (fun j e => bif Nat.beq j 0 then fitK sh171_2 kx e else none) kr171 = st171_2 F s k kx := by
  obtain ⟨⟨t2, _⟩, ⟨t3, _⟩, ⟨t5, _⟩, _⟩ := s
  kernel_rfl
theorem ok171_2 (F : Nat) (hK : KOK Try.prog (ct171 )) : LSOK Try.prog ⟨17, false, undef⟩ (ls171_2 F) (loopOf Try.f171 2) kr171 :=
  loop_ok (st171_2 F) mixed tt_ok hK (by kernel_rfl) (LTOK_by (l := []) (by kernel_rfl) trivial) (ev171_2 F)
theorem ev171 (F : Nat) (x : Args [.v ex, .v ex]) : fnK TT (ct171 ) kp171 [.bool] [(2, ls171_2 F)] (bodyOf Try.f171) [.tmp 4] [.v ex, .v ex] false false x = fn171 F x := by
  obtain ⟨x0, x1, _⟩ := x
  kernel_rfl
theorem ok171 (hK : KOK Try.prog (ct171 )) (cf : G171) (h : ∀ x y, cf x = some y → ∃ F, fn171 F x = some y) : KOne Try.prog 171 ⟨[.v ex, .v ex], [.bool], false, false, 0, cf⟩ :=
  fn_one rfl (c := bodyOf Try.f171) mixed tt_ok hK Try.func171 (by kernel_rfl) (by kernel_rfl) (Nat.le_of_ble_eq_true (by kernel_rfl)) (by decide) fun x y hxy => by
    obtain ⟨F, hF⟩ := h x y hxy
    exact ⟨[(2, ls171_2 F)], LTOK_by (l := [loopOf Try.f171 2]) (by kernel_rfl) ⟨ls_at (by kernel_rfl) (ok171_2 F hK), trivial⟩, (ev171 F x).trans hF⟩
abbrev R144 : Type := Ress [.bool]
abbrev G144 : Type := Args [.v term, .v term] → Option R144
abbrev kp144 : List (Nat × List Nat) := [(0, [3, 2]), (1, [10, 3, 2]), (2, [4]), (3, [15]), (4, [4]), (5, [4])]
abbrev ct144 (g171 : G171) : CTab := [(171, ⟨[.v ex, .v ex], [.bool], false, false, 0, g171⟩)]
def fn144 (g171 : G171) (F : Nat) (x : Args [.v term, .v term]) : Option R144 :=
  match x with
  | (x0, x1, _) => (match (g171 (x0.1, (x1.1, ()))) with | some r5 => (bif (!r5.1) then (some (false, ())) else (bif (!decide (x0.2.1 = x1.2.1)) then (some (false, ())) else (some (true, ())))) | none => none)
theorem ev144 (g171 : G171) (F : Nat) (x : Args [.v term, .v term]) : fnK TT (ct144 g171 ) kp144 [.bool] [] (bodyOf Try.f144) [.tmp 4] [.v term, .v term] false false x = fn144 g171 F x := by
  obtain ⟨x0, x1, _⟩ := x
  kernel_rfl
theorem ok144 (g171 : G171) (hK : KOK Try.prog (ct144 g171 )) (cf : G144) (h : ∀ x y, cf x = some y → ∃ F, fn144 g171 F x = some y) : KOne Try.prog 144 ⟨[.v term, .v term], [.bool], false, false, 0, cf⟩ :=
  fn_one rfl (c := bodyOf Try.f144) mixed tt_ok hK Try.func144 (by kernel_rfl) (by kernel_rfl) (Nat.le_of_ble_eq_true (by kernel_rfl)) (by decide) fun x y hxy => by
    obtain ⟨F, hF⟩ := h x y hxy
    exact ⟨[], LTOK_by (l := []) (by kernel_rfl) trivial, (ev144 g171 F x).trans hF⟩
abbrev R92 : Type := Ress [.bool]
abbrev G92 : Type := Args [.v (.slice 135 term), .v (.slice 135 term)] → Option R92
abbrev kp92 : List (Nat × List Nat) := [(0, [0, 1]), (1, [10, 0, 1]), (2, [4]), (3, [5, 1, 0]), (4, [14, 0, 1, 5]), (6, [26, 0, 1, 5]), (7, [4]), (5, [5, 1, 0]), (8, [4])]
abbrev ct92 (g144 : G144) : CTab := [(144, ⟨[.v term, .v term], [.bool], false, false, 0, g144⟩)]
abbrev kr92 : Env → Option R92 := endK TT [.tmp 4] [.bool] false false
abbrev sh92_4 : Shape := [(0, .val false [.fz (.slice 135 term) 0 true]), (1, .val false [.fz (.slice 135 term) 0 true]), (5, vv i64)]
def st92_4 (g144 : G144) (F : Nat) (s : ShVal sh92_4) (k kx : ShVal sh92_4 → Option R92) : Option R92 :=
  match s with
  | ((t0, _), (t1, _), (t5, _), _) => (bif decide ((List.length t0) ≤ 9223372036854775807) then (bif decide (t5 < (Int.ofNat (List.length t0))) then (bif ib t5 (Int.ofNat (List.length t0)) then (bif ib t5 (Int.ofNat (List.length t1)) then (match (g144 ((List.getD t0 (tn t5) (Ty.dflt (.pair (.arr 3 (.int .u8)) (.pair (.int .i64) .unit)))), ((List.getD t1 (tn t5) (Ty.dflt (.pair (.arr 3 (.int .u8)) (.pair (.int .i64) .unit)))), ()))) with | some r11 => (bif (!r11.1) then (some (false, ())) else k ((t0, ()), ((t1, ()), (((w6 (t5 + (1 : Int))), ()), ())))) | none => none) else none) else none) else kx ((t0, ()), ((t1, ()), ((t5, ()), ())))) else none)
def ru92_4 (g144 : G144) (F : Nat) (s : ShVal sh92_4) (kx : ShVal sh92_4 → Option R92) : Option R92 := iter (fun s k => st92_4 g144 F s k kx) F s
abbrev ls92_4 (g144 : G144) (F : Nat) : LS R92 := ⟨sh92_4, 0, ru92_4 g144 F⟩
def fn92 (g144 : G144) (F : Nat) (x : Args [.v (.slice 135 term), .v (.slice 135 term)]) : Option R92 :=
  match x with
  | (x0, x1, _) => (bif decide ((List.length x0) ≤ 9223372036854775807) then (bif decide ((List.length x1) ≤ 9223372036854775807) then (bif (!decide ((Int.ofNat (List.length x0)) = (Int.ofNat (List.length x1)))) then (some (false, ())) else (ru92_4 g144 F ((x0, ()), ((x1, ()), (((0 : Int), ()), ()))) (fun s' => match s' with | ((t0, _), (t1, _), (t5, _), _) => (some (true, ()))))) else none) else none)
theorem ev92_4 (g144 : G144) (F : Nat) (s : ShVal sh92_4) (k kx : ShVal sh92_4 → Option R92) : evL TT (ct92 g144 ) kp92 [] (loopOf Try.f92 4) (envOf sh92_4 s) (fitK sh92_4 k) (fun j e => bif Nat.beq j 0 then fitK sh92_4 kx e else none) kr92 = st92_4 g144 F s k kx := by
  obtain ⟨⟨t0, _⟩, ⟨t1, _⟩, ⟨t5, _⟩, _⟩ := s
  kernel_rfl
theorem ok92_4 (g144 : G144) (F : Nat) (hK : KOK Try.prog (ct92 g144 )) : LSOK Try.prog ⟨27, false, undef⟩ (ls92_4 g144 F) (loopOf Try.f92 4) kr92 :=
  loop_ok (st92_4 g144 F) mixed tt_ok hK (by kernel_rfl) (LTOK_by (l := []) (by kernel_rfl) trivial) (ev92_4 g144 F)
theorem ev92 (g144 : G144) (F : Nat) (x : Args [.v (.slice 135 term), .v (.slice 135 term)]) : fnK TT (ct92 g144 ) kp92 [.bool] [(4, ls92_4 g144 F)] (bodyOf Try.f92) [.tmp 4] [.v (.slice 135 term), .v (.slice 135 term)] false false x = fn92 g144 F x := by
  obtain ⟨x0, x1, _⟩ := x
  kernel_rfl
theorem ok92 (g144 : G144) (hK : KOK Try.prog (ct92 g144 )) (cf : G92) (h : ∀ x y, cf x = some y → ∃ F, fn92 g144 F x = some y) : KOne Try.prog 92 ⟨[.v (.slice 135 term), .v (.slice 135 term)], [.bool], false, false, 0, cf⟩ :=
  fn_one rfl (c := bodyOf Try.f92) mixed tt_ok hK Try.func92 (by kernel_rfl) (by kernel_rfl) (Nat.le_of_ble_eq_true (by kernel_rfl)) (by decide) fun x y hxy => by
    obtain ⟨F, hF⟩ := h x y hxy
    exact ⟨[(4, ls92_4 g144 F)], LTOK_by (l := [loopOf Try.f92 4]) (by kernel_rfl) ⟨ls_at (by kernel_rfl) (ok92_4 g144 F hK), trivial⟩, (ev92 g144 F x).trans hF⟩
abbrev R39 : Type := Ress [.bool]
abbrev G39 : Type := Args [.v poly, .v poly] → Option R39
abbrev kp39 : List (Nat × List Nat) := [(0, [2, 3]), (1, [9, 2, 3]), (2, [4]), (3, [14, 3, 2]), (4, [4]), (5, [20]), (6, [4]), (7, [4])]
abbrev ct39 (g92 : G92) : CTab := [(92, ⟨[.v (.slice 135 term), .v (.slice 135 term)], [.bool], false, false, 0, g92⟩)]
def fn39 (g92 : G92) (F : Nat) (x : Args [.v poly, .v poly]) : Option R39 :=
  match x with
  | (x0, x1, _) => (bif (!decide (x0.1 = x1.1)) then (some (false, ())) else (bif (!decide (x0.2.1 = x1.2.1)) then (some (false, ())) else (match (g92 (x0.2.2.1, (x1.2.2.1, ()))) with | some r7 => (bif (!r7.1) then (some (false, ())) else (some (true, ()))) | none => none)))
theorem ev39 (g92 : G92) (F : Nat) (x : Args [.v poly, .v poly]) : fnK TT (ct39 g92 ) kp39 [.bool] [] (bodyOf Try.f39) [.tmp 4] [.v poly, .v poly] false false x = fn39 g92 F x := by
  obtain ⟨x0, x1, _⟩ := x
  kernel_rfl
theorem ok39 (g92 : G92) (hK : KOK Try.prog (ct39 g92 )) (cf : G39) (h : ∀ x y, cf x = some y → ∃ F, fn39 g92 F x = some y) : KOne Try.prog 39 ⟨[.v poly, .v poly], [.bool], false, false, 0, cf⟩ :=
  fn_one rfl (c := bodyOf Try.f39) mixed tt_ok hK Try.func39 (by kernel_rfl) (by kernel_rfl) (Nat.le_of_ble_eq_true (by kernel_rfl)) (by decide) fun x y hxy => by
    obtain ⟨F, hF⟩ := h x y hxy
    exact ⟨[], LTOK_by (l := []) (by kernel_rfl) trivial, (ev39 g92 F x).trans hF⟩
abbrev R70 : Type := Ress [(.slice 135 term), i64]
abbrev G70 : Type := Args [.v (.slice 135 term), .v i64] → Option R70
abbrev kp70 : List (Nat × List Nat) := [(0, [0, 1]), (1, [0, 5, 1]), (2, [10, 1, 5, 0]), (4, [6, 1, 5, 0]), (5, [14, 1, 6, 5, 0]), (7, [1, 6, 5, 0]), (8, [6, 1, 5, 0]), (6, [6, 1, 5, 0]), (9, [1, 5, 0]), (10, [5, 0, 1]), (3, [0, 5, 1]), (11, [4, 0])]
abbrev ct70 : CTab := []
abbrev kr70 : Env → Option R70 := endM 135 term [.tmp 4]
abbrev sh70_5 : Shape := [(0, vr 135 term 1 false), (1, vv i64), (5, vv i64), (6, vv i64)]
def st70_5 (F : Nat) (s : ShVal sh70_5) (k kx : ShVal sh70_5 → Option R70) : Option R70 :=
  match s with
  | ((t0, _), (t1, _), (t5, _), (t6, _), _) => (bif decide (t6 < (3 : Int)) then (bif ib t5 (Int.ofNat (List.length t0)) then (bif ib t6 (Int.ofNat 3) then k (((List.set t0 (tn t5) ((tset (w8 t1) 3 (List.getD t0 (tn t5) (Ty.dflt (.pair (.arr 3 (.int .u8)) (.pair (.int .i64) .unit)))).1 (tn t6)), (List.getD t0 (tn t5) (Ty.dflt (.pair (.arr 3 (.int .u8)) (.pair (.int .i64) .unit)))).2)), ()), (((w6 (t1 + (1 : Int))), ()), ((t5, ()), (((w6 (t6 + (1 : Int))), ()), ())))) else none) else none) else kx ((t0, ()), ((t1, ()), ((t5, ()), ((t6, ()), ())))))
def ru70_5 (F : Nat) (s : ShVal sh70_5) (kx : ShVal sh70_5 → Option R70) : Option R70 := iter (fun s k => st70_5 F s k kx) F s
abbrev ls70_5 (F : Nat) : LS R70 := ⟨sh70_5, 2, ru70_5 F⟩
abbrev sh70_2 : Shape := [(0, vr 135 term 1 false), (1, vv i64), (5, vv i64)]
def st70_2 (F : Nat) (s : ShVal sh70_2) (k kx : ShVal sh70_2 → Option R70) : Option R70 :=
  match s with
  | ((t0, _), (t1, _), (t5, _), _) => (bif decide ((List.length t0) ≤ 9223372036854775807) then (bif decide (t5 < (Int.ofNat (List.length t0))) then (ru70_5 F ((t0, ()), ((t1, ()), ((t5, ()), (((0 : Int), ()), ())))) (fun s' => match s' with | ((t0, _), (t1, _), (t5, _), (t6, _), _) => (bif ib t5 (Int.ofNat (List.length t0)) then k (((List.set t0 (tn t5) ((List.getD t0 (tn t5) (Ty.dflt (.pair (.arr 3 (.int .u8)) (.pair (.int .i64) .unit)))).1, (t1, (List.getD t0 (tn t5) (Ty.dflt (.pair (.arr 3 (.int .u8)) (.pair (.int .i64) .unit)))).2.2))), ()), (((w6 (t1 + (1 : Int))), ()), (((w6 (t5 + (1 : Int))), ()), ()))) else none))) else kx ((t0, ()), ((t1, ()), ((t5, ()), ())))) else none)
def ru70_2 (F : Nat) (s : ShVal sh70_2) (kx : ShVal sh70_2 → Option R70) : Option R70 := iter (fun s k => st70_2 F s k kx) F s
abbrev ls70_2 (F : Nat) : LS R70 := ⟨sh70_2, 0, ru70_2 F⟩
def fn70 (F : Nat) (x : Args [.v (.slice 135 term), .v i64]) : Option R70 :=
  match x with
  | (x0, x1, _) => (ru70_2 F ((x0, ()), ((x1, ()), (((0 : Int), ()), ()))) (fun s' => match s' with | ((t0, _), (t1, _), (t5, _), _) => (some (t0, (t1, ())))))
theorem ev70_5 (F : Nat) (s : ShVal sh70_5) (k kx : ShVal sh70_5 → Option R70) : evL TT (ct70 ) kp70 [] (loopOf Try.f70 5) (envOf sh70_5 s) (fitK sh70_5 k) (fun j e => bif Nat.beq j 2 then fitK sh70_5 kx e else none) kr70 = st70_5 F s k kx := by
  obtain ⟨⟨t0, _⟩, ⟨t1, _⟩, ⟨t5, _⟩, ⟨t6, _⟩, _⟩ := s
  kernel_rfl
theorem ok70_5 (F : Nat) (hK : KOK Try.prog (ct70 )) (v0 : Value) : LSOK Try.prog ⟨35, true, v0⟩ (ls70_5 F) (loopOf Try.f70 5) kr70 :=
  loop_ok (st70_5 F) mixed tt_ok hK (by kernel_rfl) (LTOK_by (l := []) (by kernel_rfl) trivial) (ev70_5 F)
theorem ev70_2 (F : Nat) (s : ShVal sh70_2) (k kx : ShVal sh70_2 → Option R70) : evL TT (ct70 ) kp70 [(5, ls70_5 F)] (loopOf Try.f70 2) (envOf sh70_2 s) (fitK sh70_2 k) (fun j e => bif Nat.beq j 0 then fitK sh70_2 kx e else none) kr70 = st70_2 F s k kx := by
  obtain ⟨⟨t0, _⟩, ⟨t1, _⟩, ⟨t5, _⟩, _⟩ := s
  kernel_rfl
theorem ok70_2 (F : Nat) (hK : KOK Try.prog (ct70 )) (v0 : Value) : LSOK Try.prog ⟨35, true, v0⟩ (ls70_2 F) (loopOf Try.f70 2) kr70 :=
  loop_ok (st70_2 F) mixed tt_ok hK (by kernel_rfl) (LTOK_by (l := [loopOf Try.f70 5]) (by kernel_rfl) ⟨ls_at (by kernel_rfl) (ok70_5 F hK v0), trivial⟩) (ev70_2 F)
theorem ev70 (F : Nat) (x : Args [.v (.slice 135 term), .v i64]) : fnM TT (ct70 ) kp70 135 term [(2, ls70_2 F)] (bodyOf Try.f70) [.tmp 4] x = fn70 F x := by
  obtain ⟨x0, x1, _⟩ := x
  kernel_rfl
theorem ok70 (hK : KOK Try.prog (ct70 )) (cf : G70) (h : ∀ x y, cf x = some y → ∃ F, fn70 F x = some y) : KOne Try.prog 70 ⟨[.v (.slice 135 term), .v i64], [(.slice 135 term), i64], false, false, 1, cf⟩ :=
  fnM_one rfl (c := bodyOf Try.f70) mixed tt_ok hK Try.func70 (by kernel_rfl) (by kernel_rfl) (Nat.le_of_ble_eq_true (by kernel_rfl)) (by decide) fun x y hxy => by
    obtain ⟨F, hF⟩ := h x y hxy
    exact ⟨[(2, ls70_2 F)], fun v0 => LTOK_by (l := [loopOf Try.f70 2]) (by kernel_rfl) ⟨ls_at (by kernel_rfl) (ok70_2 F hK v0), trivial⟩, (ev70 F x).trans hF⟩
theorem iter_s {S α : Type} {step : S → (S → Option α) → Option α} {f : Nat} {s : S} : iter step (f + 1) s = step s (iter step f) := rfl
def cf171 : G171 := fun x => if x.1 = x.2.1 then some (true, ()) else none
theorem k171 : KOne Try.prog 171 ⟨[.v ex, .v ex], [.bool], false, false, 0, cf171⟩ := ok171 .nil cf171 fun x y h => by
  obtain ⟨a, b, _⟩ := x
  simp only [cf171] at h
  split at h
  · rename_i hc
    injection h with h; subst h
    replace hc : a = b := hc
    subst hc
    obtain ⟨a0, a1, a2, _⟩ := a
    refine ⟨4, ?_⟩
    have e : ∀ x : Int, (!decide (x = x)) = false := fun x => by simp
    show (bif !decide (a0 = a0) then _ else bif !decide (a1 = a1) then _ else bif !decide (a2 = a2) then _ else _) = _
    rw [e, e, e]; rfl
  · cases h
def cf144 : G144 := fun x => if x.1.1 = x.2.1.1 ∧ x.1.2.1 = x.2.1.2.1 then some (true, ()) else none
theorem k144 : KOne Try.prog 144 ⟨[.v term, .v term], [.bool], false, false, 0, cf144⟩ := ok144 _ (.cons k171 .nil) cf144 fun x y h => by
  obtain ⟨a, b, _⟩ := x
  simp only [cf144] at h
  split at h
  · rename_i hc
    injection h with h; subst h
    have g : cf171 (a.1, b.1, ()) = some (true, ()) := if_pos hc.1
    refine ⟨0, ?_⟩
    simp only [fn144, g, Bool.not_true, cond_false]
    rw [show decide (a.2.1 = b.2.1) = true from decide_eq_true hc.2]; rfl
  · cases h
theorem run92 {ts : List term.den} (h : ts.length ≤ 2000000) {F0 : Nat} : ∀ (r pre : List term.den) (F : Nat), r.length < F → pre ++ r = ts →
    iter (fun s k => st92_4 cf144 F0 s k (fun s' => match s' with | ((t0, _), (t1, _), (t5, _), _) => (some (true, ())))) F ((ts, ()), ((ts, ()), (((pre.length : Int), ()), ()))) = some (true, ())
  | [], pre, F, hF, hl => by
    obtain ⟨F, rfl⟩ : ∃ f, F = f + 1 := ⟨F - 1, by simp at hF; omega⟩
    have hlen : pre.length = ts.length := by rw [← hl]; simp
    simp only [iter, st92_4]
    simp (disch := omega) only [dln_t, cond_true, ofn, dlt_f, cond_false]
  | t :: r, pre, F, hF, hl => by
    obtain ⟨F, rfl⟩ : ∃ f, F = f + 1 := ⟨F - 1, by simp at hF; omega⟩
    have hpl : pre.length < ts.length := by rw [← hl]; simp
    have wi : w6 ((pre.length : Int) + 1) = ((pre ++ [t]).length : Int) := by rw [w6_i (by omega) (by omega)]; simp
    have ih := run92 h (F0 := F0) r (pre ++ [t]) F (by simp at hF; omega) (by simpa using hl)
    rw [← wi] at ih
    simp only [iter]
    generalize iter (fun s k => st92_4 cf144 F0 s k (fun s' => match s' with | ((t0, _), (t1, _), (t5, _), _) => (some (true, ())))) F = K at ih ⊢
    simp only [st92_4]
    have g : ∀ z : term.den, cf144 (z, z, ()) = some (true, ()) := fun z => if_pos ⟨rfl, rfl⟩
    simp (disch := omega) only [dln_t, cond_true, ofn, dlt_t, ib_t, tn_cast, g, Bool.not_true, cond_false]
    exact ih
def cf92 : G92 := fun x => if (show List term.den from x.1) = x.2.1 ∧ (show List term.den from x.1).length ≤ 2000000 then some (true, ()) else none
theorem k92 : KOne Try.prog 92 ⟨[.v (.slice 135 term), .v (.slice 135 term)], [.bool], false, false, 0, cf92⟩ := ok92 _ (.cons k144 .nil) cf92 fun x y h => by
  obtain ⟨a, b, _⟩ := x
  simp only [cf92] at h
  split at h
  · rename_i hc
    injection h with h; subst h
    obtain ⟨e, hl⟩ := hc
    replace e : a = b := e
    replace hl : List.length a ≤ 2000000 := hl
    subst e
    refine ⟨List.length a + 1, ?_⟩
    show (bif decide (List.length a ≤ _) then (bif decide (List.length a ≤ _) then (bif (!decide ((List.length a : Int) = (List.length a : Int))) then _ else _) else none) else none) = _
    rw [dln_t (by omega), cond_true, cond_true, deq_t rfl]
    exact run92 hl (F0 := List.length a + 1) a [] (List.length a + 1) (by omega) rfl
  · cases h
def cf39 : G39 := fun x => if x.1.1 = x.2.1.1 ∧ x.1.2.1 = x.2.1.2.1 ∧ (show List term.den from x.1.2.2.1) = x.2.1.2.2.1 ∧ (show List term.den from x.1.2.2.1).length ≤ 2000000 then some (true, ()) else none
theorem k39 : KOne Try.prog 39 ⟨[.v poly, .v poly], [.bool], false, false, 0, cf39⟩ := ok39 _ (.cons k92 .nil) cf39 fun x y h => by
  obtain ⟨⟨p, v, a, _⟩, ⟨q, w, b, _⟩, _⟩ := x
  simp only [cf39] at h
  split at h
  · rename_i hc
    injection h with h; subst h
    obtain ⟨h1, h2, h3, h4⟩ := hc
    refine ⟨0, ?_⟩
    have g : cf92 (a, b, ()) = some (true, ()) := if_pos ⟨h3, h4⟩
    show (bif (!decide (p = q)) then _ else (bif (!decide (v = w)) then _ else (match cf92 (a, b, ()) with | some r7 => _ | none => none))) = _
    rw [show decide (p = q) = true from decide_eq_true h1, show decide (v = w) = true from decide_eq_true h2, g]; rfl
  · cases h
theorem e40 (k : Int) : k + 4 * ((0 : Nat) : Int) = k := by omega
def mkOne (k : Int) : term.den := ((w8 k, w8 (k + 1), w8 (k + 2), ()), k + 3, ())
def mkT (k : Int) : Nat → List term.den
  | 0 => []
  | n + 1 => mkOne k :: mkT (k + 4) n
theorem mkT_len : ∀ (n : Nat) (k : Int), (mkT k n).length = n
  | 0, _ => rfl
  | n + 1, k => by simp [mkT, mkT_len n]
theorem mkT_snoc : ∀ (n : Nat) (k : Int), mkT k (n + 1) = mkT k n ++ [mkOne (k + 4 * (n : Int))]
  | 0, k => by simp [mkT]
  | n + 1, k => by
    show mkOne k :: mkT (k + 4) (n + 1) = _
    rw [mkT_snoc n (k + 4)]
    simp only [mkT, List.cons_append]
    rw [show k + 4 + 4 * (n : Int) = k + 4 * ((n + 1 : Nat) : Int) by omega]
theorem set_at {α : Type} {pre r : List α} {t x : α} : (pre ++ t :: r).set pre.length x = pre ++ x :: r := by
  induction pre with
  | nil => rfl
  | cons a p ih => simp [ih]
theorem in70 {k : Int} (hk : 0 ≤ k ∧ k ≤ 100000000000) {pre r : List term.den} {t : term.den} (hl : (pre ++ t :: r).length ≤ 2000000) {F0 F : Nat} (hF : 4 ≤ F) {kx : ShVal sh70_5 → Option R70} :
    iter (fun s k => st70_5 F0 s k kx) F ((pre ++ t :: r, ()), ((k, ()), (((pre.length : Int), ()), (((0 : Int), ()), ())))) = kx ((pre ++ (((w8 k, w8 (k + 1), w8 (k + 2), ()) : ex.den), t.2) :: r, ()), ((k + 3, ()), (((pre.length : Int), ()), (((3 : Int), ()), ())))) := by
  obtain ⟨F, rfl⟩ : ∃ f, F = f + 4 := ⟨F - 4, by omega⟩
  have hpl : pre.length < (pre ++ t :: r).length := by simp
  have hlen : ∀ z : term.den, (pre ++ z :: r).length = (pre ++ t :: r).length := fun z => by simp
  have a1 : w6 (k + 1) = k + 1 := w6_i (by omega) (by omega)
  have a2 : w6 (k + 1 + 1) = k + 2 := by rw [w6_i (by omega) (by omega)]; omega
  have a3 : w6 (k + 2 + 1) = k + 3 := by rw [w6_i (by omega) (by omega)]; omega
  have b1 : w6 ((0 : Int) + 1) = 1 := rfl
  have b2 : w6 ((1 : Int) + 1) = 2 := rfl
  have b3 : w6 ((2 : Int) + 1) = 3 := rfl
  have c0 : decide ((0 : Int) < 3) = true := rfl
  have c1 : decide ((1 : Int) < 3) = true := rfl
  have c2 : decide ((2 : Int) < 3) = true := rfl
  have c3 : decide ((3 : Int) < 3) = false := rfl
  have d0 : ib (0 : Int) (Int.ofNat 3) = true := rfl
  have d1 : ib (1 : Int) (Int.ofNat 3) = true := rfl
  have d2 : ib (2 : Int) (Int.ofNat 3) = true := rfl
  obtain ⟨⟨u0, u1, u2, u3⟩, tv⟩ := t
  have step : ∀ (z : term.den) (kk j : Int) (K : ShVal sh70_5 → Option R70), decide (j < 3) = true → ib j (Int.ofNat 3) = true → st70_5 F0 ((pre ++ z :: r, ()), ((kk, ()), (((pre.length : Int), ()), ((j, ()), ())))) K kx =
      K ((pre ++ ((tset (w8 kk) 3 z.1 (tn j)), z.2) :: r, ()), ((w6 (kk + 1), ()), (((pre.length : Int), ()), ((w6 (j + 1), ()), ())))) := fun z kk j K h1 h2 => by
    have e0 : ib (pre.length : Int) ((pre ++ z :: r).length : Int) = true := ib_t (by omega) (by rw [hlen z]; omega)
    simp only [st70_5, h1, cond_true, ofn, e0, h2, tn_cast, getD_pre, set_at]
    rw [show ib j ((3 : Nat) : Int) = true from h2]; rfl
  rw [show F + 4 = (F + 3) + 1 by omega, iter_s, step _ _ _ _ c0 d0, a1, b1, show F + 3 = (F + 2) + 1 by omega, iter_s, step _ _ _ _ c1 d1, a2, b2, show F + 2 = (F + 1) + 1 by omega, iter_s, step _ _ _ _ c2 d2, a3, b3, iter_s]
  simp only [st70_5, c3, cond_false]
  rfl
theorem run70 {k0 : Int} (hk : 0 ≤ k0 ∧ k0 ≤ 10000000000) {F0 : Nat} (hF0 : 4 ≤ F0) : ∀ (r : List term.den) (n F : Nat), r.length < F → n + r.length ≤ 2000000 →
    iter (fun s k => st70_2 F0 s k (fun s' => match s' with | ((t0, _), (t1, _), (t5, _), _) => (some (t0, (t1, ()))))) F ((mkT k0 n ++ r, ()), ((k0 + 4 * (n : Int), ()), (((n : Int), ()), ()))) = some (mkT k0 (n + r.length), k0 + 4 * ((n + r.length : Nat) : Int), ())
  | [], n, F, hF, hl => by
    obtain ⟨F, rfl⟩ : ∃ f, F = f + 1 := ⟨F - 1, by simp at hF; omega⟩
    have hm := mkT_len n k0
    rw [List.append_nil]
    simp only [List.length_nil, Nat.add_zero]
    generalize mkT k0 n = M at hm ⊢
    simp only [iter, st70_2]
    simp (disch := omega) only [dln_t, cond_true, ofn, dlt_f, cond_false]
  | t :: r, n, F, hF, hl => by
    obtain ⟨F, rfl⟩ : ∃ f, F = f + 1 := ⟨F - 1, by simp at hF; omega⟩
    have hm := mkT_len n k0
    simp only [List.length_cons] at hl
    have hl2 : (mkT k0 n ++ t :: r).length ≤ 2000000 := by simp [hm]; omega
    have hpl : n < (mkT k0 n ++ t :: r).length := by simp [hm]
    have wi : w6 ((n : Int) + 1) = ((n + 1 : Nat) : Int) := by rw [w6_i (by omega) (by omega)]; omega
    have wk : w6 (k0 + 4 * (n : Int) + 3 + 1) = k0 + 4 * ((n + 1 : Nat) : Int) := by rw [w6_i (by omega) (by omega)]; omega
    have ih := run70 hk hF0 r (n + 1) F (by simp at hF; omega) (by omega)
    rw [mkT_snoc, List.append_assoc] at ih
    simp only [List.cons_append, List.nil_append] at ih
    rw [show n + (t :: r).length = n + 1 + r.length by simp; omega]
    simp only [iter]
    generalize iter (fun s k => st70_2 F0 s k (fun s' => match s' with | ((t0, _), (t1, _), (t5, _), _) => (some (t0, (t1, ()))))) F = K at ih ⊢
    have key := in70 (k := k0 + 4 * (n : Int)) (by omega) (pre := mkT k0 n) (r := r) (t := t) hl2 (F0 := F0) (F := F0) hF0 (kx := fun s' => match s' with | ((t0, _), (t1, _), (t5, _), (t6, _), _) => (bif ib t5 (Int.ofNat (List.length t0)) then K ((((List.set t0 (tn t5) ((List.getD t0 (tn t5) (Ty.dflt (.pair (.arr 3 (.int .u8)) (.pair (.int .i64) .unit)))).1, (t1, (List.getD t0 (tn t5) (Ty.dflt (.pair (.arr 3 (.int .u8)) (.pair (.int .i64) .unit)))).2.2))), ()), (((w6 (t1 + (1 : Int))), ()), (((w6 (t5 + (1 : Int))), ()), ())))) else none))
    rw [hm] at key
    simp only [st70_2]
    rw [dln_t (by omega), cond_true, ofn, dlt_t (by omega), cond_true]
    refine key.trans ?_
    have e0 : ∀ z : term.den, ib (n : Int) ((mkT k0 n ++ z :: r).length : Int) = true := fun z => ib_t (by omega) (by simp [hm]; omega)
    have e1 : ∀ z d : term.den, (mkT k0 n ++ z :: r).getD n d = z := fun z d => by
      have := getD_pre (pre := mkT k0 n) (r := r) (t := z) (d := d)
      rwa [hm] at this
    have e2 : ∀ z x : term.den, (mkT k0 n ++ z :: r).set n x = mkT k0 n ++ x :: r := fun z x => by
      have := set_at (pre := mkT k0 n) (r := r) (t := z) (x := x)
      rwa [hm] at this
    simp only [ofn, e0, cond_true, tn_cast, e1, e2, wi, wk]
    exact ih
def cf70 : G70 := fun x => if (show List term.den from x.1).length ≤ 2000000 ∧ 0 ≤ x.2.1 ∧ x.2.1 ≤ (10000000000 : Int) then some (mkT x.2.1 (show List term.den from x.1).length, x.2.1 + 4 * ((show List term.den from x.1).length : Int), ()) else none
theorem k70 : KOne Try.prog 70 ⟨[.v (.slice 135 term), .v i64], [.slice 135 term, i64], false, false, 1, cf70⟩ := ok70 .nil cf70 fun x y h => by
  obtain ⟨a, k, _⟩ := x
  simp only [cf70] at h
  split at h
  · rename_i hc
    injection h with h; subst h
    obtain ⟨h1, h2⟩ := hc
    replace h1 : List.length a ≤ 2000000 := h1
    refine ⟨List.length a + 4, ?_⟩
    have := run70 (k0 := k) h2 (F0 := List.length a + 4) (by omega) a 0 (List.length a + 4) (by omega) (by omega)
    simp only [Nat.zero_add] at this
    rw [e40 k] at this
    exact this
  · cases h
abbrev R181 : Type := Ress [ex]
abbrev G181 : Type := Args [.v ex] → Option R181
abbrev kp181 : List (Nat × List Nat) := [(0, [1, 2]), (1, [3, 1, 2]), (2, [4, 3, 1, 2]), (3, [6, 4, 3, 1, 2]), (5, [4, 3, 1, 2]), (4, [4, 3, 1, 2]), (6, [2])]
abbrev ct181 : CTab := []
abbrev kr181 : Env → Option R181 := endK TT [.cell 2 105] [ex] false false
abbrev sh181_3 : Shape := [(1, bb ex), (2, bb ex), (3, bb ex), (4, vv i64)]
def st181_3 (F : Nat) (s : ShVal sh181_3) (k kx : ShVal sh181_3 → Option R181) : Option R181 :=
  match s with
  | ((t1, _), (t2, _), (t3, _), (t4, _), _) => (bif decide (t4 < (3 : Int)) then (bif ib t4 (Int.ofNat 3) then (bif ib t4 (Int.ofNat 3) then k ((t1, ()), ((t2, ()), (((tset (tget (0 : Int) 3 t1 (tn t4)) 3 t3 (tn t4)), ()), (((w6 (t4 + (1 : Int))), ()), ())))) else none) else none) else kx ((t1, ()), ((t2, ()), ((t3, ()), ((t4, ()), ())))))
def ru181_3 (F : Nat) (s : ShVal sh181_3) (kx : ShVal sh181_3 → Option R181) : Option R181 := iter (fun s k => st181_3 F s k kx) F s
abbrev ls181_3 (F : Nat) : LS R181 := ⟨sh181_3, 0, ru181_3 F⟩
def fn181 (F : Nat) (x : Args [.v ex]) : Option R181 :=
  match x with
  | (x0, _) => (ru181_3 F ((x0, ()), (((Ty.dflt (.arr 3 (.int .u8))), ()), (((Ty.dflt (.arr 3 (.int .u8))), ()), (((0 : Int), ()), ())))) (fun s' => match s' with | ((t1, _), (t2, _), (t3, _), (t4, _), _) => (some (t3, ()))))
theorem ev181_3 (F : Nat) (s : ShVal sh181_3) (k kx : ShVal sh181_3 → Option R181) : evL TT (ct181 ) kp181 [] (loopOf Try.f181 3) (envOf sh181_3 s) (fitK sh181_3 k) (fun j e => bif Nat.beq j 0 then fitK sh181_3 kx e else none) kr181 = st181_3 F s k kx := by
  obtain ⟨⟨t1, _⟩, ⟨t2, _⟩, ⟨t3, _⟩, ⟨t4, _⟩, _⟩ := s
  kernel_rfl
theorem ok181_3 (F : Nat) (hK : KOK Try.prog (ct181 )) : LSOK Try.prog ⟨15, false, undef⟩ (ls181_3 F) (loopOf Try.f181 3) kr181 :=
  loop_ok (st181_3 F) mixed tt_ok hK (by kernel_rfl) (LTOK_by (l := []) (by kernel_rfl) trivial) (ev181_3 F)
theorem ev181 (F : Nat) (x : Args [.v ex]) : fnK TT (ct181 ) kp181 [ex] [(3, ls181_3 F)] (bodyOf Try.f181) [.cell 2 105] [.v ex] false false x = fn181 F x := by
  obtain ⟨x0, _⟩ := x
  kernel_rfl
theorem ok181 (hK : KOK Try.prog (ct181 )) (cf : G181) (h : ∀ x y, cf x = some y → ∃ F, fn181 F x = some y) : KOne Try.prog 181 ⟨[.v ex], [ex], false, false, 0, cf⟩ :=
  fn_one rfl (c := bodyOf Try.f181) mixed tt_ok hK Try.func181 (by kernel_rfl) (by kernel_rfl) (Nat.le_of_ble_eq_true (by kernel_rfl)) (by decide) fun x y hxy => by
    obtain ⟨F, hF⟩ := h x y hxy
    exact ⟨[(3, ls181_3 F)], LTOK_by (l := [loopOf Try.f181 3]) (by kernel_rfl) ⟨ls_at (by kernel_rfl) (ok181_3 F hK), trivial⟩, (ev181 F x).trans hF⟩
abbrev R134 : Type := Ress [i64]
abbrev G134 : Type := Args [.v (.slice 158 term), .v i64] → Option R134
abbrev kp134 : List (Nat × List Nat) := [(0, [1, 0]), (1, [1]), (2, [10, 1]), (3, [4]), (4, [4])]
abbrev ct134 : CTab := []
def fn134 (F : Nat) (x : Args [.v (.slice 158 term), .v i64]) : Option R134 :=
  match x with
  | (x0, x1, _) => (bif decide ((List.length x0) ≤ 9223372036854775807) then (bif decide ((w6 (x1 - (Int.ofNat (List.length x0)))) < (0 : Int)) then (some ((-(1 : Int)), ())) else (some ((w6 (x1 - (Int.ofNat (List.length x0)))), ()))) else none)
theorem ev134 (F : Nat) (x : Args [.v (.slice 158 term), .v i64]) : fnK TT (ct134 ) kp134 [i64] [] (bodyOf Try.f134) [.tmp 4] [.v (.slice 158 term), .v i64] false false x = fn134 F x := by
  obtain ⟨x0, x1, _⟩ := x
  kernel_rfl
theorem ok134 (hK : KOK Try.prog (ct134 )) (cf : G134) (h : ∀ x y, cf x = some y → ∃ F, fn134 F x = some y) : KOne Try.prog 134 ⟨[.v (.slice 158 term), .v i64], [i64], false, false, 0, cf⟩ :=
  fn_one rfl (c := bodyOf Try.f134) mixed tt_ok hK Try.func134 (by kernel_rfl) (by kernel_rfl) (Nat.le_of_ble_eq_true (by kernel_rfl)) (by decide) fun x y hxy => by
    obtain ⟨F, hF⟩ := h x y hxy
    exact ⟨[], LTOK_by (l := []) (by kernel_rfl) trivial, (ev134 F x).trans hF⟩
abbrev R63 : Type := Ress [i64]
abbrev G63 : Type := Args [.v lpoly, .v i64] → Option R63
abbrev kp63 : List (Nat × List Nat) := [(0, [2, 1]), (1, [1]), (2, [10, 1]), (3, [4]), (4, [4])]
abbrev ct63 (g134 : G134) : CTab := [(134, ⟨[.v (.slice 158 term), .v i64], [i64], false, false, 0, g134⟩)]
def fn63 (g134 : G134) (F : Nat) (x : Args [.v lpoly, .v i64]) : Option R63 :=
  match x with
  | (x0, x1, _) => (match (g134 (x0.2.2.1, (x1, ()))) with | some r5 => (bif decide (r5.1 < (0 : Int)) then (some ((-(1 : Int)), ())) else (some (r5.1, ()))) | none => none)
theorem ev63 (g134 : G134) (F : Nat) (x : Args [.v lpoly, .v i64]) : fnK TT (ct63 g134 ) kp63 [i64] [] (bodyOf Try.f63) [.tmp 4] [.v lpoly, .v i64] false false x = fn63 g134 F x := by
  obtain ⟨x0, x1, _⟩ := x
  kernel_rfl
theorem ok63 (g134 : G134) (hK : KOK Try.prog (ct63 g134 )) (cf : G63) (h : ∀ x y, cf x = some y → ∃ F, fn63 g134 F x = some y) : KOne Try.prog 63 ⟨[.v lpoly, .v i64], [i64], false, false, 0, cf⟩ :=
  fn_one rfl (c := bodyOf Try.f63) mixed tt_ok hK Try.func63 (by kernel_rfl) (by kernel_rfl) (Nat.le_of_ble_eq_true (by kernel_rfl)) (by decide) fun x y hxy => by
    obtain ⟨F, hF⟩ := h x y hxy
    exact ⟨[], LTOK_by (l := []) (by kernel_rfl) trivial, (ev63 g134 F x).trans hF⟩
abbrev R21 : Type := Ress [i64]
abbrev G21 : Type := Args [.v (.slice 84 lpoly), .v i64] → Option R21
abbrev kp21 : List (Nat × List Nat) := [(0, [1, 0]), (1, [0, 1]), (2, [11, 0, 1]), (3, [4]), (4, [5, 1, 0]), (5, [15, 1, 0, 5]), (7, [0, 1, 5]), (8, [25, 0, 1, 5]), (9, [4]), (6, [5, 1, 0]), (10, [4])]
abbrev ct21 (g63 : G63) : CTab := [(63, ⟨[.v lpoly, .v i64], [i64], false, false, 0, g63⟩)]
abbrev kr21 : Env → Option R21 := endK TT [.tmp 4] [i64] false false
abbrev sh21_5 : Shape := [(0, .val false [.fz (.slice 84 lpoly) 0 true]), (1, vv i64), (5, vv i64)]
def st21_5 (g63 : G63) (F : Nat) (s : ShVal sh21_5) (k kx : ShVal sh21_5 → Option R21) : Option R21 :=
  match s with
  | ((t0, _), (t1, _), (t5, _), _) => (bif decide ((List.length t0) ≤ 9223372036854775807) then (bif decide (t5 < (Int.ofNat (List.length t0))) then (bif ib t5 (Int.ofNat (List.length t0)) then (match (g63 ((List.getD t0 (tn t5) (Ty.dflt (.pair (.int .i64) (.pair (.int .i64) (.pair (.slice 158 (.pair (.arr 3 (.int .u8)) (.pair (.int .i64) .unit))) .unit))))), (t1, ()))) with | some r12 => (bif decide (r12.1 < (0 : Int)) then (some ((-(1 : Int)), ())) else k ((t0, ()), ((r12.1, ()), (((w6 (t5 + (1 : Int))), ()), ())))) | none => none) else none) else kx ((t0, ()), ((t1, ()), ((t5, ()), ())))) else none)
def ru21_5 (g63 : G63) (F : Nat) (s : ShVal sh21_5) (kx : ShVal sh21_5 → Option R21) : Option R21 := iter (fun s k => st21_5 g63 F s k kx) F s
abbrev ls21_5 (g63 : G63) (F : Nat) : LS R21 := ⟨sh21_5, 0, ru21_5 g63 F⟩
def fn21 (g63 : G63) (F : Nat) (x : Args [.v (.slice 84 lpoly), .v i64]) : Option R21 :=
  match x with
  | (x0, x1, _) => (bif decide ((List.length x0) ≤ 9223372036854775807) then (bif decide ((w6 (x1 - (Int.ofNat (List.length x0)))) < (0 : Int)) then (some ((-(1 : Int)), ())) else (ru21_5 g63 F ((x0, ()), (((w6 (x1 - (Int.ofNat (List.length x0)))), ()), (((0 : Int), ()), ()))) (fun s' => match s' with | ((t0, _), (t1, _), (t5, _), _) => (some (t1, ()))))) else none)
theorem ev21_5 (g63 : G63) (F : Nat) (s : ShVal sh21_5) (k kx : ShVal sh21_5 → Option R21) : evL TT (ct21 g63 ) kp21 [] (loopOf Try.f21 5) (envOf sh21_5 s) (fitK sh21_5 k) (fun j e => bif Nat.beq j 0 then fitK sh21_5 kx e else none) kr21 = st21_5 g63 F s k kx := by
  obtain ⟨⟨t0, _⟩, ⟨t1, _⟩, ⟨t5, _⟩, _⟩ := s
  kernel_rfl
theorem ok21_5 (g63 : G63) (F : Nat) (hK : KOK Try.prog (ct21 g63 )) : LSOK Try.prog ⟨27, false, undef⟩ (ls21_5 g63 F) (loopOf Try.f21 5) kr21 :=
  loop_ok (st21_5 g63 F) mixed tt_ok hK (by kernel_rfl) (LTOK_by (l := []) (by kernel_rfl) trivial) (ev21_5 g63 F)
theorem ev21 (g63 : G63) (F : Nat) (x : Args [.v (.slice 84 lpoly), .v i64]) : fnK TT (ct21 g63 ) kp21 [i64] [(5, ls21_5 g63 F)] (bodyOf Try.f21) [.tmp 4] [.v (.slice 84 lpoly), .v i64] false false x = fn21 g63 F x := by
  obtain ⟨x0, x1, _⟩ := x
  kernel_rfl
theorem ok21 (g63 : G63) (hK : KOK Try.prog (ct21 g63 )) (cf : G21) (h : ∀ x y, cf x = some y → ∃ F, fn21 g63 F x = some y) : KOne Try.prog 21 ⟨[.v (.slice 84 lpoly), .v i64], [i64], false, false, 0, cf⟩ :=
  fn_one rfl (c := bodyOf Try.f21) mixed tt_ok hK Try.func21 (by kernel_rfl) (by kernel_rfl) (Nat.le_of_ble_eq_true (by kernel_rfl)) (by decide) fun x y hxy => by
    obtain ⟨F, hF⟩ := h x y hxy
    exact ⟨[(5, ls21_5 g63 F)], LTOK_by (l := [loopOf Try.f21 5]) (by kernel_rfl) ⟨ls_at (by kernel_rfl) (ok21_5 g63 F hK), trivial⟩, (ev21 g63 F x).trans hF⟩
abbrev R168 : Type := Ress [term]
abbrev G168 : Type := Args [.v term] → Option R168
abbrev kp168 : List (Nat × List Nat) := [(0, [1, 2]), (1, [1, 3, 2]), (2, [1, 3, 2]), (3, [3, 2]), (4, [2])]
abbrev ct168 (g181 : G181) : CTab := [(181, ⟨[.v ex], [ex], false, false, 0, g181⟩)]
def fn168 (g181 : G181) (F : Nat) (x : Args [.v term]) : Option R168 :=
  match x with
  | (x0, _) => (match (g181 (x0.1, ())) with | some r5 => (some ((r5.1, (x0.2.1, ())), ())) | none => none)
theorem ev168 (g181 : G181) (F : Nat) (x : Args [.v term]) : fnK TT (ct168 g181 ) kp168 [term] [] (bodyOf Try.f168) [.cell 2 135] [.v term] false false x = fn168 g181 F x := by
  obtain ⟨x0, _⟩ := x
  kernel_rfl
theorem ok168 (g181 : G181) (hK : KOK Try.prog (ct168 g181 )) (cf : G168) (h : ∀ x y, cf x = some y → ∃ F, fn168 g181 F x = some y) : KOne Try.prog 168 ⟨[.v term], [term], false, false, 0, cf⟩ :=
  fn_one rfl (c := bodyOf Try.f168) mixed tt_ok hK Try.func168 (by kernel_rfl) (by kernel_rfl) (Nat.le_of_ble_eq_true (by kernel_rfl)) (by decide) fun x y hxy => by
    obtain ⟨F, hF⟩ := h x y hxy
    exact ⟨[], LTOK_by (l := []) (by kernel_rfl) trivial, (ev168 g181 F x).trans hF⟩
abbrev R136 : Type := Ress [(.slice 135 term)]
abbrev G136 : Type := Args [.v (.slice 158 term)] → Option R136
abbrev kp136 : List (Nat × List Nat) := [(0, [0]), (1, [0, 3]), (2, [4, 0, 3]), (3, [11, 4, 0, 3]), (5, [4, 0, 3]), (4, [4, 0, 3]), (6, [2])]
abbrev ct136 (g168 : G168) : CTab := [(168, ⟨[.v term], [term], false, false, 0, g168⟩)]
abbrev kr136 : Env → Option R136 := endK TT [.tmp 2] [(.slice 135 term)] true false
abbrev sh136_3 : Shape := [(0, .val false [.fz (.slice 158 term) 0 true]), (3, vr 135 term 49 false), (4, vv i64)]
def st136_3 (g168 : G168) (F : Nat) (s : ShVal sh136_3) (k kx : ShVal sh136_3 → Option R136) : Option R136 :=
  match s with
  | ((t0, _), (t3, _), (t4, _), _) => (bif decide ((List.length t0) ≤ 9223372036854775807) then (bif decide (t4 < (Int.ofNat (List.length t0))) then (bif ib t4 (Int.ofNat (List.length t0)) then (match (g168 ((List.getD t0 (tn t4) (Ty.dflt (.pair (.arr 3 (.int .u8)) (.pair (.int .i64) .unit)))), ())) with | some r10 => (bif ib t4 (Int.ofNat (List.length t3)) then k ((t0, ()), (((List.set t3 (tn t4) r10.1), ()), (((w6 (t4 + (1 : Int))), ()), ()))) else none) | none => none) else none) else kx ((t0, ()), ((t3, ()), ((t4, ()), ())))) else none)
def ru136_3 (g168 : G168) (F : Nat) (s : ShVal sh136_3) (kx : ShVal sh136_3 → Option R136) : Option R136 := iter (fun s k => st136_3 g168 F s k kx) F s
abbrev ls136_3 (g168 : G168) (F : Nat) : LS R136 := ⟨sh136_3, 0, ru136_3 g168 F⟩
def fn136 (g168 : G168) (F : Nat) (x : Args [.v (.slice 158 term)]) : Option R136 :=
  match x with
  | (x0, _) => (bif decide ((List.length x0) ≤ 9223372036854775807) then (bif ((decide ((0 : Int) ≤ (Int.ofNat (List.length x0))) && decide ((Int.ofNat (List.length x0)) ≤ (1099511627776 : Int))) && decide ((Int.ofNat (List.length x0)) = (Int.ofNat (List.length x0)))) then (ru136_3 g168 F ((x0, ()), (((List.replicate (tn (Int.ofNat (List.length x0))) (Ty.dflt (.pair (.arr 3 (.int .u8)) (.pair (.int .i64) .unit)))), ()), (((0 : Int), ()), ()))) (fun s' => match s' with | ((t0, _), (t3, _), (t4, _), _) => (some (t3, ())))) else none) else none)
theorem ev136_3 (g168 : G168) (F : Nat) (s : ShVal sh136_3) (k kx : ShVal sh136_3 → Option R136) : evL TT (ct136 g168 ) kp136 [] (loopOf Try.f136 3) (envOf sh136_3 s) (fitK sh136_3 k) (fun j e => bif Nat.beq j 0 then fitK sh136_3 kx e else none) kr136 = st136_3 g168 F s k kx := by
  obtain ⟨⟨t0, _⟩, ⟨t3, _⟩, ⟨t4, _⟩, _⟩ := s
  kernel_rfl
theorem ok136_3 (g168 : G168) (F : Nat) (hK : KOK Try.prog (ct136 g168 )) : LSOK Try.prog ⟨23, false, undef⟩ (ls136_3 g168 F) (loopOf Try.f136 3) kr136 :=
  loop_ok (st136_3 g168 F) mixed tt_ok hK (by kernel_rfl) (LTOK_by (l := []) (by kernel_rfl) trivial) (ev136_3 g168 F)
theorem ev136 (g168 : G168) (F : Nat) (x : Args [.v (.slice 158 term)]) : fnK TT (ct136 g168 ) kp136 [(.slice 135 term)] [(3, ls136_3 g168 F)] (bodyOf Try.f136) [.tmp 2] [.v (.slice 158 term)] true false x = fn136 g168 F x := by
  obtain ⟨x0, _⟩ := x
  kernel_rfl
theorem ok136 (g168 : G168) (hK : KOK Try.prog (ct136 g168 )) (cf : G136) (h : ∀ x y, cf x = some y → ∃ F, fn136 g168 F x = some y) : KOne Try.prog 136 ⟨[.v (.slice 158 term)], [(.slice 135 term)], true, false, 0, cf⟩ :=
  fn_one rfl (c := bodyOf Try.f136) mixed tt_ok hK Try.func136 (by kernel_rfl) (by kernel_rfl) (Nat.le_of_ble_eq_true (by kernel_rfl)) (by decide) fun x y hxy => by
    obtain ⟨F, hF⟩ := h x y hxy
    exact ⟨[(3, ls136_3 g168 F)], LTOK_by (l := [loopOf Try.f136 3]) (by kernel_rfl) ⟨ls_at (by kernel_rfl) (ok136_3 g168 F hK), trivial⟩, (ev136 g168 F x).trans hF⟩
abbrev R66 : Type := Ress [poly]
abbrev G66 : Type := Args [.v lpoly] → Option R66
abbrev kp66 : List (Nat × List Nat) := [(0, [1, 2]), (1, [1, 3, 2]), (2, [1, 3, 2]), (3, [1, 3, 2]), (4, [3, 2]), (5, [2])]
abbrev ct66 (g136 : G136) : CTab := [(136, ⟨[.v (.slice 158 term)], [(.slice 135 term)], true, false, 0, g136⟩)]
def fn66 (g136 : G136) (F : Nat) (x : Args [.v lpoly]) : Option R66 :=
  match x with
  | (x0, _) => (match (g136 (x0.2.2.1, ())) with | some r7 => (some ((x0.1, (x0.2.1, (r7.1, ()))), ())) | none => none)
theorem ev66 (g136 : G136) (F : Nat) (x : Args [.v lpoly]) : fnK TT (ct66 g136 ) kp66 [poly] [] (bodyOf Try.f66) [.cell 2 58] [.v lpoly] true false x = fn66 g136 F x := by
  obtain ⟨x0, _⟩ := x
  kernel_rfl
theorem ok66 (g136 : G136) (hK : KOK Try.prog (ct66 g136 )) (cf : G66) (h : ∀ x y, cf x = some y → ∃ F, fn66 g136 F x = some y) : KOne Try.prog 66 ⟨[.v lpoly], [poly], true, false, 0, cf⟩ :=
  fn_one rfl (c := bodyOf Try.f66) mixed tt_ok hK Try.func66 (by kernel_rfl) (by kernel_rfl) (Nat.le_of_ble_eq_true (by kernel_rfl)) (by decide) fun x y hxy => by
    obtain ⟨F, hF⟩ := h x y hxy
    exact ⟨[], LTOK_by (l := []) (by kernel_rfl) trivial, (ev66 g136 F x).trans hF⟩
abbrev R23 : Type := Ress [(.slice 58 poly)]
abbrev G23 : Type := Args [.v (.slice 84 lpoly)] → Option R23
abbrev kp23 : List (Nat × List Nat) := [(0, [0]), (1, [0, 3]), (2, [4, 0, 3]), (3, [11, 4, 0, 3]), (5, [4, 0, 3]), (4, [4, 0, 3]), (6, [2])]
abbrev ct23 (g66 : G66) : CTab := [(66, ⟨[.v lpoly], [poly], true, false, 0, g66⟩)]
abbrev kr23 : Env → Option R23 := endK TT [.tmp 2] [(.slice 58 poly)] true false
abbrev sh23_3 : Shape := [(0, .val false [.fz (.slice 84 lpoly) 0 true]), (3, vr 58 poly 49 false), (4, vv i64)]
def st23_3 (g66 : G66) (F : Nat) (s : ShVal sh23_3) (k kx : ShVal sh23_3 → Option R23) : Option R23 :=
  match s with
  | ((t0, _), (t3, _), (t4, _), _) => (bif decide ((List.length t0) ≤ 9223372036854775807) then (bif decide (t4 < (Int.ofNat (List.length t0))) then (bif ib t4 (Int.ofNat (List.length t0)) then (match (g66 ((List.getD t0 (tn t4) (Ty.dflt (.pair (.int .i64) (.pair (.int .i64) (.pair (.slice 158 (.pair (.arr 3 (.int .u8)) (.pair (.int .i64) .unit))) .unit))))), ())) with | some r10 => (bif ib t4 (Int.ofNat (List.length t3)) then k ((t0, ()), (((List.set t3 (tn t4) (r10.1.1, (r10.1.2.1, (r10.1.2.2.1, ())))), ()), (((w6 (t4 + (1 : Int))), ()), ()))) else none) | none => none) else none) else kx ((t0, ()), ((t3, ()), ((t4, ()), ())))) else none)
def ru23_3 (g66 : G66) (F : Nat) (s : ShVal sh23_3) (kx : ShVal sh23_3 → Option R23) : Option R23 := iter (fun s k => st23_3 g66 F s k kx) F s
abbrev ls23_3 (g66 : G66) (F : Nat) : LS R23 := ⟨sh23_3, 0, ru23_3 g66 F⟩
def fn23 (g66 : G66) (F : Nat) (x : Args [.v (.slice 84 lpoly)]) : Option R23 :=
  match x with
  | (x0, _) => (bif decide ((List.length x0) ≤ 9223372036854775807) then (bif ((decide ((0 : Int) ≤ (Int.ofNat (List.length x0))) && decide ((Int.ofNat (List.length x0)) ≤ (1099511627776 : Int))) && decide ((Int.ofNat (List.length x0)) = (Int.ofNat (List.length x0)))) then (ru23_3 g66 F ((x0, ()), (((List.replicate (tn (Int.ofNat (List.length x0))) (Ty.dflt (.pair (.int .i64) (.pair (.int .i64) (.pair (.slice 135 (.pair (.arr 3 (.int .u8)) (.pair (.int .i64) .unit))) .unit))))), ()), (((0 : Int), ()), ()))) (fun s' => match s' with | ((t0, _), (t3, _), (t4, _), _) => (some (t3, ())))) else none) else none)
theorem ev23_3 (g66 : G66) (F : Nat) (s : ShVal sh23_3) (k kx : ShVal sh23_3 → Option R23) : evL TT (ct23 g66 ) kp23 [] (loopOf Try.f23 3) (envOf sh23_3 s) (fitK sh23_3 k) (fun j e => bif Nat.beq j 0 then fitK sh23_3 kx e else none) kr23 = st23_3 g66 F s k kx := by
  obtain ⟨⟨t0, _⟩, ⟨t3, _⟩, ⟨t4, _⟩, _⟩ := s
  kernel_rfl
theorem ok23_3 (g66 : G66) (F : Nat) (hK : KOK Try.prog (ct23 g66 )) : LSOK Try.prog ⟨23, false, undef⟩ (ls23_3 g66 F) (loopOf Try.f23 3) kr23 :=
  loop_ok (st23_3 g66 F) mixed tt_ok hK (by kernel_rfl) (LTOK_by (l := []) (by kernel_rfl) trivial) (ev23_3 g66 F)
theorem ev23 (g66 : G66) (F : Nat) (x : Args [.v (.slice 84 lpoly)]) : fnK TT (ct23 g66 ) kp23 [(.slice 58 poly)] [(3, ls23_3 g66 F)] (bodyOf Try.f23) [.tmp 2] [.v (.slice 84 lpoly)] true false x = fn23 g66 F x := by
  obtain ⟨x0, _⟩ := x
  kernel_rfl
theorem ok23 (g66 : G66) (hK : KOK Try.prog (ct23 g66 )) (cf : G23) (h : ∀ x y, cf x = some y → ∃ F, fn23 g66 F x = some y) : KOne Try.prog 23 ⟨[.v (.slice 84 lpoly)], [(.slice 58 poly)], true, false, 0, cf⟩ :=
  fn_one rfl (c := bodyOf Try.f23) mixed tt_ok hK Try.func23 (by kernel_rfl) (by kernel_rfl) (Nat.le_of_ble_eq_true (by kernel_rfl)) (by decide) fun x y hxy => by
    obtain ⟨F, hF⟩ := h x y hxy
    exact ⟨[(3, ls23_3 g66 F)], LTOK_by (l := [loopOf Try.f23 3]) (by kernel_rfl) ⟨ls_at (by kernel_rfl) (ok23_3 g66 F hK), trivial⟩, (ev23 g66 F x).trans hF⟩
abbrev R26 : Type := Ress [.bool]
abbrev G26 : Type := Args [.v (.slice 58 poly), .v (.slice 58 poly)] → Option R26
abbrev kp26 : List (Nat × List Nat) := [(0, [0, 1]), (1, [10, 0, 1]), (2, [4]), (3, [5, 1, 0]), (4, [14, 0, 1, 5]), (6, [26, 0, 1, 5]), (7, [4]), (5, [5, 1, 0]), (8, [4])]
abbrev ct26 (g39 : G39) : CTab := [(39, ⟨[.v poly, .v poly], [.bool], false, false, 0, g39⟩)]
abbrev kr26 : Env → Option R26 := endK TT [.tmp 4] [.bool] false false
abbrev sh26_4 : Shape := [(0, .val false [.fz (.slice 58 poly) 0 true]), (1, .val false [.fz (.slice 58 poly) 0 true]), (5, vv i64)]
def st26_4 (g39 : G39) (F : Nat) (s : ShVal sh26_4) (k kx : ShVal sh26_4 → Option R26) : Option R26 :=
  match s with
  | ((t0, _), (t1, _), (t5, _), _) => (bif decide ((List.length t0) ≤ 9223372036854775807) then (bif decide (t5 < (Int.ofNat (List.length t0))) then (bif ib t5 (Int.ofNat (List.length t0)) then (bif ib t5 (Int.ofNat (List.length t1)) then (match (g39 ((List.getD t0 (tn t5) (Ty.dflt (.pair (.int .i64) (.pair (.int .i64) (.pair (.slice 135 (.pair (.arr 3 (.int .u8)) (.pair (.int .i64) .unit))) .unit))))), ((List.getD t1 (tn t5) (Ty.dflt (.pair (.int .i64) (.pair (.int .i64) (.pair (.slice 135 (.pair (.arr 3 (.int .u8)) (.pair (.int .i64) .unit))) .unit))))), ()))) with | some r11 => (bif (!r11.1) then (some (false, ())) else k ((t0, ()), ((t1, ()), (((w6 (t5 + (1 : Int))), ()), ())))) | none => none) else none) else none) else kx ((t0, ()), ((t1, ()), ((t5, ()), ())))) else none)
def ru26_4 (g39 : G39) (F : Nat) (s : ShVal sh26_4) (kx : ShVal sh26_4 → Option R26) : Option R26 := iter (fun s k => st26_4 g39 F s k kx) F s
abbrev ls26_4 (g39 : G39) (F : Nat) : LS R26 := ⟨sh26_4, 0, ru26_4 g39 F⟩
def fn26 (g39 : G39) (F : Nat) (x : Args [.v (.slice 58 poly), .v (.slice 58 poly)]) : Option R26 :=
  match x with
  | (x0, x1, _) => (bif decide ((List.length x0) ≤ 9223372036854775807) then (bif decide ((List.length x1) ≤ 9223372036854775807) then (bif (!decide ((Int.ofNat (List.length x0)) = (Int.ofNat (List.length x1)))) then (some (false, ())) else (ru26_4 g39 F ((x0, ()), ((x1, ()), (((0 : Int), ()), ()))) (fun s' => match s' with | ((t0, _), (t1, _), (t5, _), _) => (some (true, ()))))) else none) else none)
theorem ev26_4 (g39 : G39) (F : Nat) (s : ShVal sh26_4) (k kx : ShVal sh26_4 → Option R26) : evL TT (ct26 g39 ) kp26 [] (loopOf Try.f26 4) (envOf sh26_4 s) (fitK sh26_4 k) (fun j e => bif Nat.beq j 0 then fitK sh26_4 kx e else none) kr26 = st26_4 g39 F s k kx := by
  obtain ⟨⟨t0, _⟩, ⟨t1, _⟩, ⟨t5, _⟩, _⟩ := s
  kernel_rfl
theorem ok26_4 (g39 : G39) (F : Nat) (hK : KOK Try.prog (ct26 g39 )) : LSOK Try.prog ⟨27, false, undef⟩ (ls26_4 g39 F) (loopOf Try.f26 4) kr26 :=
  loop_ok (st26_4 g39 F) mixed tt_ok hK (by kernel_rfl) (LTOK_by (l := []) (by kernel_rfl) trivial) (ev26_4 g39 F)
theorem ev26 (g39 : G39) (F : Nat) (x : Args [.v (.slice 58 poly), .v (.slice 58 poly)]) : fnK TT (ct26 g39 ) kp26 [.bool] [(4, ls26_4 g39 F)] (bodyOf Try.f26) [.tmp 4] [.v (.slice 58 poly), .v (.slice 58 poly)] false false x = fn26 g39 F x := by
  obtain ⟨x0, x1, _⟩ := x
  kernel_rfl
theorem ok26 (g39 : G39) (hK : KOK Try.prog (ct26 g39 )) (cf : G26) (h : ∀ x y, cf x = some y → ∃ F, fn26 g39 F x = some y) : KOne Try.prog 26 ⟨[.v (.slice 58 poly), .v (.slice 58 poly)], [.bool], false, false, 0, cf⟩ :=
  fn_one rfl (c := bodyOf Try.f26) mixed tt_ok hK Try.func26 (by kernel_rfl) (by kernel_rfl) (Nat.le_of_ble_eq_true (by kernel_rfl)) (by decide) fun x y hxy => by
    obtain ⟨F, hF⟩ := h x y hxy
    exact ⟨[(4, ls26_4 g39 F)], LTOK_by (l := [loopOf Try.f26 4]) (by kernel_rfl) ⟨ls_at (by kernel_rfl) (ok26_4 g39 F hK), trivial⟩, (ev26 g39 F x).trans hF⟩
abbrev R27 : Type := Ress [.slice 58 poly, i64]
abbrev G27 : Type := Args [.v (.slice 58 poly), .v i64] → Option R27
theorem RdL.app {α : Type} {R : α → List Value → List Nat → Prop} {n : Nat} : ∀ {l1 l2 : List α} {cs : List Value} {bs : List Nat}, RdL R n (l1 ++ l2) cs bs → ∃ b1 b2, RdL R n l1 cs b1 ∧ RdL R n l2 (cs.drop (l1.length * n)) b2 ∧ bs = b1 ++ b2
  | [], l2, cs, bs, h => ⟨[], bs, rfl, by simpa using h, rfl⟩
  | x :: l1, l2, cs, bs, ⟨b1, b2, h1, h2, h3⟩ => by
    obtain ⟨c1, c2, q1, q2, q3⟩ := RdL.app h2
    refine ⟨b1 ++ c1, c2, ⟨b1, c1, h1, q1, rfl⟩, ?_, by rw [h3, q3, List.append_assoc]⟩
    rw [List.drop_drop] at q2
    rw [List.length_cons, Nat.succ_mul, Nat.add_comm]; exact q2
theorem RdL.join {α : Type} {R : α → List Value → List Nat → Prop} {n : Nat} : ∀ {l1 l2 : List α} {cs : List Value} {b1 b2 : List Nat}, RdL R n l1 cs b1 → RdL R n l2 (cs.drop (l1.length * n)) b2 → RdL R n (l1 ++ l2) cs (b1 ++ b2)
  | [], l2, cs, b1, b2, h1, h2 => by have h1 : b1 = [] := h1; subst h1; simpa using h2
  | x :: l1, l2, cs, b1, b2, ⟨c1, c2, q1, q2, q3⟩, h2 => by
    rw [q3, List.append_assoc]
    refine ⟨c1, c2 ++ b2, q1, RdL.join q2 ?_, rfl⟩
    rw [List.drop_drop]
    rw [List.length_cons, Nat.succ_mul, Nat.add_comm] at h2; exact h2
section
variable {P : Program} {T : TTab} {K : CTab}
structure Nst (w0 : World) (ba : List Nat) (e : TypeId) (u : Ty) (hd : Value) (L : List u.den) (w : World) : Prop where
  rd : ∃ blk bs, SlR w.heap e u.size (Rd w.heap u) L hd blk bs ∧ (blk.toList ++ bs).Nodup ∧ ∀ z ∈ blk.toList ++ bs, z ∈ ba
  os : w.os = w0.os
  tp : Tp w w0
  out : w.output = w0.output
  size : w0.heap.size ≤ w.heap.size
  old : ∀ b, b < w0.heap.size → b ∉ ba → w.heap[b]? = w0.heap[b]?
  wr : ∀ b ∈ ba, ∃ c e, w.heap[b]? = some (.cells c e (0, 0))
  lt : ∀ b ∈ ba, b < w0.heap.size
theorem Nst.ext {w0 w w' : World} {ba : List Nat} {e : TypeId} {u : Ty} {hd : Value} {L : List u.den} (h : Nst w0 ba e u hd L w) (os : w'.os = w.os) (tp : Tp w' w) (out : w'.output = w.output) (size : w.heap.size ≤ w'.heap.size)
    (old : ∀ b, b < w.heap.size → w'.heap[b]? = w.heap[b]?) : Nst w0 ba e u hd L w' where
  rd := by
    obtain ⟨blk, bs, h1, h2, h3⟩ := h.rd
    have lt : ∀ z ∈ blk.toList ++ bs, z < w.heap.size := fun z hz => Nat.lt_of_lt_of_le (h.lt z (h3 z hz)) h.size
    exact ⟨blk, bs, h1.frame (fun b hb => old b (lt b (List.mem_append_right _ hb))) (fun b hb => old b (lt b (by simp [hb]))), h2, h3⟩
  os := os.trans h.os
  tp := tp.trans h.tp
  out := out.trans h.out
  size := Nat.le_trans h.size size
  old := fun b hb hn => (old b (Nat.lt_of_lt_of_le hb h.size)).trans (h.old b hb hn)
  wr := fun b hb => by rw [old b (Nat.lt_of_lt_of_le (h.lt b hb) h.size)]; exact h.wr b hb
  lt := h.lt
theorem Nst.elem {w0 w : World} {ba : List Nat} {e : TypeId} {u : Ty} {hd : Value} {pre suf : List u.den} {x : u.den} (h : Nst w0 ba e u hd (pre ++ x :: suf) w) (hu : u.size ≠ 0) :
    ∃ b o cap c e' be, hd = .slice (some ⟨b, o, none⟩) (pre ++ x :: suf).length cap ∧ w.heap[b]? = some (.cells c e' (0, 0)) ∧ o + pre.length * u.size + u.size ≤ c.size ∧
      Rd w.heap u x ((c.toList.drop (o + pre.length * u.size)).take u.size) be ∧ be.Nodup ∧ (∀ z ∈ be, z ∈ ba) ∧ b ∉ be ∧ b ∈ ba ∧
      ∀ (w' : World) (x' : u.den) (c' : Array Value) (bz : List Nat), w'.heap[b]? = some (.cells c' e' (0, 0)) → c'.size = c.size → (∀ j, j < o + pre.length * u.size ∨ o + pre.length * u.size + u.size ≤ j → c'[j]? = c[j]?) →
        Rd w'.heap u x' ((c'.toList.drop (o + pre.length * u.size)).take u.size) bz → bz.Nodup → (∀ z ∈ bz, z ∈ be) → w'.os = w.os → Tp w' w → w'.output = w.output → w.heap.size ≤ w'.heap.size →
        (∀ z, z < w.heap.size → z ∉ be → z ≠ b → w'.heap[z]? = w.heap[z]?) → (∀ z ∈ be, ∃ c e, w'.heap[z]? = some (.cells c e (0, 0))) → Nst w0 ba e u hd (pre ++ x' :: suf) w' := by
  obtain ⟨blk, bs, h1, h2, h3⟩ := h.rd
  rcases h1 with ⟨_, _, q, _⟩ | ⟨b, o, cap, c, fr, r1, r2, ⟨r3, r3'⟩, ⟨e', r4⟩, r5, r6⟩
  · cases pre <;> cases q
  · subst r2
    have hb : b ∈ ba := h3 b (by simp)
    have hfr : fr = (0, 0) := by
      obtain ⟨c1, e1, k⟩ := h.wr b hb
      rw [r4] at k; injection k with k; injection k with _ _ k
    subst hfr
    obtain ⟨b1, b2', s1, s2, s3⟩ := r6.app
    obtain ⟨be, b2, s4, s5, s6⟩ := s2
    rw [List.drop_drop] at s4
    rw [List.drop_drop, List.drop_drop] at s5
    subst s6; subst s3
    have nd := h2
    simp only [Option.toList_some, List.singleton_append, List.nodup_cons, List.mem_append, List.nodup_append, not_or] at nd
    obtain ⟨⟨n1, n2, n3⟩, n4, ⟨n5, n6, n7⟩, n8⟩ := nd
    have hlen : (pre ++ x :: suf).length = pre.length + 1 + suf.length := by simp; omega
    have hmul : (pre.length + 1) * u.size ≤ cap * u.size := Nat.mul_le_mul_right _ (by omega)
    have hsm : (pre.length + 1) * u.size = pre.length * u.size + u.size := Nat.succ_mul _ _
    refine ⟨b, o, cap, c, e', be, r1, r4, by omega, s4, n5, fun z hz => h3 z (by simp [hz]), n2, hb, ?_⟩
    intro w' x' c' bz t1 t2 t3 t4 t5 t6 t7 t8 t9 t10 t11 t12
    have ltA : ∀ z ∈ ba, z < w.heap.size := fun z hz => Nat.lt_of_lt_of_le (h.lt z hz) h.size
    have f1 : ∀ z ∈ b1, w'.heap[z]? = w.heap[z]? := fun z hz => t11 z (ltA z (h3 z (by simp [hz]))) (fun q => n8 z hz z (.inl q) rfl) (fun q => n1 (q ▸ hz))
    have f2 : ∀ z ∈ b2, w'.heap[z]? = w.heap[z]? := fun z hz => t11 z (ltA z (h3 z (by simp [hz]))) (fun q => n7 z q z hz rfl) (fun q => n3 (q ▸ hz))
    have g1 : RdL (Rd w'.heap u) u.size pre (c'.toList.drop o) b1 :=
      (s1.mono fun x cs b hm hr => hr.frame fun y hy => f1 y (hm y hy)).take fun j hj => by
        rw [List.getElem?_drop, List.getElem?_drop, Array.getElem?_toList, Array.getElem?_toList]; exact t3 _ (.inl (by omega))
    have g2 : RdL (Rd w'.heap u) u.size suf (c'.toList.drop (o + (pre.length * u.size + u.size))) b2 :=
      (s5.mono fun x cs b hm hr => hr.frame fun y hy => f2 y (hm y hy)).take fun j hj => by
        rw [List.getElem?_drop, List.getElem?_drop, Array.getElem?_toList, Array.getElem?_toList]; exact t3 _ (.inr (by omega))
    have g3 : RdL (Rd w'.heap u) u.size (pre ++ x' :: suf) (c'.toList.drop o) (b1 ++ (bz ++ b2)) := by
      refine RdL.join g1 ⟨bz, b2, ?_, ?_, rfl⟩
      · rw [List.drop_drop]; exact t4
      · rw [List.drop_drop, List.drop_drop]; exact g2
    refine ⟨⟨some b, b1 ++ (bz ++ b2), .inr ⟨b, o, cap, c', (0, 0), by rw [r1]; simp, rfl, ⟨by rw [hlen] at r3; simp; omega, r3'⟩, ⟨e', t1⟩, by omega, g3⟩, ?_, ?_⟩, t7.trans h.os, t8.trans h.tp, t9.trans h.out, Nat.le_trans h.size t10, ?_, ?_, h.lt⟩
    · simp only [Option.toList_some, List.singleton_append, List.nodup_cons, List.mem_append, List.nodup_append, not_or]
      refine ⟨⟨n1, fun q => n2 (t6 b q), n3⟩, n4, ⟨t5, n6, fun a ha b hb => n7 a (t6 a ha) b hb⟩, fun a ha b hb => ?_⟩
      rcases hb with q | q
      · exact n8 a ha b (.inl (t6 b q))
      · exact n8 a ha b (.inr q)
    · intro z hz
      simp only [Option.toList_some, List.singleton_append, List.mem_cons, List.mem_append] at hz
      rcases hz with rfl | q | q | q
      · exact hb
      · exact h3 z (by simp [q])
      · exact h3 z (by simp [t6 z q])
      · exact h3 z (by simp [q])
    · intro z hz hn
      rw [t11 z (Nat.lt_of_lt_of_le hz h.size) (fun q => hn (h3 z (by simp [q]))) (fun q => hn (q ▸ hb))]
      exact h.old z hz hn
    · intro z hz
      by_cases q1 : z ∈ be
      · exact t12 z q1
      · by_cases q2 : z = b
        · subst q2; exact ⟨_, _, t1⟩
        · rw [t11 z (ltA z hz) q1 q2]; exact h.wr z hz
structure AtV (n : Nat) (f : Nat → Value) (a : Act) : Prop where
  sz : a.tmps.size = n
  df : a.defers = []
  at_ : ∀ s, a.tmps.getD s undef = f s
def updV (f : Nat → Value) (d : Nat) (v : Value) : Nat → Value := fun s => if s = d then v else f s
theorem AtV.put {n d : Nat} {f : Nat → Value} {a : Act} (h : AtV n f a) (hd : d < n) (v : Value) : AtV n (updV f d v) (a.put (some d) v) where
  sz := by simp [Act.put, h.sz]
  df := h.df
  at_ := fun s => by rw [put_getD (by rw [h.sz]; exact hd), h.at_]; rfl
theorem AtV.ev {n s : Nat} {f : Nat → Value} {a : Act} (h : AtV n f a) : a.eval (.tmp s) = f s := h.at_ s
theorem run_indexS {t e : TypeId} {u : Ty} (hT : TOK P T) (k : TyOK P T t (.slice e u)) {w : World} {b o m cap : Nat} {kk : IntKind} {i : Nat} (hi : i < m) :
    (Instr.indexAt t (.slice (some ⟨b, o, none⟩) m cap) (.int kk i)).run P w = .ok (.pointer (some ⟨b, o + i * u.size, none⟩)) w := by
  obtain ⟨u1, u2, _⟩ := k.und
  have asInt : (asIntOf (.int kk (i : Int))).run P w = .ok (kk, (i : Int)) w := rfl
  have hi' : 0 ≤ (i : Int) ∧ (i : Int) < m := by omega
  simp only [Instr.indexAt, Sem.run_bind, asInt, Result.andThen_ok, run_underlying u1, Sem.run_pure, sizeOf_of (hT _ _ u2), if_pos hi']
  rw [addr_add]; simp
theorem run_loadS {t e : TypeId} {u : Ty} (k : TyOK P T t (.slice e u)) {w : World} {b o : Nat} {c : Array Value} {e' : TypeId} {fr : Nat × Nat} {v : Value} (hb : w.heap[b]? = some (.cells c e' fr)) (hv : c[o]? = some v) :
    (Instr.loadAt t (.pointer (some ⟨b, o, none⟩))).run P w = .ok v w := by
  have ho : o < c.size := by
    rcases Nat.lt_or_ge o c.size with q | q
    · exact q
    · rw [Array.getElem?_eq_none q] at hv; cases hv
  have := run_loadVar k hb (show o + (Ty.slice e u).size ≤ c.size from ho)
  simp only [Instr.loadAt, Sem.run_bind, run_sureAddr, Result.andThen_ok]
  rw [this]
  show Result.ok (((c.toList.drop o).take 1).headD undef) w = _
  congr 1
  have : c.toList.drop o = v :: c.toList.drop (o + 1) := by
    rw [List.drop_eq_getElem_cons (by simpa using ho)]
    congr 1
    rw [Array.getElem?_eq_getElem ho] at hv
    injection hv with hv
  rw [this]; rfl
theorem run_enter2 {a : Act} {w : World} {o : Oper} {c : Call} {kf : Nat} {x y z : Operand} {fn : Func} (hop : o.op = .call c) (hcal : c.callee = .value z) (hz : a.eval z = .func (.func kf) #[] #[]) (hargs : c.args.toList = [x, y])
    (f1 : P.funcs[kf]? = some fn) (f2 : fn.name ≠ "runtime.NumGoroutine") (f3 : fn.body.isNone = false) : (execOp a.eval o).run P w = .ok (.enter kf #[a.eval x, a.eval y]) w := by
  have hargs : c.args.map a.eval = #[a.eval x, a.eval y] := by apply Array.ext'; simp [hargs]
  simp only [execOp, hop, resolve, hcal, hz, Deferred.ofValue, invoke, callFunc, Sem.run_bind, Sem.run_pure, Result.andThen_ok, run_program, f1]
  rw [if_neg (by simpa using f2), if_neg (by simp [f3])]
  simp [hargs]
end
def callOf (o : Oper) : Option Call := match o.op with | .call c => some c | _ => none
def valOf (c : Callee) : Option Operand := match c with | .value z => some z | _ => none
def isF (f : Nat) : Operand → Bool
  | .func g => Nat.beq g f
  | _ => false
theorem isF_ev {f : Nat} {x : Operand} (h : isF f x = true) (a : Act) : a.eval x = .func (.func f) #[] #[] := by
  unfold isF at h
  split at h
  · rw [Nat.eq_of_beq_eq_true h]; rfl
  · cases h
def opsIn (id : Nat) : Code → Option (Array Oper)
  | .region j ops _ => bif Nat.beq j id then some ops else none
  | .seq a b => (match opsIn id a with | some x => some x | none => opsIn id b)
  | .cond _ a b => (match opsIn id a with | some x => some x | none => opsIn id b)
  | .block _ b => opsIn id b
  | .loop b => opsIn id b
  | _ => none
abbrev rows : Ty := .slice 24 (.slice 2 i64)
abbrev R28h : Type := Ress [rows, i64]
abbrev G28h : Type := Args [.v rows, .v i64] → Option R28h
abbrev G19h : Type := Args [.v (.slice 2 i64), .v i64] → Option (Ress [.slice 2 i64, i64])
noncomputable def o28 (i : Nat) : Array Oper := match opsIn i (bodyOf Try.f28) with | some x => x | none => #[]
noncomputable def loop28 : Code := .seq (.seq (.region 2 (o28 2) false) (.cond (.tmp 9) .skip (.exit 0))) (.seq (.block 1 (.region 4 (o28 4) false)) (.region 3 (o28 3) false))
theorem sk28 : Try.f28.body = some (.seq (.region 0 (o28 0) false) (.seq (.seq (.region 1 (o28 1) false) (.block 0 (.loop loop28))) (.seq (.region 5 (o28 5) false) .ret))) := by kernel_rfl
theorem nt28 : Try.f28.ntmps = 19 := by kernel_rfl
theorem rs28 : Try.f28.results.toList = [.tmp 4] := by kernel_rfl
def E28 (L : rows.den) (k : Int) (i : Int) : Env := [(0, .val false [.fz rows 0 true L]), (1, intE .i64 k), (5, intE .i64 i)]
theorem e28a (L : rows.den) (k : Int) : evL TT [] [] [] (.region 0 (o28 0) false) (initEnv 0 [.v rows, .v i64] (L, k, ())) (fun e => some (keepK [0, 1] e)) (fun _ _ => none) (fun _ => none) =
    some [(0, .val false [.fz rows 0 true L]), (1, intE .i64 k)] := by kernel_rfl
theorem e28b (L : rows.den) (k : Int) : evL TT [] [] [] (.region 1 (o28 1) false) [(0, .val false [.fz rows 0 true L]), (1, intE .i64 k)] (fun e => some (keepK [0, 1, 5] e)) (fun _ _ => none) (fun _ => none) =
    some (E28 L k 0) := by kernel_rfl
theorem e28c (L : rows.den) (k i : Int) : evL TT [] [] [] (.region 2 (o28 2) false) (E28 L k i) (fun e => some (keepK [0, 1, 5, 9] e)) (fun _ _ => none) (fun _ => none) =
    bif decide (L.length ≤ 9223372036854775807) then some (E28 L k i ++ [(9, boolE (decide (i < Int.ofNat L.length)))]) else none := by kernel_rfl
theorem e28d (L : rows.den) (k i : Int) : evL TT [] [] [] (.region 3 (o28 3) false) (E28 L k i) (fun e => some (keepK [0, 1, 5] e)) (fun _ _ => none) (fun _ => none) =
    some (E28 L k (IntKind.i64.wrap (i + 1))) := by kernel_rfl
theorem e28e (L : rows.den) (k i : Int) : evL TT [] [] [] (.region 5 (o28 5) false) (E28 L k i) (fun e => some (keepK [0, 1, 4] e)) (fun _ _ => none) (fun _ => none) =
    some [(0, .val false [.fz rows 0 true L]), (1, intE .i64 k), (4, intE .i64 k)] := by kernel_rfl
theorem oc28 (i : Nat) (hi : i = 0 ∨ i = 1 ∨ i = 2 ∨ i = 3 ∨ i = 5) (v0 : Value) : okCode ⟨19, true, v0⟩ (.region i (o28 i) false) = true := by
  rcases hi with rfl | rfl | rfl | rfl | rfl <;> kernel_rfl
theorem rg28 : List.range (o28 4).size = [0, 1, 2, 3, 4, 5, 6] := by kernel_rfl
noncomputable def o28_5 : Oper := ((o28 4)[5]?).get (by kernel_rfl)
noncomputable def c28_5 : Call := (callOf o28_5).get (by kernel_rfl)
noncomputable def z28_5 : Operand := (valOf c28_5.callee).get (by kernel_rfl)
theorem q28_0 : ∃ o, (o28 4)[0]? = some o ∧ o.op = .move (.tmp 0) ∧ o.dst = some 12 ∧ o.guard = none := ⟨((o28 4)[0]?).get (by kernel_rfl), (Option.some_get _).symm, by kernel_rfl, by kernel_rfl, by kernel_rfl⟩
theorem q28_1 : ∃ o, (o28 4)[1]? = some o ∧ o.op = .move (.tmp 5) ∧ o.dst = some 13 ∧ o.guard = none := ⟨((o28 4)[1]?).get (by kernel_rfl), (Option.some_get _).symm, by kernel_rfl, by kernel_rfl, by kernel_rfl⟩
theorem q28_2 : ∃ o, (o28 4)[2]? = some o ∧ o.op = .indexAddr 34 (.tmp 12) (.tmp 13) ∧ o.dst = some 14 ∧ o.guard = none := ⟨((o28 4)[2]?).get (by kernel_rfl), (Option.some_get _).symm, by kernel_rfl, by kernel_rfl, by kernel_rfl⟩
theorem q28_3 : ∃ o, (o28 4)[3]? = some o ∧ o.op = .load 24 (.tmp 14) ∧ o.dst = some 15 ∧ o.guard = none := ⟨((o28 4)[3]?).get (by kernel_rfl), (Option.some_get _).symm, by kernel_rfl, by kernel_rfl, by kernel_rfl⟩
theorem q28_4 : ∃ o, (o28 4)[4]? = some o ∧ o.op = .move (.tmp 1) ∧ o.dst = some 16 ∧ o.guard = none := ⟨((o28 4)[4]?).get (by kernel_rfl), (Option.some_get _).symm, by kernel_rfl, by kernel_rfl, by kernel_rfl⟩
theorem q28_5 : ∃ o c z, (o28 4)[5]? = some o ∧ o.op = .call c ∧ c.callee = .value z ∧ isF 19 z = true ∧ c.args.toList = [.tmp 15, .tmp 16] ∧ o.dst = some 17 ∧ o.guard = none :=
  ⟨o28_5, c28_5, z28_5, (Option.some_get _).symm, by kernel_rfl, by kernel_rfl, by kernel_rfl, by kernel_rfl, by kernel_rfl, by kernel_rfl⟩
theorem q28_6 : ∃ o, (o28 4)[6]? = some o ∧ o.op = .assign (.tmp 17) ∧ o.dst = some 1 ∧ o.guard = none := ⟨((o28 4)[6]?).get (by kernel_rfl), (Option.some_get _).symm, by kernel_rfl, by kernel_rfl, by kernel_rfl⟩
def foldM28 (g : G19h) : List (List Int) → Int → Option (List (List Int) × Int)
  | [], k => some ([], k)
  | x :: r, k => match g (x, k, ()) with
    | some y => (match foldM28 g r y.2.1 with | some z => some (y.1 :: z.1, z.2) | none => none)
    | none => none
structure I28 (w0 : World) (ba : List Nat) (hd : Value) (g : G19h) (N : Nat) (y : List (List Int) × Int) (a : Act) (w : World) (pre suf : List (List Int)) (k : Int) (f : Nat → Value) : Prop where
  at_ : AtV 19 f a
  f0 : f 0 = hd
  f1 : f 1 = .int .i64 k
  f5 : f 5 = .int .i64 pre.length
  wk : (Lit.int .i64 k).wf = true
  nst : Nst w0 ba 24 (.slice 2 i64) hd (pre ++ suf) w
  len : (pre ++ suf).length = N
  run : ∃ z, foldM28 g suf k = some z ∧ (pre ++ z.1, z.2) = y
theorem wf_i {i : Int} (h0 : 0 ≤ i) (h1 : i ≤ 1000000000000) : (Lit.int .i64 i).wf = true := by
  simp [Lit.wf, IntKind.min, IntKind.max, IntKind.bits, IntKind.signed]; omega
section
variable {w0 : World} {ba : List Nat} {hd : Value} {g : G19h} {N : Nat} {y : List (List Int) × Int}
theorem rawSt {e : TypeId} {u : Ty} {L : List u.den} {a : Act} {w : World} {n : Nat} {f : Nat → Value} {k i : Int} (h : AtV n f a) (f0 : f 0 = hd) (f1 : f 1 = .int .i64 k) (f5 : f 5 = .int .i64 i) (wk : (Lit.int .i64 k).wf = true) (wi : (Lit.int .i64 i).wf = true)
    (nst : Nst w0 ba e u hd L w) : St ⟨n, true, hd⟩ w (fun _ => False) (gh0 w [] ba) (Env.get [(0, .val false [.fz (.slice e u) 0 true L]), (1, intE .i64 k), (5, intE .i64 i)]) a w where
  inv := by
    refine ⟨Nat.le_refl _, fun b _ _ => rfl, fun b => ?_, fun b hb => ?_, fun b hb => ?_, fun b hb => absurd rfl hb, fun b hb => absurd rfl hb⟩
    · simp only [gh0]
      split
      · exact .inl rfl
      · exact .inr (.inl rfl)
    · simp only [gh0] at hb
      split at hb
      · cases hb
      · rename_i h; exact Nat.lt_of_not_le fun q => h (.inl q)
    · simp only [gh0] at hb
      split at hb
      · rename_i h; exact h
      · cases hb
  ent := by
    intro s
    rw [h.at_]
    simp only [Env.get]
    cases q0 : Nat.beq 0 s with
    | true =>
      have := Nat.eq_of_beq_eq_true q0; subst this
      rw [cond_true, f0]
      obtain ⟨blk, bs, h1, h2, h3⟩ := nst.rd
      have hc : hd.cells = #[hd] := by
        rcases h1 with ⟨p, q, _⟩ | ⟨_, _, _, _, _, q, _⟩ <;> rw [q] <;> rfl
      refine LeafB.val1 (l := .fz (.slice e u) 0 true L) (bs := blk.toList ++ bs) ⟨⟨hd, blk, bs, rfl, h1, rfl⟩, fun b hb => ?_, fun q => absurd rfl q, fun _ => ⟨fun q => absurd rfl q, fun _ _ _ => rfl⟩⟩ hc 0
      simp only [gh0]; rw [if_pos (.inr (h3 b hb))]
    | false =>
      rw [cond_false]
      cases q1 : Nat.beq 1 s with
      | true =>
        have := Nat.eq_of_beq_eq_true q1; subst this
        rw [cond_true, f1]; exact intE_sound wk
      | false =>
        rw [cond_false]
        cases q5 : Nat.beq 5 s with
        | true =>
          have := Nat.eq_of_beq_eq_true q5; subst this
          rw [cond_true, f5]; exact intE_sound wi
        | false => trivial
  sz := ⟨h.sz, fun _ => by rw [h.at_]; exact f0⟩
  df := h.df
  os := rfl
  tape := Tp.refl
  output := rfl
theorem St.atV {W : Nat → Prop} {n : NS} {w w' : World} {gg : Gh} {env : Nat → Ent} {a : Act} (st : St n w W gg env a w') : AtV n.n (fun s => a.tmps.getD s Go.undef) a := ⟨st.sz.1, st.df, fun _ => rfl⟩
theorem Nst.of_St {e : TypeId} {u : Ty} {L : List u.den} {n : NS} {w w' : World} {gg : Gh} {env : Nat → Ent} {a : Act} (h : Nst w0 ba e u hd L w) (st : St n w (fun _ => False) gg env a w') : Nst w0 ba e u hd L w' :=
  h.ext st.os st.tape st.output st.inv.size fun b hb => st.inv.old b hb (fun q => q)
def mu28 (N : Nat) (a : Act) : Nat := match a.tmps.getD 5 undef with | .int _ i => (N - i).toNat | _ => 0
theorem round28 {a : Act} {w : World} {pre suf : List (List Int)} {k : Int} {f : Nat → Value} {Q : Exit → Act → World → Prop} (k19 : KOne Try.prog 19 ⟨[.v (.slice 2 i64), .v i64], [.slice 2 i64, i64], false, false, 1, g⟩) (hN : N ≤ 10000000000)
    (I : I28 w0 ba hd g N y a w pre suf k f) (hQ : ∀ a' w' f', AtV 19 f' a' → f' 0 = hd → f' 1 = .int .i64 y.2 → (Lit.int .i64 y.2).wf = true → Nst w0 ba 24 (.slice 2 i64) hd y.1 w' → (∃ i, f' 5 = .int .i64 i ∧ (Lit.int .i64 i).wf = true) → Q (.exit 0) a' w') :
    loop28.wp Try.prog (Exit.then (fun a' w' => (∃ pre suf k f, I28 w0 ba hd g N y a' w' pre suf k f) ∧ mu28 N a' < mu28 N a) Q) a w := by
  have hl := I.len
  simp only [List.length_append] at hl
  have wi : (Lit.int .i64 (pre.length : Int)).wf = true := wf_i (by omega) (by omega)
  have st := rawSt I.at_ I.f0 I.f1 I.f5 I.wk wi I.nst
  have hlen : decide (List.length (pre ++ suf) ≤ 9223372036854775807) = true := decide_eq_true (by rw [List.length_append]; omega)
  refine wp_seq (wp_seq (ev_wp (A := fun b => b ∈ ba) (ks := [0, 1, 5, 9]) mixed tt_ok KOK.nil (fun b hb => (by cases hb)) (oc28 2 (by simp) hd) trivial ((e28c (pre ++ suf) k pre.length).trans (by rw [hlen]; rfl)) st rfl fun a1 w1 g1 st1 A1 => ?_))
  have t0 : a1.tmps.getD 0 undef = hd := st1.sz.2 rfl
  have t1 : a1.tmps.getD 1 undef = .int .i64 k := (asI_inv (st1.ent 1) rfl).1
  have t5 : a1.tmps.getD 5 undef = .int .i64 pre.length := (asI_inv (st1.ent 5) rfl).1
  have t9 : a1.eval (.tmp 9) = .bool (decide ((pre.length : Int) < Int.ofNat (pre ++ suf).length)) := by
    have : EntR g1 w1.heap 9 (boolE (decide ((pre.length : Int) < Int.ofNat (pre ++ suf).length))) (a1.tmps.getD 9 undef) := st1.ent 9
    obtain ⟨bs4, hl4, _⟩ := val1 this
    obtain ⟨⟨z, _⟩, _⟩ := hl4
    injection z
  have n1 := I.nst.of_St st1
  have at1 : AtV 19 _ a1 := st1.atV
  show Code.wp _ _ _ _ _
  cases suf with
  | nil =>
    have t9 : a1.eval (.tmp 9) = .bool false := by rw [t9]; congr 1; exact decide_eq_false (by simp)
    refine wp_cond (t := false) t9 (wp_exit ?_)
    obtain ⟨z, hz, hy⟩ := I.run
    simp only [foldM28, Option.some.injEq] at hz
    subst hz
    subst hy
    rw [List.append_nil] at n1
    exact hQ a1 w1 _ at1 t0 t1 I.wk (by show Nst w0 ba 24 (.slice 2 i64) hd (pre ++ []) w1; rw [List.append_nil]; exact n1) ⟨_, t5, wi⟩
  | cons x suf =>
    have t9 : a1.eval (.tmp 9) = .bool true := by rw [t9]; congr 1; exact decide_eq_true (by simp; omega)
    refine wp_cond (t := true) t9 (wp_skip ?_)
    show Code.wp _ _ _ _ _
    refine wp_seq (wp_block (wp_region ?_))
    rw [rg28]
    obtain ⟨b, o, cap, c, e', be, r1, r2, r3, r4, r5, r6, r7, r8, fin⟩ := n1.elem (by decide)
    obtain ⟨z, hz, hy⟩ := I.run
    simp only [foldM28] at hz
    split at hz
    · rename_i yx hyx
      split at hz
      · rename_i zr hzr
        injection hz with hz; subst hz
        have one : (Ty.slice 2 i64).size = 1 := rfl
        rw [one, Nat.mul_one] at r3 r4
        obtain ⟨v, blkv, bsv, v1, v2, v3⟩ := r4
        have hcv : c[o + pre.length]? = some v := by
          have : ((c.toList.drop (o + pre.length)).take 1)[0]? = some v := by rw [v1]; rfl
          rw [List.getElem?_take_of_lt (by omega), List.getElem?_drop, Array.getElem?_toList] at this
          simpa using this
        obtain ⟨oa, a1a, a1b, a1c, a1d⟩ := q28_0
        obtain ⟨ob, b1a, b1b, b1c, b1d⟩ := q28_1
        obtain ⟨oc, c1a, c1b, c1c, c1d⟩ := q28_2
        obtain ⟨od, d1a, d1b, d1c, d1d⟩ := q28_3
        obtain ⟨oe, e1a, e1b, e1c, e1d⟩ := q28_4
        obtain ⟨of, cf, zf, f1a, f1b, f1e, f1f, f1g, f1c, f1d⟩ := q28_5
        obtain ⟨og, g1a, g1b, g1c, g1d⟩ := q28_6
        refine wpOps_cons a1a a1d (upon_val (v := hd) (w' := w1) (by simp only [execOp, a1b, show a1.eval (.tmp 0) = hd from t0, Sem.run_pure]) ?_)
        rw [a1c]
        have p1 := at1.put (d := 12) (by omega) hd
        generalize a1.put (some 12) hd = a2 at p1 ⊢
        refine wpOps_cons b1a b1d (upon_val (v := .int .i64 pre.length) (w' := w1) (by simp only [execOp, b1b, show a2.eval (.tmp 5) = .int .i64 pre.length from p1.ev.trans t5, Sem.run_pure]) ?_)
        rw [b1c]
        have p2 := p1.put (d := 13) (by omega) (.int .i64 pre.length)
        generalize a2.put (some 13) (.int .i64 pre.length) = a3 at p2 ⊢
        have k34 := tt_ok 34 rows (by kernel_rfl)
        have k24 := tt_ok 24 (.slice 2 i64) (by kernel_rfl)
        have ri := run_indexS (P := Try.prog) tt_ok k34 (w := w1) (b := b) (o := o) (m := (pre ++ x :: suf).length) (cap := cap) (kk := .i64) (i := pre.length) (by simp)
        rw [one, Nat.mul_one, ← r1] at ri
        refine wpOps_cons c1a c1d (upon_val (v := .pointer (some ⟨b, o + pre.length, none⟩)) (w' := w1) (by
          simp only [execOp, c1b, show a3.eval (.tmp 12) = hd from p2.ev, show a3.eval (.tmp 13) = .int .i64 pre.length from p2.ev, Sem.run_bind, ri, Result.andThen_ok, Sem.run_pure]) ?_)
        rw [c1c]
        have p3 := p2.put (d := 14) (by omega) (.pointer (some ⟨b, o + pre.length, none⟩))
        generalize a3.put (some 14) (.pointer (some ⟨b, o + pre.length, none⟩)) = a4 at p3 ⊢
        have rl := run_loadS (P := Try.prog) k24 (w := w1) (b := b) (o := o + pre.length) r2 hcv
        refine wpOps_cons d1a d1d (upon_val (v := v) (w' := w1) (by
          simp only [execOp, d1b, show a4.eval (.tmp 14) = .pointer (some ⟨b, o + pre.length, none⟩) from p3.ev, Sem.run_bind, rl, Result.andThen_ok, Sem.run_pure]) ?_)
        rw [d1c]
        have p4 := p3.put (d := 15) (by omega) v
        generalize a4.put (some 15) v = a5 at p4 ⊢
        refine wpOps_cons e1a e1d (upon_val (v := .int .i64 k) (w' := w1) (by simp only [execOp, e1b, show a5.eval (.tmp 1) = .int .i64 k from p4.ev.trans t1, Sem.run_pure]) ?_)
        rw [e1c]
        have p5 := p4.put (d := 16) (by omega) (.int .i64 k)
        generalize a5.put (some 16) (.int .i64 k) = a6 at p5 ⊢
        obtain ⟨fn, h1, h2, h3⟩ := k19.fn
        refine wpOps_cons f1a f1d ?_
        unfold Oper.wp
        rw [run_enter2 f1b f1e (isF_ev f1f a6) f1g h1 h2 h3]
        simp only [Oper.upon]
        have e15 : a6.eval (.tmp 15) = v := p5.ev
        have e16 : a6.eval (.tmp 16) = .int .i64 k := p5.ev
        rw [e15, e16]
        have hcvv : v.cells = #[v] := by
          rcases v2 with ⟨p, q, _⟩ | ⟨_, _, _, _, _, q, _⟩ <;> rw [q] <;> rfl
        have hone : OneV w1.heap (.slice 2 i64) x v be := ⟨⟨v, blkv, bsv, by rw [hcvv], v2, v3⟩, fun q => (by cases q), fun _ => hcvv⟩
        have hav : ArgsV w1.heap [.v (.slice 2 i64), .v i64] (x, k, ()) [v, .int .i64 k] be :=
          ⟨_, _, be, [], rfl, by simp, hone, _, _, [], [], rfl, rfl, one_int I.wk, rfl, rfl⟩
        have call := k19.inp rfl (x, k, ()) yx hyx w1 _ be hav r5 (fun b hb => n1.wr b (r6 b hb))
        refine call.mono ?_
        rintro ee w2 ⟨v0', rv, bf, z1, rfl, z2, ⟨zn, zs⟩, z3, z4, z5, z6, z7, z8⟩
        simp only [List.head?_cons, Option.some.injEq] at z1
        subst z1
        obtain ⟨u1, ur, ub1, ub2, y1, y2, _, y3, y4⟩ := z2
        simp only [List.cons.injEq] at y1
        obtain ⟨y1a, y1b⟩ := y1
        subst y1a; subst y1b
        obtain ⟨u2, ur2, ub3, ub4, y5, y6, _, y7, y8⟩ := y3
        obtain ⟨y7a, y7b⟩ := y7
        subst y7a; subst y5; subst y7b; subst y8; subst y4
        have hk2 : u2 = .int .i64 yx.2.1 ∧ (Lit.int .i64 yx.2.1).wf = true ∧ ub3 = [] := by
          obtain ⟨⟨c1, c2, c3⟩, _, c4⟩ := y6
          rw [c4 rfl] at c1
          exact ⟨by simpa using c1, c2, c3⟩
        obtain ⟨hk2, wk2, hb3⟩ := hk2
        subst hk2; subst hb3
        simp only [List.append_nil] at zn zs
        show wpOps _ _ _ _ _ _
        rw [f1c]
        show wpOps _ _ _ _ (a6.put (some 17) (.int .i64 yx.2.1)) _
        have p6 := p5.put (d := 17) (by omega) (.int .i64 yx.2.1)
        generalize a6.put (some 17) (.int .i64 yx.2.1) = a7 at p6 ⊢
        refine wpOps_cons g1a g1d (upon_val (v := .int .i64 yx.2.1) (w' := w2) (by simp only [execOp, g1b, show a7.eval (.tmp 17) = .int .i64 yx.2.1 from p6.ev, Sem.run_pure]) ?_)
        rw [g1c]
        have p7 := p6.put (d := 1) (by omega) (.int .i64 yx.2.1)
        generalize a7.put (some 1) (.int .i64 yx.2.1) = a8 at p7 ⊢
        -- the slice as it is now
        have hb2 : w2.heap[b]? = some (.cells c e' (0, 0)) := by
          rw [z7 b (Nat.lt_of_lt_of_le (n1.lt b r8) n1.size) r7]; exact r2
        have n2 : Nst w0 ba 24 (.slice 2 i64) hd (pre ++ yx.1 :: suf) w2 := by
          refine fin w2 yx.1 c ub1 hb2 rfl (fun _ _ => rfl) ?_ zn zs z3 z4 z5 z6 (fun z hz hn _ => z7 z hz hn) z8
          rw [one, Nat.mul_one, v1]
          obtain ⟨⟨hd3, blk3, bs3, w1', w2', w3'⟩, _, _⟩ := y2
          rw [hcvv] at w1'
          exact ⟨hd3, blk3, bs3, w1', w2', w3'⟩
        show Code.wp _ _ _ _ _
        have st2 := rawSt p7 (show _ = hd from t0) (show _ = Value.int .i64 yx.2.1 from rfl) (show _ = Value.int .i64 (pre.length : Int) from t5) wk2 wi n2
        refine ev_wp (A := fun b => b ∈ ba) (ks := [0, 1, 5]) mixed tt_ok KOK.nil (fun b hb => (by cases hb)) (oc28 3 (by simp) hd) trivial (e28d (pre ++ yx.1 :: suf) yx.2.1 pre.length) st2 rfl fun a9 w9 g9 st9 A9 => ?_
        have s0 : a9.tmps.getD 0 undef = hd := st9.sz.2 rfl
        have s1 : a9.tmps.getD 1 undef = .int .i64 yx.2.1 := (asI_inv (st9.ent 1) rfl).1
        have s5 : a9.tmps.getD 5 undef = .int .i64 (IntKind.i64.wrap (pre.length + 1)) := (asI_inv (st9.ent 5) rfl).1
        have hwr : IntKind.i64.wrap ((pre.length : Int) + 1) = ((pre.length + 1 : Nat) : Int) := by
          simp only [List.length_cons] at hl
          simp [IntKind.wrap, IntKind.bits, IntKind.signed]; split <;> omega
        rw [hwr] at s5
        have n9 := n2.of_St st9
        simp only [List.length_cons] at hl
        refine ⟨⟨pre ++ [yx.1], suf, yx.2.1, _, st9.atV, s0, s1, ?_, wk2, ?_, ?_, zr, hzr, ?_⟩, ?_⟩
        · show a9.tmps.getD 5 undef = _
          rw [s5]; simp
        · rw [List.append_assoc]; exact n9
        · simp; omega
        · rw [← hy]; simp
        · have : mu28 N a = N - pre.length := by
            unfold mu28
            rw [I.at_.at_, I.f5]; simp only; omega
          have m9 : mu28 N a9 = N - (pre.length + 1) := by unfold mu28; rw [s5]; simp only; omega
          rw [this, m9]; omega
      · cases hz
    · cases hz
theorem one28 {cf : G28h} (k19 : KOne Try.prog 19 ⟨[.v (.slice 2 i64), .v i64], [.slice 2 i64, i64], false, false, 1, g⟩)
    (h : ∀ x y, cf x = some y → (show List (List Int) from x.1).length ≤ 10000000000 ∧ ∃ z, foldM28 g x.1 x.2.1 = some z ∧ y = (z.1, z.2, ())) : KOne Try.prog 28 ⟨[.v rows, .v i64], [rows, i64], false, false, 1, cf⟩ := by
  refine ⟨fun q => (by cases q), fun _ => ?_, fun q => (by cases q), Try.f28, Try.func28, by decide, rfl⟩
  intro x y hxy w vs ba hv hnd hw
  obtain ⟨L, k, _⟩ := x
  obtain ⟨hN, z, hz, rfl⟩ := h _ _ hxy
  replace hN : List.length (show List (List Int) from L) ≤ 10000000000 := hN
  have hv0 := hv
  obtain ⟨v0, r1, b1, b2, rfl, rfl, o1, v1, r2, b3, b4, rfl, rfl, o2, rfl, rfl⟩ := hv
  have hv1 : v1 = .int .i64 k ∧ (Lit.int .i64 k).wf = true ∧ b3 = [] := by
    obtain ⟨⟨c1, c2, c3⟩, _, c4⟩ := o2
    rw [c4 rfl] at c1
    exact ⟨by simpa using c1, c2, c3⟩
  obtain ⟨rfl, wk, rfl⟩ := hv1
  simp only [List.append_nil] at hnd hw hv0 ⊢
  obtain ⟨⟨hd, blk, bs, z1, z2, z3⟩, _, z4⟩ := o1
  have hc := z4 rfl
  have eh : hd = v0 := by rw [hc] at z1; injection z1 with z1 _; exact z1.symm
  subst eh
  have lt : ∀ b ∈ b1, b < w.heap.size := fun b hb => by
    obtain ⟨c, e, q⟩ := hw b hb
    rcases Nat.lt_or_ge b w.heap.size with q' | q'
    · exact q'
    · rw [Array.getElem?_eq_none q'] at q; cases q
  have n0 : Nst w b1 24 (.slice 2 i64) hd L w := ⟨⟨blk, bs, z2, by rw [← z3]; exact hnd, by rw [← z3]; exact fun z hz => hz⟩, rfl, Tp.refl, rfl, Nat.le_refl _, fun _ _ _ => rfl, hw, lt⟩
  have st0 := init_St (n := Try.f28.ntmps) hv0 (by rw [nt28]; decide)
  refine calls_of_wp Try.func28 sk28 ?_
  have stk : St ⟨19, true, hd⟩ w (fun _ => False) (gh0 w [hd, .int .i64 k] b1) (initEnv 0 [.v rows, .v i64] (L, k, ())).get { tmps := [hd, .int .i64 k].toArray ++ Array.replicate (Try.f28.ntmps - [hd, .int .i64 k].toArray.size) undef, defers := [] } w :=
    ⟨st0.inv, st0.ent, ⟨st0.sz.1.trans nt28, fun _ => by rw [Array.getD_eq_getD_getElem?, Array.getElem?_append_left (by simp)]; rfl⟩, st0.df, st0.os, st0.tape, st0.output⟩
  refine wp_seq (ev_wp (A := fun b => b ∈ b1) (ks := [0, 1]) mixed tt_ok KOK.nil (fun b hb => (by cases hb)) (oc28 0 (by simp) hd) trivial (e28a L k) stk rfl fun a1 w1 g1 st1 A1 => ?_)
  show Code.wp _ _ _ _ _
  refine wp_seq (wp_seq (ev_wp (A := fun b => b ∈ b1) (ks := [0, 1, 5]) mixed tt_ok KOK.nil (fun b hb => (by cases hb)) (oc28 1 (by simp) hd) trivial (e28b L k) st1 A1 fun a2 w2 g2 st2 A2 => ?_))
  show Code.wp _ _ _ _ _
  have n2 := n0.of_St st2
  have at2 : AtV 19 _ a2 := st2.atV
  have t0 : a2.tmps.getD 0 undef = hd := st2.sz.2 rfl
  have t1 : a2.tmps.getD 1 undef = .int .i64 k := (asI_inv (st2.ent 1) rfl).1
  have t5 : a2.tmps.getD 5 undef = .int .i64 0 := (asI_inv (st2.ent 5) rfl).1
  refine wp_block (wp_loop (fun a' w' => ∃ pre suf k f, I28 w b1 hd g (List.length (show List (List Int) from L)) z a' w' pre suf k f) (fun a' _ => mu28 (List.length (show List (List Int) from L)) a') ⟨[], L, k, _, at2, t0, t1, t5, wk, n2, rfl, z, hz, rfl⟩ fun a3 w3 hI => ?_)
  obtain ⟨pre, suf, k3, f3, I⟩ := hI
  refine round28 k19 hN I fun a4 w4 f4 at4 s0 s1 wk4 n4 s5 => ?_
  obtain ⟨i, s5, wi⟩ := s5
  show Code.wp _ _ _ _ _
  have st4 := rawSt at4 s0 s1 s5 wk4 wi n4
  refine wp_seq (ev_wp (A := fun b => b ∈ b1) (ks := [0, 1, 4]) mixed tt_ok KOK.nil (fun b hb => (by cases hb)) (oc28 5 (by simp) hd) trivial (e28e z.1 z.2 i) st4 rfl fun a5 w5 g5 st5 A5 => ?_)
  show Code.wp _ _ _ _ _
  have n5 := n4.of_St st5
  have u4 : a5.tmps.getD 4 undef = .int .i64 z.2 := (asI_inv (st5.ent 4) rfl).1
  refine wp_ret ?_
  have hres : (Try.f28.results.toList.mapM (resOne a5.tmps)).run Try.prog w5 = .ok [.int .i64 z.2] w5 := by rw [rs28, ← u4]; rfl
  refine ⟨st5.df, _, results_run hres, ?_⟩
  obtain ⟨blk5, bs5, y1, y2, y3⟩ := n5.rd
  exact ⟨hd, [.int .i64 z.2], blk5.toList ++ bs5, rfl, rfl, ⟨hd, _, _, [], rfl, ⟨⟨hd, blk5, bs5, by rw [hc], y1, rfl⟩, fun q => (by cases q), fun _ => hc⟩, fun q => (by cases q), ⟨_, [], [], [], rfl, one_int wk4, fun q => (by cases q), ⟨rfl, rfl⟩, rfl⟩, by simp⟩,
    ⟨y2, y3⟩, n5.os, n5.tp, n5.out, n5.size, n5.old, n5.wr⟩
end
abbrev polys : Ty := .slice 58 poly
abbrev R27h : Type := Ress [polys, i64]
abbrev G27h : Type := Args [.v polys, .v i64] → Option R27h
abbrev G70h : Type := Args [.v (.slice 135 term), .v i64] → Option (Ress [.slice 135 term, i64])
noncomputable def o27 (i : Nat) : Array Oper := match opsIn i (bodyOf Try.f27) with | some x => x | none => #[]
noncomputable def in27 : Code := .seq (.region 4 (o27 4) false) (.seq (.region 5 (o27 5) false) (.seq (.region 6 (o27 6) false) (.seq (.region 7 (o27 7) false) (.region 8 (o27 8) false))))
noncomputable def loop27 : Code := .seq (.seq (.region 2 (o27 2) false) (.cond (.tmp 9) .skip (.exit 0))) (.seq (.block 1 in27) (.region 3 (o27 3) false))
theorem sk27 : Try.f27.body = some (.seq (.region 0 (o27 0) false) (.seq (.seq (.region 1 (o27 1) false) (.block 0 (.loop loop27))) (.seq (.region 9 (o27 9) false) .ret))) := by kernel_rfl
theorem nt27 : Try.f27.ntmps = 34 := by kernel_rfl
theorem rs27 : Try.f27.results.toList = [.tmp 4] := by kernel_rfl
def wr1 (k : Int) : Int := IntKind.i64.wrap (k + 1)
def E27 (L : polys.den) (k : Int) (i : Int) : Env := [(0, .val false [.fz polys 0 true L]), (1, intE .i64 k), (5, intE .i64 i)]
theorem e27a (L : polys.den) (k : Int) : evL TT [] [] [] (.region 0 (o27 0) false) (initEnv 0 [.v polys, .v i64] (L, k, ())) (fun e => some (keepK [0, 1] e)) (fun _ _ => none) (fun _ => none) =
    some [(0, .val false [.fz polys 0 true L]), (1, intE .i64 k)] := by kernel_rfl
theorem e27b (L : polys.den) (k : Int) : evL TT [] [] [] (.region 1 (o27 1) false) [(0, .val false [.fz polys 0 true L]), (1, intE .i64 k)] (fun e => some (keepK [0, 1, 5] e)) (fun _ _ => none) (fun _ => none) =
    some (E27 L k 0) := by kernel_rfl
theorem e27c (L : polys.den) (k i : Int) : evL TT [] [] [] (.region 2 (o27 2) false) (E27 L k i) (fun e => some (keepK [0, 1, 5, 9] e)) (fun _ _ => none) (fun _ => none) =
    bif decide (L.length ≤ 9223372036854775807) then some (E27 L k i ++ [(9, boolE (decide (i < Int.ofNat L.length)))]) else none := by kernel_rfl
theorem e27d (L : polys.den) (k i : Int) : evL TT [] [] [] (.region 3 (o27 3) false) (E27 L k i) (fun e => some (keepK [0, 1, 5] e)) (fun _ _ => none) (fun _ => none) =
    some (E27 L k (IntKind.i64.wrap (i + 1))) := by kernel_rfl
theorem e27f (L : polys.den) (k i : Int) : evL TT [] [] [] (.region 5 (o27 5) false) (E27 L k i) (fun e => some (keepK [0, 1, 5] e)) (fun _ _ => none) (fun _ => none) =
    some (E27 L (wr1 k) i) := by kernel_rfl
theorem e27g (L : polys.den) (k i : Int) : evL TT [] [] [] (.region 7 (o27 7) false) (E27 L k i) (fun e => some (keepK [0, 1, 5] e)) (fun _ _ => none) (fun _ => none) =
    some (E27 L (wr1 k) i) := by kernel_rfl
theorem e27e (L : polys.den) (k i : Int) : evL TT [] [] [] (.region 9 (o27 9) false) (E27 L k i) (fun e => some (keepK [0, 1, 4] e)) (fun _ _ => none) (fun _ => none) =
    some [(0, .val false [.fz polys 0 true L]), (1, intE .i64 k), (4, intE .i64 k)] := by kernel_rfl
theorem oc27 (i : Nat) (hi : i = 0 ∨ i = 1 ∨ i = 2 ∨ i = 3 ∨ i = 5 ∨ i = 7 ∨ i = 9) (v0 : Value) : okCode ⟨34, true, v0⟩ (.region i (o27 i) false) = true := by
  rcases hi with rfl | rfl | rfl | rfl | rfl | rfl | rfl <;> kernel_rfl
theorem rg27_4 : List.range (o27 4).size = [0, 1, 2, 3, 4, 5] := by kernel_rfl
theorem q27_4_0 : ∃ o, (o27 4)[0]? = some o ∧ o.op = .move (.tmp 0) ∧ o.dst = some 12 ∧ o.guard = none := ⟨((o27 4)[0]?).get (by kernel_rfl), (Option.some_get _).symm, by kernel_rfl, by kernel_rfl, by kernel_rfl⟩
theorem q27_4_1 : ∃ o, (o27 4)[1]? = some o ∧ o.op = .move (.tmp 5) ∧ o.dst = some 13 ∧ o.guard = none := ⟨((o27 4)[1]?).get (by kernel_rfl), (Option.some_get _).symm, by kernel_rfl, by kernel_rfl, by kernel_rfl⟩
theorem q27_4_2 : ∃ o, (o27 4)[2]? = some o ∧ o.op = .move (.tmp 1) ∧ o.dst = some 14 ∧ o.guard = none := ⟨((o27 4)[2]?).get (by kernel_rfl), (Option.some_get _).symm, by kernel_rfl, by kernel_rfl, by kernel_rfl⟩
theorem q27_4_3 : ∃ o, (o27 4)[3]? = some o ∧ o.op = .indexAddr 37 (.tmp 12) (.tmp 13) ∧ o.dst = some 15 ∧ o.guard = none := ⟨((o27 4)[3]?).get (by kernel_rfl), (Option.some_get _).symm, by kernel_rfl, by kernel_rfl, by kernel_rfl⟩
theorem q27_4_4 : ∃ o, (o27 4)[4]? = some o ∧ o.op = .fieldAddr 58 (.tmp 15) 0 ∧ o.dst = some 16 ∧ o.guard = none := ⟨((o27 4)[4]?).get (by kernel_rfl), (Option.some_get _).symm, by kernel_rfl, by kernel_rfl, by kernel_rfl⟩
theorem q27_4_5 : ∃ o, (o27 4)[5]? = some o ∧ o.op = .store 2 (.tmp 16) (.tmp 14) ∧ o.dst = none ∧ o.guard = none := ⟨((o27 4)[5]?).get (by kernel_rfl), (Option.some_get _).symm, by kernel_rfl, by kernel_rfl, by kernel_rfl⟩
theorem rg27_6 : List.range (o27 6).size = [0, 1, 2, 3, 4, 5] := by kernel_rfl
theorem q27_6_0 : ∃ o, (o27 6)[0]? = some o ∧ o.op = .move (.tmp 0) ∧ o.dst = some 19 ∧ o.guard = none := ⟨((o27 6)[0]?).get (by kernel_rfl), (Option.some_get _).symm, by kernel_rfl, by kernel_rfl, by kernel_rfl⟩
theorem q27_6_1 : ∃ o, (o27 6)[1]? = some o ∧ o.op = .move (.tmp 5) ∧ o.dst = some 20 ∧ o.guard = none := ⟨((o27 6)[1]?).get (by kernel_rfl), (Option.some_get _).symm, by kernel_rfl, by kernel_rfl, by kernel_rfl⟩
theorem q27_6_2 : ∃ o, (o27 6)[2]? = some o ∧ o.op = .move (.tmp 1) ∧ o.dst = some 21 ∧ o.guard = none := ⟨((o27 6)[2]?).get (by kernel_rfl), (Option.some_get _).symm, by kernel_rfl, by kernel_rfl, by kernel_rfl⟩
theorem q27_6_3 : ∃ o, (o27 6)[3]? = some o ∧ o.op = .indexAddr 37 (.tmp 19) (.tmp 20) ∧ o.dst = some 22 ∧ o.guard = none := ⟨((o27 6)[3]?).get (by kernel_rfl), (Option.some_get _).symm, by kernel_rfl, by kernel_rfl, by kernel_rfl⟩
theorem q27_6_4 : ∃ o, (o27 6)[4]? = some o ∧ o.op = .fieldAddr 58 (.tmp 22) 1 ∧ o.dst = some 23 ∧ o.guard = none := ⟨((o27 6)[4]?).get (by kernel_rfl), (Option.some_get _).symm, by kernel_rfl, by kernel_rfl, by kernel_rfl⟩
theorem q27_6_5 : ∃ o, (o27 6)[5]? = some o ∧ o.op = .store 2 (.tmp 23) (.tmp 21) ∧ o.dst = none ∧ o.guard = none := ⟨((o27 6)[5]?).get (by kernel_rfl), (Option.some_get _).symm, by kernel_rfl, by kernel_rfl, by kernel_rfl⟩
theorem rg27_8 : List.range (o27 8).size = [0, 1, 2, 3, 4, 5, 6, 7] := by kernel_rfl
theorem q27_8_0 : ∃ o, (o27 8)[0]? = some o ∧ o.op = .move (.tmp 0) ∧ o.dst = some 26 ∧ o.guard = none := ⟨((o27 8)[0]?).get (by kernel_rfl), (Option.some_get _).symm, by kernel_rfl, by kernel_rfl, by kernel_rfl⟩
theorem q27_8_1 : ∃ o, (o27 8)[1]? = some o ∧ o.op = .move (.tmp 5) ∧ o.dst = some 27 ∧ o.guard = none := ⟨((o27 8)[1]?).get (by kernel_rfl), (Option.some_get _).symm, by kernel_rfl, by kernel_rfl, by kernel_rfl⟩
theorem q27_8_2 : ∃ o, (o27 8)[2]? = some o ∧ o.op = .indexAddr 37 (.tmp 26) (.tmp 27) ∧ o.dst = some 28 ∧ o.guard = none := ⟨((o27 8)[2]?).get (by kernel_rfl), (Option.some_get _).symm, by kernel_rfl, by kernel_rfl, by kernel_rfl⟩
theorem q27_8_3 : ∃ o, (o27 8)[3]? = some o ∧ o.op = .fieldAddr 58 (.tmp 28) 2 ∧ o.dst = some 29 ∧ o.guard = none := ⟨((o27 8)[3]?).get (by kernel_rfl), (Option.some_get _).symm, by kernel_rfl, by kernel_rfl, by kernel_rfl⟩
theorem q27_8_4 : ∃ o, (o27 8)[4]? = some o ∧ o.op = .load 56 (.tmp 29) ∧ o.dst = some 30 ∧ o.guard = none := ⟨((o27 8)[4]?).get (by kernel_rfl), (Option.some_get _).symm, by kernel_rfl, by kernel_rfl, by kernel_rfl⟩
theorem q27_8_5 : ∃ o, (o27 8)[5]? = some o ∧ o.op = .move (.tmp 1) ∧ o.dst = some 31 ∧ o.guard = none := ⟨((o27 8)[5]?).get (by kernel_rfl), (Option.some_get _).symm, by kernel_rfl, by kernel_rfl, by kernel_rfl⟩
theorem q27_8_7 : ∃ o, (o27 8)[7]? = some o ∧ o.op = .assign (.tmp 32) ∧ o.dst = some 1 ∧ o.guard = none := ⟨((o27 8)[7]?).get (by kernel_rfl), (Option.some_get _).symm, by kernel_rfl, by kernel_rfl, by kernel_rfl⟩
noncomputable def o27_6 : Oper := ((o27 8)[6]?).get (by kernel_rfl)
noncomputable def c27_6 : Call := (callOf o27_6).get (by kernel_rfl)
noncomputable def z27_6 : Operand := (valOf c27_6.callee).get (by kernel_rfl)
theorem q27_8_6 : ∃ o c z, (o27 8)[6]? = some o ∧ o.op = .call c ∧ c.callee = .value z ∧ isF 70 z = true ∧ c.args.toList = [.tmp 30, .tmp 31] ∧ o.dst = some 32 ∧ o.guard = none :=
  ⟨o27_6, c27_6, z27_6, (Option.some_get _).symm, by kernel_rfl, by kernel_rfl, by kernel_rfl, by kernel_rfl, by kernel_rfl, by kernel_rfl⟩
theorem rdPoly {h : Mem} {x : poly.den} {cs : List Value} {be : List Nat} : Rd h poly x cs be ↔ ∃ hdT, cs = [.int .i64 x.1, .int .i64 x.2.1, hdT] ∧ (Lit.int .i64 x.1).wf = true ∧ (Lit.int .i64 x.2.1).wf = true ∧ Rd h (.slice 135 term) x.2.2.1 [hdT] be := by
  constructor
  · intro hr
    have hl : cs.length = 3 := hr.length
    match cs, hl, hr with
    | [a, b, c], _, hr =>
      obtain ⟨b1, b2, ⟨p1, p2, p3⟩, ⟨b3, b4, ⟨q1, q2, q3⟩, ⟨b5, b6, r1, ⟨r2, r3⟩, r4⟩, q4⟩, p4⟩ := hr
      subst p3; subst q3; subst r3; subst r4; subst q4; subst p4
      have p1 : [a] = [Value.int .i64 x.1] := p1
      have q1 : [b] = [Value.int .i64 x.2.1] := q1
      injection p1 with p1 _
      injection q1 with q1 _
      refine ⟨c, by rw [p1, q1], p2, q2, ?_⟩
      simp only [List.nil_append, List.append_nil]
      exact r1
  · rintro ⟨c, rfl, h1, h2, h3⟩
    exact ⟨[], be, ⟨rfl, h1, rfl⟩, ⟨[], be, ⟨rfl, h2, rfl⟩, ⟨be, [], h3, ⟨rfl, rfl⟩, by simp⟩, rfl⟩, rfl⟩
def setF (j : Nat) (x : poly.den) (k : Int) : poly.den := if j = 0 then (k, x.2) else (x.1, k, x.2.2)
section
variable {w0 : World} {ba : List Nat} {hd : Value} {g : G70h} {N : Nat} {y : List poly.den × Int}
theorem Nst.wrInt {w : World} {pre suf : List poly.den} {x : poly.den} {k : Int} {j : Nat} (hj : j = 0 ∨ j = 1) (h : Nst w0 ba 58 poly hd (pre ++ x :: suf) w) (wk : (Lit.int .i64 k).wf = true) :
    ∃ b o cap c e', hd = .slice (some ⟨b, o, none⟩) (pre ++ x :: suf).length cap ∧ w.heap[b]? = some (.cells c e' (0, 0)) ∧ o + pre.length * 3 + 3 ≤ c.size ∧
      Nst w0 ba 58 poly hd (pre ++ setF j x k :: suf) (w.setRow b (splice c.toList (o + pre.length * 3 + j) [.int .i64 k]).toArray) := by
  obtain ⟨b, o, cap, c, e', be, r1, r2, r3, r4, r5, r6, r7, r8, fin⟩ := h.elem (by decide)
  have three : (poly).size = 3 := rfl
  rw [three] at r3 r4
  refine ⟨b, o, cap, c, e', r1, r2, r3, ?_⟩
  have hin : o + pre.length * 3 + j + [Value.int .i64 k].length ≤ c.toList.length := by simp; omega
  have hsl := splice_length c.toList (o + pre.length * 3 + j) [.int .i64 k] hin
  have hsg := splice_get c.toList (o + pre.length * 3 + j) [.int .i64 k] hin
  have hb' := setRow_heap w b c (splice c.toList (o + pre.length * 3 + j) [.int .i64 k]).toArray e' (0, 0) r2
  have hoth : ∀ z, z ≠ b → (w.setRow b (splice c.toList (o + pre.length * 3 + j) [.int .i64 k]).toArray).heap[z]? = w.heap[z]? := fun z hz => setRow_other w b z _ hz
  have ltb : ∀ z ∈ be, z ≠ b := fun z hz q => r7 (q ▸ hz)
  refine fin _ (setF j x k) _ be hb' (by simpa using hsl) (fun i hi => ?_) ?_ r5 (fun z hz => hz) rfl ⟨rfl, Nat.le_refl _⟩ rfl (by simp [World.setRow]) (fun z _ _ hz => hoth z hz) (fun z hz => by rw [hoth z (ltb z hz)]; exact h.wr z (r6 z hz))
  · rw [three] at hi
    rw [List.getElem?_toArray, hsg, if_neg (by simp; omega), Array.getElem?_toList]
  · rw [three]
    obtain ⟨hdT, c1, c2, c3, c4⟩ := rdPoly.1 r4
    have at_ : ∀ i, i < 3 → c[o + pre.length * 3 + i]? = ([Value.int .i64 x.1, Value.int .i64 x.2.1, hdT] : List Value)[i]? := fun i hi => by
      rw [← c1, List.getElem?_take_of_lt hi, List.getElem?_drop, Array.getElem?_toList]
    have c4' : Rd (w.setRow b (splice c.toList (o + pre.length * 3 + j) [.int .i64 k]).toArray).heap (.slice 135 term) x.2.2.1 [hdT] be := c4.frame fun z hz => hoth z (ltb z hz)
    have cells : ((splice c.toList (o + pre.length * 3 + j) [.int .i64 k]).toArray.toList.drop (o + pre.length * 3)).take 3 = [.int .i64 (setF j x k).1, .int .i64 (setF j x k).2.1, hdT] := by
      apply List.ext_getElem?
      intro i
      by_cases hi : i < 3
      · rw [List.getElem?_take_of_lt hi, List.getElem?_drop, List.toList_toArray, hsg]
        have a0 := at_ i hi
        rw [← Array.getElem?_toList] at a0
        rcases hj with rfl | rfl
        · match i, hi with
          | 0, _ => rw [if_pos (by simp only [List.length_singleton]; omega)]; simp [setF]
          | 1, _ => rw [if_neg (by simp only [List.length_singleton]; omega), a0]; simp [setF]
          | 2, _ => rw [if_neg (by simp only [List.length_singleton]; omega), a0]; simp [setF]
        · match i, hi with
          | 0, _ => rw [if_neg (by simp only [List.length_singleton]; omega), a0]; simp [setF]
          | 1, _ => rw [if_pos (by simp only [List.length_singleton]; omega)]; simp [setF]
          | 2, _ => rw [if_neg (by simp only [List.length_singleton]; omega), a0]; simp [setF]
      · rw [List.getElem?_eq_none (by simp; omega), List.getElem?_eq_none (by simp; omega)]
    refine rdPoly.2 ⟨hdT, cells, ?_, ?_, ?_⟩
    · rcases hj with rfl | rfl
      · exact wk
      · exact c2
    · rcases hj with rfl | rfl
      · exact c3
      · exact wk
    · rcases hj with rfl | rfl <;> exact c4'
theorem run_storeI {w : World} {b o : Nat} {c : Array Value} {e : TypeId} {k : Int} (hb : w.heap[b]? = some (.cells c e (0, 0))) (ho : o < c.size) :
    (Instr.storeAt 2 (.pointer (some ⟨b, o, none⟩)) (.int .i64 k)).run Try.prog w = .ok () (w.setRow b (splice c.toList o [.int .i64 k]).toArray) :=
  run_storeVar (tt_ok 2 i64 (by kernel_rfl)) hb rfl (fun u hu => by simp [Value.cells] at hu; subst hu; rfl) ho
theorem reg27_4 {a : Act} {w : World} {pre suf : List poly.den} {x : poly.den} {k : Int} {f : Nat → Value} {Q : Exit → Act → World → Prop} (hA : AtV 34 f a) (f0 : f 0 = hd) (f1 : f 1 = .int .i64 k) (f5 : f 5 = .int .i64 pre.length) (wk : (Lit.int .i64 k).wf = true)
    (h : Nst w0 ba 58 poly hd (pre ++ x :: suf) w) (hQ : ∀ a' w' f', AtV 34 f' a' → f' 0 = hd → f' 1 = .int .i64 k → f' 5 = .int .i64 pre.length → Nst w0 ba 58 poly hd (pre ++ setF 0 x k :: suf) w' → Q .normal a' w') : (Code.region 4 (o27 4) false).wp Try.prog Q a w := by
  obtain ⟨b, o, cap, c, e', r1, r2, r3, n2⟩ := h.wrInt (j := 0) (by simp) wk
  refine wp_region ?_
  rw [rg27_4]
  obtain ⟨o0, o0a, o0b, o0c, o0d⟩ := q27_4_0
  obtain ⟨o1, o1a, o1b, o1c, o1d⟩ := q27_4_1
  obtain ⟨o2, o2a, o2b, o2c, o2d⟩ := q27_4_2
  obtain ⟨o3, o3a, o3b, o3c, o3d⟩ := q27_4_3
  obtain ⟨o4, o4a, o4b, o4c, o4d⟩ := q27_4_4
  obtain ⟨o5, o5a, o5b, o5c, o5d⟩ := q27_4_5
  refine wpOps_cons o0a o0d (upon_val (v := hd) (w' := w) (by simp only [execOp, o0b, show a.eval (.tmp 0) = hd from hA.ev.trans f0, Sem.run_pure]) ?_)
  rw [o0c]
  have p1 := hA.put (d := 12) (by omega) hd
  generalize a.put (some 12) hd = a2 at p1 ⊢
  refine wpOps_cons o1a o1d (upon_val (v := .int .i64 pre.length) (w' := w) (by simp only [execOp, o1b, show a2.eval (.tmp 5) = .int .i64 pre.length from p1.ev.trans f5, Sem.run_pure]) ?_)
  rw [o1c]
  have p2 := p1.put (d := 13) (by omega) (.int .i64 pre.length)
  generalize a2.put (some 13) (.int .i64 pre.length) = a3 at p2 ⊢
  refine wpOps_cons o2a o2d (upon_val (v := .int .i64 k) (w' := w) (by simp only [execOp, o2b, show a3.eval (.tmp 1) = .int .i64 k from p2.ev.trans f1, Sem.run_pure]) ?_)
  rw [o2c]
  have p3 := p2.put (d := 14) (by omega) (.int .i64 k)
  generalize a3.put (some 14) (.int .i64 k) = a4 at p3 ⊢
  have ri := run_indexS (P := Try.prog) tt_ok (tt_ok 37 polys (by kernel_rfl)) (w := w) (b := b) (o := o) (m := (pre ++ x :: suf).length) (cap := cap) (kk := .i64) (i := pre.length) (by simp)
  rw [show (poly).size = 3 from rfl, ← r1] at ri
  refine wpOps_cons o3a o3d (upon_val (v := .pointer (some ⟨b, o + pre.length * 3, none⟩)) (w' := w) (by
    simp only [execOp, o3b, show a4.eval (.tmp 12) = hd from p3.ev, show a4.eval (.tmp 13) = .int .i64 pre.length from p3.ev, Sem.run_bind, ri, Result.andThen_ok, Sem.run_pure]) ?_)
  rw [o3c]
  have p4 := p3.put (d := 15) (by omega) (.pointer (some ⟨b, o + pre.length * 3, none⟩))
  generalize a4.put (some 15) (.pointer (some ⟨b, o + pre.length * 3, none⟩)) = a5 at p4 ⊢
  have rf := run_fieldAt (P := Try.prog) (w := w) (b := b) (o := o + pre.length * 3) (j := 0) (u := i64) tt_ok (tt_ok 58 poly (by kernel_rfl)) rfl rfl
  rw [show poff poly [.fld 0] = 0 from rfl] at rf
  refine wpOps_cons o4a o4d (upon_val (v := .pointer (some ⟨b, o + pre.length * 3 + 0, none⟩)) (w' := w) (by
    simp only [execOp, o4b, show a5.eval (.tmp 15) = .pointer (some ⟨b, o + pre.length * 3, none⟩) from p4.ev, Sem.run_bind, rf, Result.andThen_ok, Sem.run_pure]) ?_)
  rw [o4c]
  have p5 := p4.put (d := 16) (by omega) (.pointer (some ⟨b, o + pre.length * 3 + 0, none⟩))
  generalize a5.put (some 16) (.pointer (some ⟨b, o + pre.length * 3 + 0, none⟩)) = a6 at p5 ⊢
  have rs := run_storeI (w := w) (b := b) (o := o + pre.length * 3 + 0) (k := k) r2 (by omega)
  refine wpOps_cons o5a o5d (upon_skip (w' := w.setRow b (splice c.toList (o + pre.length * 3 + 0) [.int .i64 k]).toArray) (by
    simp only [execOp, o5b, show a6.eval (.tmp 16) = .pointer (some ⟨b, o + pre.length * 3 + 0, none⟩) from p5.ev, show a6.eval (.tmp 14) = .int .i64 k from p5.ev, Sem.run_bind, rs, Result.andThen_ok, Sem.run_pure]) ?_)
  rw [o5c]
  exact hQ a6 _ _ p5 (show _ = hd from f0) (show _ = Value.int .i64 k from f1) (show _ = Value.int .i64 (pre.length : Int) from f5) n2
theorem reg27_6 {a : Act} {w : World} {pre suf : List poly.den} {x : poly.den} {k : Int} {f : Nat → Value} {Q : Exit → Act → World → Prop} (hA : AtV 34 f a) (f0 : f 0 = hd) (f1 : f 1 = .int .i64 k) (f5 : f 5 = .int .i64 pre.length) (wk : (Lit.int .i64 k).wf = true)
    (h : Nst w0 ba 58 poly hd (pre ++ x :: suf) w) (hQ : ∀ a' w' f', AtV 34 f' a' → f' 0 = hd → f' 1 = .int .i64 k → f' 5 = .int .i64 pre.length → Nst w0 ba 58 poly hd (pre ++ setF 1 x k :: suf) w' → Q .normal a' w') : (Code.region 6 (o27 6) false).wp Try.prog Q a w := by
  obtain ⟨b, o, cap, c, e', r1, r2, r3, n2⟩ := h.wrInt (j := 1) (by simp) wk
  refine wp_region ?_
  rw [rg27_6]
  obtain ⟨o0, o0a, o0b, o0c, o0d⟩ := q27_6_0
  obtain ⟨o1, o1a, o1b, o1c, o1d⟩ := q27_6_1
  obtain ⟨o2, o2a, o2b, o2c, o2d⟩ := q27_6_2
  obtain ⟨o3, o3a, o3b, o3c, o3d⟩ := q27_6_3
  obtain ⟨o4, o4a, o4b, o4c, o4d⟩ := q27_6_4
  obtain ⟨o5, o5a, o5b, o5c, o5d⟩ := q27_6_5
  refine wpOps_cons o0a o0d (upon_val (v := hd) (w' := w) (by simp only [execOp, o0b, show a.eval (.tmp 0) = hd from hA.ev.trans f0, Sem.run_pure]) ?_)
  rw [o0c]
  have p1 := hA.put (d := 19) (by omega) hd
  generalize a.put (some 19) hd = a2 at p1 ⊢
  refine wpOps_cons o1a o1d (upon_val (v := .int .i64 pre.length) (w' := w) (by simp only [execOp, o1b, show a2.eval (.tmp 5) = .int .i64 pre.length from p1.ev.trans f5, Sem.run_pure]) ?_)
  rw [o1c]
  have p2 := p1.put (d := 20) (by omega) (.int .i64 pre.length)
  generalize a2.put (some 20) (.int .i64 pre.length) = a3 at p2 ⊢
  refine wpOps_cons o2a o2d (upon_val (v := .int .i64 k) (w' := w) (by simp only [execOp, o2b, show a3.eval (.tmp 1) = .int .i64 k from p2.ev.trans f1, Sem.run_pure]) ?_)
  rw [o2c]
  have p3 := p2.put (d := 21) (by omega) (.int .i64 k)
  generalize a3.put (some 21) (.int .i64 k) = a4 at p3 ⊢
  have ri := run_indexS (P := Try.prog) tt_ok (tt_ok 37 polys (by kernel_rfl)) (w := w) (b := b) (o := o) (m := (pre ++ x :: suf).length) (cap := cap) (kk := .i64) (i := pre.length) (by simp)
  rw [show (poly).size = 3 from rfl, ← r1] at ri
  refine wpOps_cons o3a o3d (upon_val (v := .pointer (some ⟨b, o + pre.length * 3, none⟩)) (w' := w) (by
    simp only [execOp, o3b, show a4.eval (.tmp 19) = hd from p3.ev, show a4.eval (.tmp 20) = .int .i64 pre.length from p3.ev, Sem.run_bind, ri, Result.andThen_ok, Sem.run_pure]) ?_)
  rw [o3c]
  have p4 := p3.put (d := 22) (by omega) (.pointer (some ⟨b, o + pre.length * 3, none⟩))
  generalize a4.put (some 22) (.pointer (some ⟨b, o + pre.length * 3, none⟩)) = a5 at p4 ⊢
  have rf := run_fieldAt (P := Try.prog) (w := w) (b := b) (o := o + pre.length * 3) (j := 1) (u := i64) tt_ok (tt_ok 58 poly (by kernel_rfl)) rfl rfl
  rw [show poff poly [.fld 1] = 1 from rfl] at rf
  refine wpOps_cons o4a o4d (upon_val (v := .pointer (some ⟨b, o + pre.length * 3 + 1, none⟩)) (w' := w) (by
    simp only [execOp, o4b, show a5.eval (.tmp 22) = .pointer (some ⟨b, o + pre.length * 3, none⟩) from p4.ev, Sem.run_bind, rf, Result.andThen_ok, Sem.run_pure]) ?_)
  rw [o4c]
  have p5 := p4.put (d := 23) (by omega) (.pointer (some ⟨b, o + pre.length * 3 + 1, none⟩))
  generalize a5.put (some 23) (.pointer (some ⟨b, o + pre.length * 3 + 1, none⟩)) = a6 at p5 ⊢
  have rs := run_storeI (w := w) (b := b) (o := o + pre.length * 3 + 1) (k := k) r2 (by omega)
  refine wpOps_cons o5a o5d (upon_skip (w' := w.setRow b (splice c.toList (o + pre.length * 3 + 1) [.int .i64 k]).toArray) (by
    simp only [execOp, o5b, show a6.eval (.tmp 23) = .pointer (some ⟨b, o + pre.length * 3 + 1, none⟩) from p5.ev, show a6.eval (.tmp 21) = .int .i64 k from p5.ev, Sem.run_bind, rs, Result.andThen_ok, Sem.run_pure]) ?_)
  rw [o5c]
  exact hQ a6 _ _ p5 (show _ = hd from f0) (show _ = Value.int .i64 k from f1) (show _ = Value.int .i64 (pre.length : Int) from f5) n2
end
end Go.Proofs.YtkoifikjfnbcpaaEv
