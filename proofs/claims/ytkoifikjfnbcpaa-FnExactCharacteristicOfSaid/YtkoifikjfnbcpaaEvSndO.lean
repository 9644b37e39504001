/- All operations that turn no slot but their own: the code comes to what is told. -/
import Derived.Test.YtkoifikjfnbcpaaEvSndN
set_option linter.unusedVariables false
set_option linter.unusedSimpArgs false
namespace Go.Proofs.YtkoifikjfnbcpaaEv
open Go Go.RowKit

section
variable {P : Program} {T : TTab} {K : CTab} {n : NS} {w0 w : World} {W : Nat → Prop} {g : Gh} {get : Nat → Ent} {a : Act} {d : Nat}

theorem isNil_eq {x : Operand} (h : isNil x = true) : x = .const (.slice none 0 0) := by
  unfold isNil at h; split at h
  · rfl
  · cases h

theorem capsOf_val : ∀ {xs : List Operand} {cs : List Nat}, (∀ s, EntR g w.heap s (get s) (a.tmps.getD s undef)) → evOp.capsOf get xs = some cs → xs.map a.eval = cs.map (fun s => Value.pointer (some ⟨g.bx s, 0, none⟩)) := by
  intro xs
  induction xs with
  | nil => intro cs _ h; simp only [evOp.capsOf, Option.some.injEq] at h; subst h; rfl
  | cons x xs ih =>
    intro cs hg h
    cases x with
    | tmp s =>
      simp only [evOp.capsOf] at h
      cases hb : isBox (get s) with
      | false => rw [hb] at h; cases h
      | true =>
        rw [hb] at h; simp only [cond_true] at h
        split at h
        · rename_i l hl
          injection h with h; subst h
          have := hg s
          cases he : get s with
          | box ro ls =>
            rw [he] at this
            obtain ⟨b, c, e, fr, bs, h1, h2, h3, h4, _⟩ := this
            simp only [List.map_cons, ih hg hl]
            congr 1
            show a.tmps.getD s undef = _
            rw [h1, h4]
          | _ => rw [he] at hb; cases hb
        · cases h
    | _ => simp [evOp.capsOf] at h

theorem caps_ER : ∀ {cs : List Nat}, (∀ s, EntR g w.heap s (get s) (a.tmps.getD s undef)) → ER g w.heap (cs.map get) (cs.map fun s => a.tmps.getD s undef)
  | [], _ => rfl
  | s :: r, hg => ⟨_, _, s, rfl, hg s, caps_ER hg⟩

theorem ok1_eq {dst : Option Nat} {c : Bool} {e : Ent} {r : OpRes} {ups : List (Nat × Ent)} (h : ok1 dst c e = some r) (hr : r.get = some ups) : ∃ d, dst = some d ∧ c = true ∧ ups = [(d, e)] := by
  unfold ok1 at h
  cases dst with
  | none => cases h
  | some d =>
    injection h with h; subst h
    unfold OpRes.get at hr
    cases c with
    | false => cases hr
    | true => injection hr with hr; exact ⟨d, rfl, rfl, hr.symm⟩

theorem callE_form {dst : Option Nat} {f : Nat} {es : List Ent} {r : OpRes} {ups : List (Nat × Ent)} (he : callE K dst f es = some r) (hr : r.get = some ups) :
    ∃ rs x mk y, r = .callr rs x mk ∧ x = some y ∧ ups = mk y := by
  unfold callE at he
  split at he
  · cases he
  · split at he
    · cases he
    · rename_i C hC _ ar har
      cases hq : (!C.inp && tagRoom C.rs && (C.fresh || C.rs.all Ty.flat || es.all frozenE)) with
      | false => rw [hq] at he; cases he
      | true =>
        rw [hq] at he; simp only [cond_true, Option.some.injEq] at he; subst he
        simp only [OpRes.get] at hr
        split at hr
        · rename_i y hy
          injection hr with hr
          exact ⟨_, _, _, y, rfl, hy, hr.symm⟩
        · cases hr

set_option maxHeartbeats 4000000 in
theorem evOp_sound {o : Oper} {r : OpRes} {ups : List (Nat × Ent)} {Q : Exit → Act → World → Prop} (hT : TOK P T) (hK : KOK P K) (st : St n w0 W g get a w) (he : evOp T K get o = some r) (hr : r.get = some ups)
    (hd : ∀ d, o.dst = some d → n.has d) (clean : creates o = true → ∀ d, o.dst = some d → ∀ s, (get s).at d = false) :
    Oper.wp P o a w (fun a' w' => ∃ g', g'.al = g.al ∧ St n w0 W g' (upds get ups) a' w') Q := by
  have hg := st.ent
  -- an operation that only looks
  have look : ∀ {c : Bool} {e : Ent} {v : Value}, ok1 o.dst c e = some r → (execOp a.eval o).run P w = .ok (.value v) w → (c = true → ∀ s, EntR g w.heap s e v) → Oper.wp P o a w (fun a' w' => ∃ g', g'.al = g.al ∧ St n w0 W g' (upds get ups) a' w') Q := by
    intro c e v h1 h2 h3
    obtain ⟨d, q1, q2, q3⟩ := ok1_eq h1 hr
    refine upon_val h2 ⟨g, rfl, ?_⟩
    rw [q1, q3]
    exact st.putA (hd d q1) (h3 q2 d)
  -- an operation that makes something
  have make : ∀ {d : Nat} {e : Ent} {S : Sem Value}, o.dst = some d → r = .ok true [(d, e)] → execOp a.eval o = (do pure (Next.value (← S))) →
      (∃ g' v w', S.run P w = .ok v w' ∧ St n w0 W g' (upd get d e) (a.put (some d) v) w' ∧ g'.al = g.al) → Oper.wp P o a w (fun a' w' => ∃ g', g'.al = g.al ∧ St n w0 W g' (upds get ups) a' w') Q := by
    rintro d e S h1 h2 h3 ⟨g', v, w', q1, q2, q3⟩
    subst h2
    injection hr with hr; subst hr
    refine upon_val (v := v) (w' := w') (by rw [h3]; simp only [Sem.run_bind, q1, Result.andThen_ok, Sem.run_pure]) ⟨g', q3, ?_⟩
    rw [h1]; exact q2
  have one : ∀ {S : Sem Value} {v : Value} {w' : World}, execOp a.eval o = (do pure (Next.value (← S))) → S.run P w = .ok v w' → (execOp a.eval o).run P w = .ok (.value v) w' := by
    intro S v w' h1 h2; rw [h1]; simp only [Sem.run_bind, h2, Result.andThen_ok, Sem.run_pure]
  cases hop : o.op with
  | move x =>
    simp only [evOp, hop] at he
    have hx : execOp a.eval o = pure (.value (a.eval x)) := by simp only [execOp, hop]
    cases hn : isNil x with
    | true =>
      rw [hn] at he; simp only [cond_true] at he
      split at he
      · rename_i d e u h1 h2
        injection he with he; subst he; injection hr with hr; subst hr
        refine upon_val (v := .slice none 0 0) (w' := w) (by rw [hx, isNil_eq hn]; rfl) ⟨g.head d (fun _ => nilv), rfl, ?_⟩
        rw [h1]
        exact ok_nil (t := 0) st (hd d h1) (clean (by simp [creates, hop, hn]) d h1)
      · cases he
    | false =>
      rw [hn] at he; simp only [cond_false] at he
      split at he
      · rename_i e hxe
        cases hm : e.movable with
        | false => rw [hm] at he; cases he
        | true =>
          rw [hm] at he; simp only [cond_true] at he
          obtain ⟨s0, h1, _⟩ := opE_sound hg hxe
          exact look he (by rw [hx]; rfl) (fun _ s => h1.move hm)
      · cases he
  | assign x =>
    simp only [evOp, hop] at he
    have hx : execOp a.eval o = pure (.value (a.eval x)) := by simp only [execOp, hop]
    cases hn : isNil x with
    | true =>
      rw [hn] at he; simp only [cond_true] at he
      split at he
      · rename_i d e u h1 h2
        injection he with he; subst he; injection hr with hr; subst hr
        refine upon_val (v := .slice none 0 0) (w' := w) (by rw [hx, isNil_eq hn]; rfl) ⟨g.head d (fun _ => nilv), rfl, ?_⟩
        rw [h1]
        exact ok_nil (t := 0) st (hd d h1) (clean (by simp [creates, hop, hn]) d h1)
      · cases he
    | false =>
      rw [hn] at he; simp only [cond_false] at he
      split at he
      · rename_i e hxe
        cases hm : e.movable with
        | false => rw [hm] at he; cases he
        | true =>
          rw [hm] at he; simp only [cond_true] at he
          obtain ⟨s0, h1, _⟩ := opE_sound hg hxe
          exact look he (by rw [hx]; rfl) (fun _ s => h1.move hm)
      · cases he
  | pick c x y =>
    simp only [evOp, hop] at he
    split at he
    · rename_i c' x' y' h1 h2 h3
      split at he
      · rename_i cc e hp
        obtain ⟨d, q1, q2, q3⟩ := ok1_eq he hr
        obtain ⟨s1, r1, _⟩ := opE_sound hg h1
        obtain ⟨s2, r2, _⟩ := opE_sound hg h2
        obtain ⟨s3, r3, _⟩ := opE_sound hg h3
        obtain ⟨b, hb, hv⟩ := pick_sound r1 r2 r3 hp q2
        refine look he (v := if b then a.eval x else a.eval y) ?_ (fun _ s => hv s)
        simp only [execOp, hop, hb, asBool, Sem.run_bind, Sem.run_pure, Result.andThen_ok]
      · cases he
    · cases he
  | alloc t =>
    simp only [evOp, hop] at he
    split at he
    · rename_i d ty h1 h2
      cases hq : tagRoom [ty] with
      | false => rw [hq] at he; cases he
      | true =>
        rw [hq] at he; simp only [cond_true] at he
        split at he
        · rename_i ls hls
          injection he with he
          exact make h1 he.symm (S := Instr.alloc t true (.tuple #[])) (by simp only [execOp, hop]) (ok_alloc st (hd d h1) (clean (by simp [creates, hop]) d h1) (hT _ _ h2) hq hls)
        · cases he
    · cases he
  | box t x =>
    simp only [evOp, hop] at he
    split at he
    · rename_i d ty agg ls h1 h2 h3
      split at he
      · rename_i ls' hls
        injection he with he
        exact make h1 he.symm (S := Instr.box t (a.eval x)) (by simp only [execOp, hop]) (ok_box st (hd d h1) (clean (by simp [creates, hop]) d h1) h3 hls)
      · cases he
    · cases he
  | build t ps =>
    simp only [evOp, hop] at he
    split at he
    · rename_i d ty es h1 h2 h3
      cases hq : tagRoom [ty] with
      | false => rw [hq] at he; cases he
      | true =>
        rw [hq] at he; simp only [cond_true] at he
        split at he
        · rename_i e hls
          injection he with he
          exact make h1 he.symm (S := Instr.build t (ps.map fun (i, x) => (i, a.eval x))) (by simp only [execOp, hop]) (ok_build st (hd d h1) (clean (by simp [creates, hop]) d h1) hT (hT _ _ h2) hq h3 hls)
        · cases he
    · cases he
  | buildSlice t len ps =>
    simp only [evOp, hop] at he
    split at he
    · rename_i d ty es h1 h2 h3
      split at he
      · rename_i e hls
        injection he with he
        exact make h1 he.symm (S := Instr.buildSlice t len (ps.map fun (i, x) => (i, a.eval x))) (by simp only [execOp, hop]) (ok_buildSlice st (hd d h1) (clean (by simp [creates, hop]) d h1) hT (hT _ _ h2) h3 hls)
      · cases he
    · cases he
  | load t x =>
    simp only [evOp, hop] at he
    split at he
    · rename_i ty e h1 h2
      split at he
      · rename_i r' hr'
        obtain ⟨v, q1, q2⟩ := load_sound (P := P) (hT _ _ h1) hg h2 hr'
        exact look he (one (by simp only [execOp, hop]) q1) (fun _ => q2)
      · cases he
    · cases he
  | fieldAddr t x f =>
    simp only [evOp, hop] at he
    split at he
    · rename_i ty e h1 h2
      split at he
      · rename_i r' hr'
        obtain ⟨v, q1, q2⟩ := field_sound (P := P) hT (hT _ _ h1) hg h2 hr'
        exact look he (one (by simp only [execOp, hop]) q1) (fun _ => q2)
      · cases he
    · cases he
  | indexAddr t x ix =>
    simp only [evOp, hop] at he
    split at he
    · rename_i ty e ie h1 h2 h3
      split at he
      · rename_i k i hi
        split at he
        · rename_i c r' hr'
          obtain ⟨d, p1, p2, p3⟩ := ok1_eq he hr
          obtain ⟨s3, r3, _⟩ := opE_sound hg h3
          obtain ⟨v, q1, q2⟩ := index_sound (P := P) (kk := k) hT (hT _ _ h1) hg h2 hr' p2
          exact look he (one (S := Instr.indexAt t (a.eval x) (a.eval ix)) (by simp only [execOp, hop]) (by rw [(asI_inv r3 hi).1]; exact q1)) (fun _ => q2)
        · cases he
      · cases he
    · cases he
  | binOp op t x y yt =>
    simp only [evOp, hop] at he
    have hx : execOp a.eval o = (do pure (Next.value (← (do eqGuard op t x y (a.eval x) (a.eval y); binOp op t (a.eval x) (a.eval y) : Sem Value)))) := by simp only [execOp, hop]
    cases hn : isNil y with
    | true =>
      rw [hn] at he; simp only [cond_true] at he
      split at he
      · rename_i e el u h1 h2
        split at he
        · rename_i r' hr'
          obtain ⟨s1, r1, _⟩ := opE_sound hg h1
          obtain ⟨v, q1, q2⟩ := nil_sound (P := P) (X := x) (Y := y) (hT _ _ h2).und.1 r1 hr'
          refine look he (one hx ?_) (fun _ => q2)
          have : a.eval y = .slice none 0 0 := by rw [isNil_eq hn]; rfl
          rw [this]; exact q1
        · cases he
      · cases he
    | false =>
      rw [hn] at he; simp only [cond_false] at he
      split at he
      · rename_i e1 e2 h1 h2
        split at he
        · rename_i c r' hr'
          obtain ⟨d, p1, p2, p3⟩ := ok1_eq he hr
          obtain ⟨s1, r1, _⟩ := opE_sound hg h1
          obtain ⟨s2, r2, _⟩ := opE_sound hg h2
          obtain ⟨v, q1, q2⟩ := bin_sound (P := P) (X := x) (Y := y) hT r1 r2 hr' p2
          exact look he (one hx q1) (fun _ => q2)
        · cases he
      · cases he
  | unOp op t x =>
    simp only [evOp, hop] at he
    split at he
    · rename_i e h1
      split at he
      · rename_i r' hr'
        obtain ⟨s1, r1, _⟩ := opE_sound hg h1
        obtain ⟨v, q1, q2⟩ := un_sound (P := P) r1 hr'
        exact look he (one (by simp only [execOp, hop]) q1) (fun _ => q2)
      · cases he
    · cases he
  | convert sT dT x =>
    simp only [evOp, hop] at he
    split at he
    · rename_i k k' e h1 h2 h3
      split at he
      · rename_i k2 m hm
        obtain ⟨s1, r1, _⟩ := opE_sound hg h3
        have hv := (asI_inv r1 hm).1
        have u1 : P.underlying sT = some (.int k) := (hT _ _ h1).und
        have u2 : P.underlying dT = some (.int k') := (hT _ _ h2).und
        refine look he (v := .int k' (k'.wrap m)) (one (S := convert sT dT (a.eval x)) (by simp only [execOp, hop]) ?_) (fun _ s => intE_sound (wrap_wf _ _))
        rw [hv]
        simp only [convert, Sem.run_bind, run_underlying u1, run_underlying u2, Result.andThen_ok, Conv.intToInt, Sem.run_pure]
      · cases he
    · cases he
  | extract x i =>
    simp only [evOp, hop] at he
    split at he
    · rename_i ls h1
      split at he
      · rename_i agg l hl
        obtain ⟨s1, r1, _⟩ := opE_sound hg h1
        obtain ⟨v, q1, q2⟩ := extract_sound (P := P) r1 hl
        exact look he (one (by simp only [execOp, hop]) q1) (fun _ => q2)
      · cases he
    · cases he
  | slice t x lo hi mx =>
    simp only [evOp, hop] at he
    split at he
    · rename_i e' u e l h h1 h2 h3 h4
      split at he
      · rename_i c r' hr'
        obtain ⟨d, p1, p2, p3⟩ := ok1_eq he hr
        obtain ⟨v, q1, q2⟩ := slice_sound (P := P) hT (hT _ _ h1) hg h2 h3 h4 hr' p2
        exact look he (one (by simp only [execOp, hop, Option.map_none]) q1) (fun _ => q2)
      · cases he
    · cases he
  | makeSlice t l c =>
    simp only [evOp, hop] at he
    split at he
    · rename_i d e u le ce h1 h2 h3 h4
      split at he
      · rename_i kl m kc m' i1 i2
        injection he with he
        obtain ⟨s1, r1, _⟩ := opE_sound hg h3
        obtain ⟨s2, r2, _⟩ := opE_sound hg h4
        subst he
        simp only [OpRes.get] at hr
        cases hq : (decide (0 ≤ m) && decide (m ≤ 1099511627776) && decide (m = m')) with
        | false => rw [hq] at hr; cases hr
        | true =>
          rw [hq] at hr; simp only [cond_true, Option.some.injEq] at hr; subst hr
          simp only [Bool.and_eq_true, decide_eq_true_eq] at hq
          obtain ⟨⟨c1, c2⟩, c3⟩ := hq
          subst c3
          obtain ⟨g', v, w', q1, q2, q3⟩ := ok_makeSlice (P := P) (kl := kl) (kc := kc) st (hd d h1) (clean (by simp [creates, hop]) d h1) hT (hT _ _ h2) c1 c2
          refine upon_val (v := v) (w' := w') (one (S := Instr.makeSlice t (a.eval l) (a.eval c)) (by simp only [execOp, hop]) ?_) ⟨g', q3, ?_⟩
          · rw [(asI_inv r1 i1).1, (asI_inv r2 i2).1]; exact q1
          · rw [h1]; exact q2
      · cases he
    · cases he
  | makeFunc fn fi ca =>
    cases fn with
    | func f =>
      simp only [evOp, hop] at he
      cases hz : Nat.beq fi.size 0 with
      | false => rw [hz] at he; cases he
      | true =>
        rw [hz] at he; simp only [cond_true] at he
        split at he
        · rename_i cs hcs
          have hfi : fi = #[] := Array.eq_empty_of_size_eq_zero (Nat.eq_of_beq_eq_true hz)
          have := capsOf_val hg hcs
          refine look he (v := .func (.func f) #[] (ca.map a.eval)) (one (S := Instr.makeFunc (.func f) (fi.map a.eval) (ca.map a.eval)) (by simp only [execOp, hop]) (by rw [hfi]; simp [Instr.makeFunc])) (fun _ s => ?_)
          show _ = _
          rw [← this]; congr 1; apply Array.ext'; simp
        · cases he
    | _ => simp [evOp, hop] at he
  | call c =>
    simp only [evOp, hop] at he
    split at he
    · -- len
      rename_i hcal
      split at he
      · rename_i t l hty hl
        split at he
        · rename_i el u m h1 h2
          obtain ⟨d, p1, p2, p3⟩ := ok1_eq he hr
          have her := operEs_ER hg hl
          obtain ⟨v, vs', s, e1, e2, e3⟩ := her
          have e3 : vs' = [] := e3
          subst e3
          have hargs : c.args.map a.eval = #[v] := by apply Array.ext'; simpa using e1
          have hats : c.argTypes = #[t] := by apply Array.ext'; simpa using hty
          refine look he (v := goInt m) ?_ (fun _ s => intE_sound ?_)
          · simp only [execOp, hop, resolve, hcal, invoke, builtin, Sem.run_bind, Sem.run_pure, Result.andThen_ok, hargs, hats, len_sound (P := P) (hT _ _ h1).und.1 e2 h2]
          · simp only [decide_eq_true_eq] at p2
            simp [Lit.wf, IntKind.min, IntKind.max, IntKind.bits, IntKind.signed]; omega
        · cases he
      · cases he
    · rename_i hcal
      split at he
      · rename_i x y hl
        split at he
        · rename_i r' hr'
          obtain ⟨v, vs', s, e1, e2, v2, vs2, s2, f1, f2, f3⟩ := operEs_ER hg hl
          have f3 : vs2 = [] := f3
          subst f3; subst f1
          have hargs : c.args.map a.eval = #[v, v2] := by apply Array.ext'; simpa using e1
          obtain ⟨z, z1, z2⟩ := (minmax_sound (P := P) e2 f2 hr').1 rfl
          refine look he (v := z) ?_ (fun _ s => z2 s)
          simp only [execOp, hop, resolve, hcal, invoke, builtin, Sem.run_bind, Sem.run_pure, Result.andThen_ok, hargs, z1]
        · cases he
      · cases he
    · rename_i hcal
      split at he
      · rename_i x y hl
        split at he
        · rename_i r' hr'
          obtain ⟨v, vs', s, e1, e2, v2, vs2, s2, f1, f2, f3⟩ := operEs_ER hg hl
          have f3 : vs2 = [] := f3
          subst f3; subst f1
          have hargs : c.args.map a.eval = #[v, v2] := by apply Array.ext'; simpa using e1
          obtain ⟨z, z1, z2⟩ := (minmax_sound (P := P) e2 f2 hr').2 rfl
          refine look he (v := z) ?_ (fun _ s => z2 s)
          simp only [execOp, hop, resolve, hcal, invoke, builtin, Sem.run_bind, Sem.run_pure, Result.andThen_ok, hargs, z1]
        · cases he
      · cases he
    · rename_i f hcal
      split at he
      · rename_i fid caps es h1 h2
        obtain ⟨s1, r1, _⟩ := opE_sound hg h1
        have hf : a.eval f = .func (.func fid) #[] (caps.map fun s => Value.pointer (some ⟨g.bx s, 0, none⟩)).toArray := r1
        have her := operEs_ER hg h2
        cases hbx : (caps.all fun s => isBox (get s)) with
        | false => rw [hbx] at he; cases he
        | true =>
          rw [hbx] at he; simp only [cond_true] at he
          obtain ⟨rs, x, mk, y, q1, q2, q3⟩ := callE_form he hr
          subst q1
          have hcv : (caps.map fun s => a.tmps.getD s undef) = caps.map fun s => Value.pointer (some ⟨g.bx s, 0, none⟩) := by
            apply List.map_congr_left
            intro s hs
            have hb := List.all_eq_true.1 hbx s hs
            have := hg s
            cases hgs : get s with
            | box ro ls =>
              rw [hgs] at this
              obtain ⟨b, c, e, fr, bs, h1, h2, h3, h4, _⟩ := this
              rw [h1, h4]
            | _ => rw [hgs] at hb; cases hb
          obtain ⟨⟨fn, f1, f2, f3⟩, hcalls⟩ := ok_call hK st hd (clean (by simp [creates, hop, hcal])) (her.append (caps_ER hg)) he q2
          unfold Oper.wp
          have run : (execOp a.eval o).run P w = .ok (.enter fid (c.args.map a.eval ++ (caps.map fun s => Value.pointer (some ⟨g.bx s, 0, none⟩)).toArray)) w := by
            simp only [execOp, hop, resolve, hcal, hf, Deferred.ofValue, invoke, callFunc, Sem.run_bind, Sem.run_pure, Result.andThen_ok, run_program, f1]
            rw [if_neg (by simpa using f2), if_neg (by simp [f3])]
            simp
          rw [run]
          simp only [Oper.upon]
          have e : (c.args.map a.eval ++ (caps.map fun s => Value.pointer (some ⟨g.bx s, 0, none⟩)).toArray) = (c.args.toList.map a.eval ++ caps.map fun s => a.tmps.getD s undef).toArray := by
            rw [hcv]; apply Array.ext'; simp
          rw [e]
          refine hcalls.mono ?_
          rintro e w' ⟨v, rfl, g', k1, k2⟩
          exact ⟨g', k1, by rw [q3]; exact k2⟩
      · cases he
    · cases he
  | store t x y =>
    simp only [evOp, hop] at he
    split at he
    · rename_i ty s agg xs h1 h3 h4
      split at he
      · rename_i ups' hst
        injection he with he; subst he
        injection hr with hr; subst hr
        obtain ⟨w', q1, q2⟩ := ok_store (P := P) hT (hT _ _ h1) st h3 hst
        refine upon_skip (w' := w') ?_ ⟨g, rfl, ?_⟩
        · simp only [execOp, hop, Sem.run_bind, Sem.run_pure]
          rw [show a.eval (.tmp s) = a.tmps.getD s undef from rfl, q1]; rfl
        · rw [h4]; exact q2
      · cases he
    · cases he
  | _ => simp [evOp, hop] at he

end
end Go.Proofs.YtkoifikjfnbcpaaEv
