/- One operation, in its place. -/
import Derived.Test.YtkoifikjfnbcpaaEvTailM
import Derived.Orders
set_option linter.unusedVariables false
set_option linter.unusedSimpArgs false
namespace Go.Proofs.YtkoifikjfnbcpaaEv
open Go Go.RowKit

def litArg (env : Env) (x : Operand) : Env :=
  match x with
  | .tmp s => (match env.get s with | .lit _ _ _ => (match nameLit s env with | some e => e | none => env) | _ => env)
  | _ => env
def preL (env : Env) (o : Oper) : Env :=
  match o.op with
  | .move x | .assign x => litArg env x
  | .store _ _ x => litArg env x
  | _ => env
def preE (env : Env) (o : Oper) : Env :=
  match o.dst with
  | some d => bif creates o then (preL env o).map (killAt d) else preL env o
  | none => preL env o

def tailE (T : TTab) (K : CTab) (env : Env) (o : Oper) : Option StepRes :=
  match o.op with
  | .call c => (match c.callee with
    | .builtin .append => (match o.dst, c.argTypes.toList, c.args.toList with
      | some d, [t1, t2], [s, x] => bif Nat.beq t1 t2 then (match tyOf T t1, opE env.get s, opE env.get x with
        | some (.slice e u), some es, some ex => (match appendE e u d es ex env with | some (c, env') => some (.ok c env') | none => none)
        | _, _, _ => none)
        else (match tyOf T t1, tyOf T t2, opE env.get s, opE env.get x with
        | some (.slice e u), some (.int _), some es, some ex => (match appendME e u d es ex env with | some (c, env') => some (.ok c env') | none => none)
        | _, _, _, _ => none)
      | _, _, _ => none)
    | .value f => (match opE env.get f, c.args.toList with
      | some (.fn k []), [x, q] => markE K env o.dst k x q
      | _, _ => none)
    | _ => none)
  | .store t ad x => (match o.dst, tyOf T t, opE env.get ad, opE env.get x with
    | none, some ty, some e, some (.val _ xs) => (match estoreE ty e xs env with | some env' => some (.ok true env') | none => none)
    | _, _, _, _ => none)
  | _ => none

def rtTags : List Leaf → List Nat
  | [] => []
  | .rt _ _ tag _ _ _ _ :: r => tag :: rtTags r
  | _ :: r => rtTags r
def freezes : List Nat → Env → Option Env
  | [], env => some env
  | m :: r, env => bif Nat.beq m 0 || litTag m env then none else freezes r (env.map (Ent.mapL (Leaf.absorb m m)))

def entTags : Ent → List Nat
  | .val _ ls => rtTags ls
  | .box _ ls => rtTags ls
  | _ => []
def nodupN : List Nat → List Nat → List Nat
  | [], acc => acc
  | x :: r, acc => bif memN acc x then nodupN r acc else nodupN r (x :: acc)
def litArgs : List Operand → Env → Env
  | [], env => env
  | x :: r, env => litArgs r (litArg env x)
/-- What is handed over is written no more. -/
def frzArgs (env : Env) (o : Oper) : Option Env :=
  match o.op with
  | .call c => (match c.callee with
    | .value _ => freezes (nodupN (c.args.toList.flatMap fun x => match x with | .tmp s => entTags ((litArgs c.args.toList env).get s) | _ => []) []) (litArgs c.args.toList env)
    | _ => none)
  | _ => none

def step1 (T : TTab) (K : CTab) (env : Env) (o : Oper) : Option StepRes :=
  match evOp T K (preE env o).get o with
  | some (.ok c ups) => some (.ok c ((preE env o).puts ups))
  | some (.callr rs x mk) => some (.callr rs x fun r => (preE env o).puts (mk r))
  | none => tailE T K (preE env o) o
def stepE (T : TTab) (K : CTab) (env : Env) (o : Oper) : Option StepRes :=
  match step1 T K env o with
  | some r => some r
  | none => (match frzArgs env o with
    | some env' => step1 T K env' o
    | none => none)

theorem Env.get_puts : ∀ (ups : List (Nat × Ent)) (env : Env), (env.puts ups).get = upds env.get ups
  | [], env => rfl
  | (i, e) :: r, env => by
    simp only [Env.puts, upds]
    rw [Env.get_puts r]
    congr 1
    funext s
    rw [Env.get_put]; rfl

section
variable {P : Program} {T : TTab} {K : CTab} {n : NS} {w0 w : World} {W : Nat → Prop} {g : Gh} {get : Nat → Ent} {a : Act} {d : Nat}

theorem litArg_sound {env : Env} {x : Operand} (hwal : ∀ b, W b → g.al b) (st : St n w0 W g env.get a w) : ∃ g', g'.al = g.al ∧ St n w0 W g' (litArg env x).get a w := by
  unfold litArg
  split
  · rename_i s
    split
    · rename_i e u pp hget
      split
      · rename_i env' h; exact nameLit_sound hwal st h
      · exact ⟨g, rfl, st⟩
    · exact ⟨g, rfl, st⟩
  · exact ⟨g, rfl, st⟩

theorem preL_sound {env : Env} {o : Oper} (hwal : ∀ b, W b → g.al b) (st : St n w0 W g env.get a w) : ∃ g', g'.al = g.al ∧ St n w0 W g' (preL env o).get a w := by
  unfold preL
  split
  · exact litArg_sound hwal st
  · exact litArg_sound hwal st
  · exact litArg_sound hwal st
  · exact ⟨g, rfl, st⟩

theorem killAt_clean (d : Nat) (e : Ent) : (killAt d e).at d = false := by
  unfold killAt
  cases h : e.at d with
  | true => rfl
  | false => exact h

theorem preE_sound {env : Env} {o : Oper} (hwal : ∀ b, W b → g.al b) (st : St n w0 W g env.get a w) : (∃ g', g'.al = g.al ∧ St n w0 W g' (preE env o).get a w) ∧
    (creates o = true → ∀ d, o.dst = some d → ∀ s, ((preE env o).get s).at d = false) := by
  obtain ⟨g', q1, q2⟩ := preL_sound (o := o) hwal st
  unfold preE
  cases ho : o.dst with
  | none => exact ⟨⟨g', q1, q2⟩, fun _ d hd => by cases hd⟩
  | some d =>
    simp only
    cases hc : creates o with
    | false => exact ⟨⟨g', q1, q2⟩, fun h => by cases h⟩
    | true =>
      simp only [cond_true]
      refine ⟨⟨g', q1, q2.kill fun s => ?_⟩, fun _ d' hd' s => ?_⟩
      · rw [Env.get_map _ rfl]
        unfold killAt
        cases ((preL env o).get s).at d with
        | true => exact .inr rfl
        | false => exact .inl rfl
      · injection hd' with hd'; subst hd'
        rw [Env.get_map _ rfl]; exact killAt_clean d _

theorem step1_sound {o : Oper} {env env' : Env} {r : StepRes} {Q : Exit → Act → World → Prop} (hT : TOK P T) (hK : KOK P K) (hwal : ∀ b, W b → g.al b) (st : St n w0 W g env.get a w) (he : step1 T K env o = some r) (hr : r.get = some env')
    (hd : ∀ d, o.dst = some d → n.has d) :
    Oper.wp P o a w (fun a' w' => ∃ g', g'.al = g.al ∧ St n w0 W g' env'.get a' w') Q := by
  obtain ⟨⟨g1, q1, st1⟩, cl⟩ := preE_sound (o := o) hwal st
  have main : ∀ {r1 : OpRes} {ups : List (Nat × Ent)}, evOp T K (preE env o).get o = some r1 → r1.get = some ups → env' = (preE env o).puts ups → Oper.wp P o a w (fun a' w' => ∃ g', g'.al = g.al ∧ St n w0 W g' env'.get a' w') Q := by
    intro r1 ups h1 h2 h3
    have := evOp_sound (Q := Q) hT hK st1 h1 h2 hd cl
    refine Oper.wp_mono (fun a' w' h => ?_) this
    obtain ⟨g', z1, z2⟩ := h
    exact ⟨g', z1.trans q1, by rw [h3, Env.get_puts]; exact z2⟩
  unfold step1 at he
  split at he
  · rename_i c ups h1
    injection he with he; subst he
    simp only [StepRes.get] at hr
    cases c with
    | false => cases hr
    | true =>
      simp only [cond_true, Option.some.injEq] at hr
      exact main h1 rfl hr.symm
  · rename_i rs x mk h1
    injection he with he; subst he
    simp only [StepRes.get] at hr
    cases x with
    | none => cases hr
    | some y =>
      simp only [Option.some.injEq] at hr
      exact main h1 rfl hr.symm
  · unfold tailE at he
    have hwal1 : ∀ b, W b → g1.al b := fun b hb => by rw [q1]; exact hwal b hb
    split at he
    · rename_i c hop
      split at he
      · rename_i hcal
        split at he
        · rename_i d t1 t2 s x hdst hty hargs
          cases hq : Nat.beq t1 t2 with
          | false =>
            rw [hq] at he; simp only [cond_false] at he
            split at he
            · rename_i e u kk es ex h1 h1' h2 h3
              split at he
              · rename_i cc env2 happ
                injection he with he; subst he
                simp only [StepRes.get] at hr
                cases cc with
                | false => cases hr
                | true =>
                  simp only [cond_true, Option.some.injEq] at hr; subst hr
                  obtain ⟨g', v, w', z1, z2, z3⟩ := appendM_sound (P := P) (ty := o.type) (ti := t2) hT (hT _ _ h1) (hT _ _ h1').und hwal1 st1 (hd d hdst) h2 h3 happ
                  have hats : c.argTypes = #[t1, t2] := by apply Array.ext'; simpa using hty
                  have hargs : c.args.map a.eval = #[a.eval s, a.eval x] := by apply Array.ext'; simp [hargs]
                  refine upon_val (v := v) (w' := w') ?_ ⟨g', z2.trans q1, ?_⟩
                  · simp only [execOp, hop, resolve, hcal, invoke, builtin, Sem.run_bind, Sem.run_pure, Result.andThen_ok, hargs, hats, z1]
                  · rw [hdst]; exact z3
              · cases he
            · cases he
          | true =>
            rw [hq] at he; simp only [cond_true] at he
            have := Nat.eq_of_beq_eq_true hq; subst this
            split at he
            · rename_i e u es ex h1 h2 h3
              split at he
              · rename_i cc env2 happ
                injection he with he; subst he
                simp only [StepRes.get] at hr
                cases cc with
                | false => cases hr
                | true =>
                  simp only [cond_true, Option.some.injEq] at hr; subst hr
                  obtain ⟨g', v, w', z1, z2, z3⟩ := append_sound (P := P) (ty := o.type) hT (hT _ _ h1) hwal1 st1 (hd d hdst) h2 h3 happ
                  have hats : c.argTypes = #[t1, t1] := by apply Array.ext'; simpa using hty
                  have hargs : c.args.map a.eval = #[a.eval s, a.eval x] := by apply Array.ext'; simp [hargs]
                  refine upon_val (v := v) (w' := w') ?_ ⟨g', z2.trans q1, ?_⟩
                  · simp only [execOp, hop, resolve, hcal, invoke, builtin, Sem.run_bind, Sem.run_pure, Result.andThen_ok, hargs, hats, z1]
                  · rw [hdst]; exact z3
              · cases he
            · cases he
        · cases he
      · rename_i f hcal
        split at he
        · rename_i kf x q h1 hargs
          obtain ⟨s1, r1, _⟩ := opE_sound st1.ent h1
          have hf : a.eval f = .func (.func kf) #[] #[] := r1
          obtain ⟨⟨fn, f1, f2, f3⟩, hcalls⟩ := mark_sound hK st1 hd he hr
          unfold Oper.wp
          have hargs : c.args.map a.eval = #[a.eval x, a.eval q] := by apply Array.ext'; simp [hargs]
          have run : (execOp a.eval o).run P w = .ok (.enter kf #[a.eval x, a.eval q]) w := by
            simp only [execOp, hop, resolve, hcal, hf, Deferred.ofValue, invoke, callFunc, Sem.run_bind, Sem.run_pure, Result.andThen_ok, run_program, f1]
            rw [if_neg (by simpa using f2), if_neg (by simp [f3])]
            simp [hargs]
          rw [run]
          simp only [Oper.upon]
          refine hcalls.mono ?_
          rintro e w' ⟨v, rfl, k2⟩
          exact ⟨g1, q1, k2⟩
        · cases he
      · cases he
    · rename_i t ad x hop
      split at he
      · rename_i ty e agg xs hdst h1 h2 h3
        split at he
        · rename_i env2 hst
          injection he with he; subst he
          simp only [StepRes.get, cond_true, Option.some.injEq] at hr; subst hr
          obtain ⟨g', w', z1, z2, z3⟩ := estore_sound (P := P) hT (hT _ _ h1) hwal1 st1 h2 h3 hst
          refine upon_skip (w' := w') ?_ ⟨g', z2.trans q1, ?_⟩
          · simp only [execOp, hop, Sem.run_bind, Sem.run_pure]
            rw [z1]; rfl
          · rw [hdst]; exact z3
        · cases he
      · cases he
    · cases he

theorem freezes_sound : ∀ {ms : List Nat} {env env' : Env} {g : Gh}, (∀ b, W b → g.al b) → St n w0 W g env.get a w → freezes ms env = some env' → ∃ g', g'.al = g.al ∧ St n w0 W g' env'.get a w
  | [], env, env', g, _, st, h => by injection h with h; subst h; exact ⟨g, rfl, st⟩
  | m :: r, env, env', g, hw, st, h => by
    simp only [freezes] at h
    cases hq : (Nat.beq m 0 || litTag m env) with
    | true => rw [hq] at h; cases h
    | false =>
      rw [hq] at h; simp only [cond_false] at h
      simp only [Bool.or_eq_false_iff] at hq
      have hm := nbeq_ne hq.1
      have st' := st.absorb hw hm hm hq.2
      obtain ⟨g', q1, q2⟩ := freezes_sound (g := g.absorb m m) hw st' h
      exact ⟨g', q1, q2⟩

theorem litArgs_sound : ∀ {xs : List Operand} {env : Env} {g : Gh}, (∀ b, W b → g.al b) → St n w0 W g env.get a w → ∃ g', g'.al = g.al ∧ St n w0 W g' (litArgs xs env).get a w
  | [], env, g, hw, st => ⟨g, rfl, st⟩
  | x :: r, env, g, hw, st => by
    obtain ⟨g1, q1, q2⟩ := litArg_sound (x := x) hw st
    obtain ⟨g2, q3, q4⟩ := litArgs_sound (xs := r) (fun b hb => by rw [q1]; exact hw b hb) q2
    exact ⟨g2, q3.trans q1, q4⟩

theorem stepE_sound {o : Oper} {env env' : Env} {r : StepRes} {Q : Exit → Act → World → Prop} (hT : TOK P T) (hK : KOK P K) (hwal : ∀ b, W b → g.al b) (st : St n w0 W g env.get a w) (he : stepE T K env o = some r) (hr : r.get = some env')
    (hd : ∀ d, o.dst = some d → n.has d) :
    Oper.wp P o a w (fun a' w' => ∃ g', g'.al = g.al ∧ St n w0 W g' env'.get a' w') Q := by
  unfold stepE at he
  split at he
  · rename_i r' hr'
    injection he with he; subst he
    exact step1_sound hT hK hwal st hr' hr hd
  · split at he
    · rename_i e he'
      unfold frzArgs at he'
      split at he'
      · rename_i c _
        split at he'
        · obtain ⟨g1, q1, q2⟩ := litArgs_sound (xs := c.args.toList) hwal st
          obtain ⟨g2, q3, q4⟩ := freezes_sound (g := g1) (fun b hb => by rw [q1]; exact hwal b hb) q2 he'
          have := step1_sound (Q := Q) hT hK (fun b hb => by rw [q3, q1]; exact hwal b hb) q4 he hr hd
          refine Oper.wp_mono (fun a' w' h => ?_) this
          obtain ⟨g', z1, z2⟩ := h
          exact ⟨g', z1.trans (q3.trans q1), z2⟩
        · cases he'
      · cases he'
    · cases he

end
end Go.Proofs.YtkoifikjfnbcpaaEv
