/- A region whose order the tape tells: what is known where its operations are gone through in the text's order. -/
import Derived.Test.YtkoifikjfnbcpaaEvDrawB
set_option linter.unusedVariables false
set_option linter.unusedSimpArgs false
namespace Go.Proofs.YtkoifikjfnbcpaaEv
open Go Go.RowKit

/-- The operations that must be done ahead of one. -/
def aftB (o : Oper) : List Nat := (o.after.toList.filter (Region.binds .any)).map (·.on)
def preMask (done : List Nat) : List Nat → Nat
  | [] => 0
  | j :: r => preMask done r ||| (1 <<< j ||| done.getD j 0)
def presL : List Oper → List Nat → List Nat
  | [], done => done
  | o :: r, done => presL r (done ++ [preMask done (aftB o)])

def dIdx : List Nat → Nat → Option Nat
  | [], _ => none
  | d :: r, s => bif Nat.beq d s then some 0 else (match dIdx r s with | some x => some (x + 1) | none => none)

def gslot (L : List Oper) (o : Oper) : List Nat :=
  match o.guard with
  | some (j, _) => (match L[j]? with | some oj => oj.dst.toList | none => [])
  | none => []

def prefK {α : Type} (T : TTab) (K : CTab) (L : List Oper) : List Oper → Env → List Nat → List Ent → List (List Nat) → (Env → List Nat → List Ent → List (List Nat) → Option α) → Option α
  | [], env, D, es, rds, k => k env D es rds
  | o :: r, env, D, es, rds, k => (match o.dst with
    | none => none
    | some d => bif memN D d then none else guardK L env o fun env1 wanted =>
      bif wanted then (match evOp T K env1.get o with
        | some (.ok c ups) => (match ups with
          | [(d', e)] => bif Nat.beq d' d then (bif c then prefK T K L r (env1.put d e) (D ++ [d]) (es ++ [e]) (rds ++ [gslot L o ++ readsOf env1.get o]) k else none) else none
          | _ => none)
        | some (.callr _ x mk) => (match x with
          | some y => (match mk y with
            | [(d', e)] => bif Nat.beq d' d then prefK T K L r (env1.put d e) (D ++ [d]) (es ++ [e]) (rds ++ [gslot L o ++ readsOf env1.get o]) k else none
            | _ => none)
          | none => none)
        | none => none)
      else prefK T K L r (env1.put d (.tup [])) (D ++ [d]) (es ++ [.tup []]) (rds ++ [gslot L o ++ readsOf env1.get o]) k)

def splitM : List Nat → Nat → Nat
  | [], n => n
  | p :: r, n => bif Nat.beq p (2 ^ (n - 1) - 1) then splitM r (n - 1) else n
def edgesOk : List Oper → Nat → Bool
  | [], _ => true
  | o :: r, i => (aftB o).all (fun j => Nat.blt j i) && edgesOk r (i + 1)
def tailOk : List Nat → Nat → Nat → Bool
  | [], _, _ => true
  | p :: r, m, i => (Nat.blt i m || Nat.beq p (2 ^ i - 1)) && tailOk r m (i + 1)
def readsOk (D pres : List Nat) : List (List Nat) → Nat → Bool
  | [], _ => true
  | rd :: r, j => (rd.all fun s => match dIdx D s with | none => true | some x => Nat.blt x j && (pres.getD j 0).testBit x) && readsOk D pres r (j + 1)
def notAt (pres : List Nat) (d j : Nat) : List Ent → Nat → Bool
  | [], _ => true
  | e :: r, i => (Nat.beq i j || (pres.getD i 0).testBit j || !(e.at d)) && notAt pres d j r (i + 1)
def atOk (pres : List Nat) (es : List Ent) : List Oper → Nat → Bool
  | [], _ => true
  | o :: r, j => (match o.dst with | some d => !(creates o) || notAt pres d j es 0 | none => true) && atOk pres es r (j + 1)
def killC : List Oper → Env → Env
  | [], env => env
  | o :: r, env => (match o.dst with
    | some d => bif creates o then killC r (env.map (killAt d)) else killC r env
    | none => killC r env)
def drawAt {α : Type} (T : TTab) (K : CTab) (L : List Oper) (pres : List Nat) (m : Nat) (env : Env) (k : Env → Option α) : Option α :=
  bif edgesOk L 0 && tailOk pres m 0 then
    prefK T K L (L.take m) (killC (L.take m) env) [] [] [] fun env1 D es rds =>
      bif readsOk D pres rds 0 && atOk pres es (L.take m) 0 then seqK T K L (List.range' m (L.length - m)) env1 k else none
  else none
def drawK {α : Type} (T : TTab) (K : CTab) (L : List Oper) (env : Env) (k : Env → Option α) : Option α :=
  drawAt T K L (presL L []) (splitM (presL L []).reverse L.length) env k

/-! ### the operations ahead -/

theorem presL_len : ∀ (L : List Oper) (done : List Nat), ∃ t, presL L done = done ++ t ∧ t.length = L.length
  | [], done => ⟨[], by simp [presL]⟩
  | o :: r, done => by
    obtain ⟨t, h1, h2⟩ := presL_len r (done ++ [preMask done (aftB o)])
    exact ⟨preMask done (aftB o) :: t, by simp [presL, h1], by simp [h2]⟩
theorem presL_get : ∀ (L : List Oper) (done : List Nat) (i : Nat) (o : Oper), L[i]? = some o → (presL L done).getD (done.length + i) 0 = preMask ((presL L done).take (done.length + i)) (aftB o)
  | [], done, i, o, h => by cases h
  | x :: r, done, 0, o, h => by
    simp only [List.getElem?_cons_zero, Option.some.injEq] at h; subst h
    obtain ⟨t, h1, h2⟩ := presL_len r (done ++ [preMask done (aftB x)])
    simp only [presL, h1, Nat.add_zero]
    rw [List.getD_eq_getElem?_getD]
    simp
  | x :: r, done, i + 1, o, h => by
    have := presL_get r (done ++ [preMask done (aftB x)]) i o (by simpa using h)
    simp only [List.length_append, List.length_singleton] at this
    rw [show done.length + (i + 1) = done.length + 1 + i by omega]
    exact this

theorem preMask_bit {done : List Nat} : ∀ {l : List Nat} {x : Nat}, (preMask done l).testBit x = true → ∃ j ∈ l, x = j ∨ (done.getD j 0).testBit x = true
  | [], x, h => by simp [preMask] at h
  | j :: r, x, h => by
    simp only [preMask, Nat.testBit_or, Bool.or_eq_true] at h
    rcases h with h | h | h
    · obtain ⟨j', h1, h2⟩ := preMask_bit h; exact ⟨j', by simp [h1], h2⟩
    · rw [Nat.one_shiftLeft, Nat.testBit_two_pow] at h
      exact ⟨j, by simp, .inl (by simpa using (of_decide_eq_true h).symm)⟩
    · exact ⟨j, by simp, .inr h⟩

theorem pre_sub {L : List Oper} {S : Nat → Prop} (hS : ∀ (i : Nat) (o : Oper), L[i]? = some o → S i → ∀ j ∈ aftB o, S j) : ∀ (i : Nat) (o : Oper), L[i]? = some o → (∀ j ∈ aftB o, S j) → ∀ x, ((presL L []).getD i 0).testBit x = true → S x := by
  intro i
  induction i using Nat.strongRecOn with
  | _ i ih =>
    intro o ho hj x hx
    have e := presL_get L [] i o ho
    simp only [List.length_nil, Nat.zero_add] at e
    rw [e] at hx
    obtain ⟨j, h1, h2⟩ := preMask_bit hx
    rcases h2 with rfl | h2
    · exact hj x h1
    · rcases Nat.lt_or_ge j i with hlt | hge
      · have e2 : ((presL L []).take i).getD j 0 = (presL L []).getD j 0 := by
          rw [List.getD_eq_getElem?_getD, List.getD_eq_getElem?_getD, List.getElem?_take_of_lt hlt]
        rw [e2] at h2
        have hl : j < L.length := by
          have : i < L.length := by
            rcases Nat.lt_or_ge i L.length with q | q
            · exact q
            · rw [List.getElem?_eq_none q] at ho; cases ho
          omega
        exact ih j hlt L[j] (List.getElem?_eq_getElem hl) (hS j L[j] (List.getElem?_eq_getElem hl) (hj j h1)) x h2
      · rw [List.getD_eq_getElem?_getD, List.getElem?_eq_none (by simp; omega)] at h2
        simp at h2

/-! ### what stands in the slots -/

def mixR (get0 : Nat → Ent) (D : List Nat) (es : List Ent) (f : Nat → Bool) (s : Nat) : Ent :=
  match dIdx D s with
  | some x => bif f x then es.getD x .dead else get0 s
  | none => get0 s

theorem dIdx_some : ∀ {D : List Nat} {s x : Nat}, dIdx D s = some x → D[x]? = some s
  | [], _, _, h => by cases h
  | d :: r, s, x, h => by
    simp only [dIdx] at h
    cases hq : Nat.beq d s with
    | true => rw [hq] at h; injection h with h; subst h; simp [Nat.eq_of_beq_eq_true hq]
    | false =>
      rw [hq] at h; simp only [cond_false] at h
      split at h
      · rename_i x' hx; injection h with h; subst h
        simpa using dIdx_some hx
      · cases h
theorem dIdx_lt {D : List Nat} {s x : Nat} (h : dIdx D s = some x) : x < D.length := by
  rcases Nat.lt_or_ge x D.length with q | q
  · exact q
  · have := dIdx_some h; rw [List.getElem?_eq_none q] at this; cases this
theorem dIdx_append : ∀ (D t : List Nat) (s : Nat), dIdx (D ++ t) s = match dIdx D s with | some x => some x | none => (dIdx t s).map (· + D.length)
  | [], t, s => by
    simp only [List.nil_append, dIdx, List.length_nil, Nat.add_zero]
    cases dIdx t s <;> rfl
  | d :: r, t, s => by
    simp only [List.cons_append, dIdx]
    cases hq : Nat.beq d s with
    | true => rfl
    | false =>
      simp only [cond_false]
      rw [dIdx_append r t s]
      cases dIdx r s with
      | some x => rfl
      | none =>
        simp only
        cases dIdx t s with
        | none => rfl
        | some x => simp only [Option.map_some, List.length_cons]; congr 1
theorem dIdx_none : ∀ {D : List Nat} {d : Nat}, memN D d = false → dIdx D d = none
  | [], _, _ => rfl
  | x :: r, d, h => by
    simp only [memN, Bool.or_eq_false_iff] at h
    simp only [dIdx, h.1, cond_false, dIdx_none h.2]

theorem mixR_stable {get0 : Nat → Ent} {D t : List Nat} {es t' : List Ent} {i : Nat} (hl : es.length = D.length) (hi : i ≤ D.length) :
    mixR get0 (D ++ t) (es ++ t') (fun x => decide (x < i)) = mixR get0 D es (fun x => decide (x < i)) := by
  funext s
  unfold mixR
  rw [dIdx_append]
  cases hd : dIdx D s with
  | some x =>
    simp only
    have := dIdx_lt hd
    rw [List.getD_eq_getElem?_getD, List.getElem?_append_left (by omega), ← List.getD_eq_getElem?_getD]
  | none =>
    simp only
    cases dIdx t s with
    | none => rfl
    | some x =>
      simp only [Option.map_some]
      rw [decide_eq_false (by omega)]; rfl

theorem mixR_put {get0 : Nat → Ent} {D : List Nat} {es : List Ent} {d : Nat} {e : Ent} (hl : es.length = D.length) (hd : memN D d = false) :
    upd (mixR get0 D es (fun x => decide (x < D.length))) d e = mixR get0 (D ++ [d]) (es ++ [e]) (fun x => decide (x < (D ++ [d]).length)) := by
  funext s
  unfold mixR upd
  rw [dIdx_append]
  by_cases h : s = d
  · subst h
    rw [if_pos rfl, dIdx_none hd]
    simp only [dIdx, Nat.beq_refl, cond_true, Option.map_some, Nat.zero_add]
    rw [decide_eq_true (by simp), cond_true, List.getD_eq_getElem?_getD, List.getElem?_append_right (by omega), hl]
    simp
  · rw [if_neg h]
    cases hx : dIdx D s with
    | some x =>
      have := dIdx_lt hx
      simp only [hx]
      rw [decide_eq_true this, decide_eq_true (by simp; omega)]
      simp only [cond_true]
      rw [List.getD_eq_getElem?_getD, List.getD_eq_getElem?_getD, List.getElem?_append_left (by omega)]
    | none => simp only [hx, dIdx, nbeq_f (fun q => h q.symm), cond_false, Option.map_none]

/-! ### the prefix in the text's order -/

def WantedIn (L : List Oper) (get : Nat → Ent) (o : Oper) (wanted : Bool) : Prop :=
  o.guard = none ∧ wanted = true ∨ (∃ j want oj dj b, o.guard = some (j, want) ∧ L[j]? = some oj ∧ oj.dst = some dj ∧ get dj = .val false [.fz .bool 0 false b] ∧ wanted = (b == want)) ∨ ∃ j want oj dj, o.guard = some (j, want) ∧ L[j]? = some oj ∧ oj.dst = some dj ∧ get dj = .tup [] ∧ wanted = false

structure Fact (T : TTab) (K : CTab) (L : List Oper) (get0 : Nat → Ent) (D : List Nat) (es : List Ent) (rds : List (List Nat)) (i : Nat) (o : Oper) : Prop where
  ex : ∃ d e rd wanted, o.dst = some d ∧ D[i]? = some d ∧ dIdx D d = some i ∧ es[i]? = some e ∧ rds[i]? = some rd ∧ rd = gslot L o ++ readsOf (mixR get0 D es (fun x => decide (x < i))) o ∧
    WantedIn L (mixR get0 D es (fun x => decide (x < i))) o wanted ∧ (wanted = true → ∃ r, evOp T K (mixR get0 D es (fun x => decide (x < i))) o = some r ∧ r.get = some [(d, e)]) ∧ (wanted = false → e = .tup [])

section
variable {α : Type} {P : Program} {T : TTab} {K : CTab} {L : List Oper}

theorem guardK_pure {env : Env} {o : Oper} {k : Env → Bool → Option α} {y : α} (h : guardK L env o k = some y) :
    ∃ wanted env1, k env1 wanted = some y ∧ env1.get = env.get ∧ WantedIn L env.get o wanted := by
  unfold guardK at h
  split at h
  · rename_i hg; exact ⟨true, env, h, rfl, .inl ⟨hg, rfl⟩⟩
  · rename_i j want hg
    split at h
    · rename_i oj hj
      split at h
      · rename_i dj hdj
        split at h
        · rename_i b hget
          cases b with
          | true => exact ⟨want, _, h, put_eq hget, .inr (.inl ⟨j, want, oj, dj, true, hg, hj, hdj, hget, by cases want <;> rfl⟩)⟩
          | false => exact ⟨!want, _, h, put_eq hget, .inr (.inl ⟨j, want, oj, dj, false, hg, hj, hdj, hget, by cases want <;> rfl⟩)⟩
        · rename_i hget
          exact ⟨false, env, h, rfl, .inr (.inr ⟨j, want, oj, dj, hg, hj, hdj, hget, rfl⟩)⟩
        · cases h
      · cases h
    · cases h

theorem prefK_inv {get0 : Nat → Ent} : ∀ {ops : List Oper} {env : Env} {D : List Nat} {es : List Ent} {rds : List (List Nat)} {k : Env → List Nat → List Ent → List (List Nat) → Option α} {y : α},
    prefK T K L ops env D es rds k = some y → env.get = mixR get0 D es (fun x => decide (x < D.length)) → es.length = D.length → rds.length = D.length →
    ∃ env' D' es' rds', k env' D' es' rds' = some y ∧ (∃ t, D' = D ++ t) ∧ (∃ t, es' = es ++ t) ∧ (∃ t, rds' = rds ++ t) ∧ D'.length = D.length + ops.length ∧ es'.length = D'.length ∧ rds'.length = D'.length ∧
      env'.get = mixR get0 D' es' (fun x => decide (x < D'.length)) ∧ ∀ (i : Nat) (o : Oper), ops[i]? = some o → Fact T K L get0 D' es' rds' (D.length + i) o
  | [], env, D, es, rds, k, y, h, hE, h1, h2 => ⟨env, D, es, rds, h, ⟨[], by simp⟩, ⟨[], by simp⟩, ⟨[], by simp⟩, by simp, h1, h2, hE, fun i o ho => by cases ho⟩
  | o :: r, env, D, es, rds, k, y, h, hE, h1, h2 => by
    simp only [prefK] at h
    split at h
    · cases h
    · rename_i d hd
      cases hm : memN D d with
      | true => rw [hm] at h; cases h
      | false =>
        rw [hm] at h; simp only [cond_false] at h
        obtain ⟨wanted, env1, q1, q2, q3⟩ := guardK_pure h
        have go : ∀ (e : Ent), prefK T K L r (env1.put d e) (D ++ [d]) (es ++ [e]) (rds ++ [gslot L o ++ readsOf env1.get o]) k = some y → (wanted = true → ∃ r, evOp T K env1.get o = some r ∧ r.get = some [(d, e)]) → (wanted = false → e = .tup []) →
            ∃ env' D' es' rds', k env' D' es' rds' = some y ∧ (∃ t, D' = D ++ t) ∧ (∃ t, es' = es ++ t) ∧ (∃ t, rds' = rds ++ t) ∧ D'.length = D.length + (o :: r).length ∧ es'.length = D'.length ∧ rds'.length = D'.length ∧
              env'.get = mixR get0 D' es' (fun x => decide (x < D'.length)) ∧ ∀ (i : Nat) (o' : Oper), (o :: r)[i]? = some o' → Fact T K L get0 D' es' rds' (D.length + i) o' := by
          intro e hp hw hn
          have hE' : (env1.put d e).get = mixR get0 (D ++ [d]) (es ++ [e]) (fun x => decide (x < (D ++ [d]).length)) := by
            rw [← mixR_put h1 hm, ← hE, ← q2]
            funext s; rw [Env.get_put]; rfl
          obtain ⟨env', D', es', rds', z1, ⟨t1, z2⟩, ⟨t2, z3⟩, ⟨t3, z4⟩, z5, z6, z7, z8, z9⟩ := prefK_inv hp hE' (by simp [h1]) (by simp [h2])
          refine ⟨env', D', es', rds', z1, ⟨[d] ++ t1, by rw [z2]; simp⟩, ⟨[e] ++ t2, by rw [z3]; simp⟩, ⟨[gslot L o ++ readsOf env1.get o] ++ t3, by rw [z4]; simp⟩, by rw [z5]; simp; omega, z6, z7, z8, fun i o' ho' => ?_⟩
          cases i with
          | zero =>
            simp only [List.getElem?_cons_zero, Option.some.injEq] at ho'; subst ho'
            have hgi : mixR get0 D' es' (fun x => decide (x < D.length + 0)) = env1.get := by
              rw [Nat.add_zero, z2, z3, List.append_assoc D, List.append_assoc es, mixR_stable h1 (Nat.le_refl _), q2, hE]
            refine ⟨d, e, gslot L o ++ readsOf env1.get o, wanted, hd, by rw [z2]; simp, ?_, by rw [z3, ← h1]; simp, by rw [z4, ← h2]; simp, by rw [hgi], by rw [hgi, q2]; exact q3, fun hh => by rw [hgi]; exact hw hh, hn⟩
            rw [z2, List.append_assoc, dIdx_append, dIdx_none hm]
            simp [dIdx]
          | succ i =>
            have := z9 i o' (by simpa using ho')
            simp only [List.length_append, List.length_singleton] at this
            rw [show D.length + (i + 1) = D.length + 1 + i by omega]; exact this
        cases wanted with
        | true =>
          simp only [cond_true] at q1
          split at q1
          · rename_i c ups hev
            split at q1
            · rename_i d' e
              cases hdd : Nat.beq d' d with
              | false => rw [hdd] at q1; cases q1
              | true =>
                rw [hdd] at q1; simp only [cond_true] at q1
                have := Nat.eq_of_beq_eq_true hdd; subst this
                cases c with
                | false => cases q1
                | true => exact go e q1 (fun _ => ⟨_, hev, rfl⟩) (fun q => by cases q)
            · cases q1
          · rename_i rs x mk hev
            split at q1
            · rename_i yy
              split at q1
              · rename_i d' e hmk
                cases hdd : Nat.beq d' d with
                | false => rw [hdd] at q1; cases q1
                | true =>
                  rw [hdd] at q1; simp only [cond_true] at q1
                  have := Nat.eq_of_beq_eq_true hdd; subst this
                  exact go e q1 (fun _ => ⟨_, hev, by simp only [OpRes.get, hmk]⟩) (fun q => by cases q)
              · cases q1
            · cases q1
          · cases q1
        | false =>
          simp only [cond_false] at q1
          exact go (.tup []) q1 (fun q => by cases q) (fun _ => rfl)

end
end Go.Proofs.YtkoifikjfnbcpaaEv
