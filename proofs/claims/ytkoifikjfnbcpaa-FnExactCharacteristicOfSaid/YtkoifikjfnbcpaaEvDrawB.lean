/- The operations of a region, one behind the other. -/
import Derived.Test.YtkoifikjfnbcpaaEvDrawA
set_option linter.unusedVariables false
set_option linter.unusedSimpArgs false
namespace Go.Proofs.YtkoifikjfnbcpaaEv
open Go Go.RowKit

def opK {α : Type} (T : TTab) (K : CTab) (env : Env) (o : Oper) (k : Env → Option α) : Option α :=
  match stepE T K env o with
  | some (.ok c env') => bif c then k env' else none
  | some (.callr _ x mk) => (match x with | some r => k (mk r) | none => none)
  | none => none

def deadE (env : Env) (o : Oper) : Env :=
  match o.dst with
  | some d => env.put d (.tup [])
  | none => env

def guardK {α : Type} (L : List Oper) (env : Env) (o : Oper) (k : Env → Bool → Option α) : Option α :=
  match o.guard with
  | none => k env true
  | some (j, want) => (match L[j]? with
    | some oj => (match oj.dst with
      | some dj => (match env.get dj with
        | .val false [.fz .bool 0 false b] => bif b then k (env.put dj (boolE true)) want else k (env.put dj (boolE false)) (!want)
        | .tup [] => k env false
        | _ => none)
      | none => none)
    | none => none)

def seqK {α : Type} (T : TTab) (K : CTab) (L : List Oper) : List Nat → Env → (Env → Option α) → Option α
  | [], env, k => k env
  | i :: is, env, k => (match L[i]? with
    | none => seqK T K L is env k
    | some o => guardK L env o fun env1 wanted => bif wanted then opK T K env1 o (fun e => seqK T K L is e k) else seqK T K L is (deadE env1 o) k)

section
variable {α : Type} {P : Program} {T : TTab} {K : CTab} {n : NS} {w0 w : World} {W : Nat → Prop} {g : Gh} {get : Nat → Ent} {a : Act} {d : Nat} {L : List Oper} {A : Nat → Prop}

theorem opK_inv {env : Env} {o : Oper} {k : Env → Option α} {y : α} (h : opK T K env o k = some y) : ∃ r env', stepE T K env o = some r ∧ r.get = some env' ∧ k env' = some y := by
  unfold opK at h
  split at h
  · rename_i c env' hs
    cases c with
    | false => cases h
    | true => exact ⟨_, env', hs, rfl, h⟩
  · rename_i rs x mk hs
    cases x with
    | none => cases h
    | some r => exact ⟨_, mk r, hs, rfl, h⟩
  · cases h

theorem put_eq {env : Env} {s : Nat} {e : Ent} (h : env.get s = e) : (env.put s e).get = env.get := by
  funext s'
  rw [Env.get_put]
  by_cases q : s' = s
  · rw [if_pos q, q, h]
  · rw [if_neg q]

theorem bool_at {h : Mem} {s : Nat} {b : Bool} {v : Value} (he : EntR g h s (.val false [.fz .bool 0 false b]) v) : v = .bool b := by
  obtain ⟨bs, hl, _⟩ := val1 he
  obtain ⟨⟨h1, _⟩, _⟩ := hl
  injection h1

theorem yielded_undef {h : Mem} {j dj : Nat} {oj : Oper} (hj : L[j]? = some oj) (hdj : oj.dst = some dj) (he : EntR g h dj (.tup []) (a.tmps.getD dj undef)) : yielded L.toArray a.tmps j = none := by
  obtain ⟨vs, h1, h2⟩ := he
  simp only [yielded, List.getElem?_toArray, hj, Option.bind_some, hdj]
  rw [Array.getD_eq_getD_getElem?] at h1
  cases hq : a.tmps[dj]? with
  | none => rfl
  | some v =>
    rw [hq] at h1
    have h1 : v = .tuple vs := h1
    rw [h1]

theorem guardK_inv {env : Env} {o : Oper} {k : Env → Bool → Option α} {y : α} (st : St n w0 W g env.get a w) (h : guardK L env o k = some y) :
    ∃ wanted env1, k env1 wanted = some y ∧ env1.get = env.get ∧ Region.wanted o (yielded L.toArray a.tmps) = wanted ∧
      (o.guard = none ∧ wanted = true ∨ (∃ j want oj dj b, o.guard = some (j, want) ∧ L[j]? = some oj ∧ oj.dst = some dj ∧ env.get dj = .val false [.fz .bool 0 false b] ∧ wanted = (b == want)) ∨ ∃ j want oj dj, o.guard = some (j, want) ∧ L[j]? = some oj ∧ oj.dst = some dj ∧ env.get dj = .tup [] ∧ wanted = false) := by
  unfold guardK at h
  split at h
  · rename_i hg; exact ⟨true, env, h, rfl, by simp [Region.wanted, hg], .inl ⟨hg, rfl⟩⟩
  · rename_i j want hg
    split at h
    · rename_i oj hj
      split at h
      · rename_i dj hdj
        split at h
        · rename_i b hget
          have hv := st.ent dj; rw [hget] at hv
          have hv := bool_at hv
          have hy : yielded L.toArray a.tmps j = some b := by
            have hlt : dj < a.tmps.size := by
              rcases Nat.lt_or_ge dj a.tmps.size with q | q
              · exact q
              · rw [Array.getD_eq_getD_getElem?, Array.getElem?_eq_none q] at hv; cases hv
            have h2 : a.tmps[dj]? = some (.bool b) := by
              rw [Array.getD_eq_getD_getElem?, Array.getElem?_eq_getElem hlt] at hv
              rw [Array.getElem?_eq_getElem hlt]; congr 1
            simp only [yielded, List.getElem?_toArray, hj, Option.bind_some, hdj, h2]
          have hw : Region.wanted o (yielded L.toArray a.tmps) = (b == want) := by
            simp only [Region.wanted, hg, hy]
            cases b <;> cases want <;> rfl
          cases b with
          | true =>
            refine ⟨want, _, h, put_eq hget, by rw [hw]; cases want <;> rfl, .inr (.inl ⟨j, want, oj, dj, true, hg, hj, hdj, hget, by cases want <;> rfl⟩)⟩
          | false =>
            refine ⟨!want, _, h, put_eq hget, by rw [hw]; cases want <;> rfl, .inr (.inl ⟨j, want, oj, dj, false, hg, hj, hdj, hget, by cases want <;> rfl⟩)⟩
        · rename_i hget
          have hv := st.ent dj; rw [hget] at hv
          refine ⟨false, env, h, rfl, ?_, .inr (.inr ⟨j, want, oj, dj, hg, hj, hdj, hget, rfl⟩)⟩
          simp only [Region.wanted, hg, yielded_undef hj hdj hv]
          rfl
        · cases h
      · cases h
    · cases h

theorem St.get_eq {env env' : Nat → Ent} (st : St n w0 W g env a w) (h : env' = env) : St n w0 W g env' a w := by rw [h]; exact st

/-- An operation that is not wanted. -/
theorem St.undef {o : Oper} {env : Nat → Ent} (st : St n w0 W g env a w) (hd : ∀ d, o.dst = some d → n.has d) : St n w0 W g (match o.dst with | some d => upd env d (.tup []) | none => env) (a.put o.dst undef) w := by
  cases ho : o.dst with
  | none => exact st
  | some d =>
    have hdn := hd d ho
    refine ⟨st.inv, fun s => ?_, st.szPut hdn, by simp [Act.put, st.df], st.os, st.tape, st.output⟩
    rw [put_getD (by rw [st.sz.1]; exact hdn.1)]
    simp only [upd]
    by_cases h : s = d
    · simp only [if_pos h]; exact ⟨#[], rfl, rfl⟩
    · simp only [if_neg h]; exact st.ent s

theorem deadE_get {env : Env} {o : Oper} : (deadE env o).get = (match o.dst with | some d => upd env.get d (.tup []) | none => env.get) := by
  unfold deadE
  cases o.dst with
  | none => rfl
  | some d => funext s; simp only [Env.get_put, upd]

theorem seqK_sound {Q : Exit → Act → World → Prop} (hT : TOK P T) (hK : KOK P K) (hwal : ∀ b, W b → A b) (hd : ∀ (i : Nat) (o : Oper), L[i]? = some o → ∀ d, o.dst = some d → n.has d) : ∀ {is : List Nat} {env : Env} {k : Env → Option α} {y : α} {a : Act} {w : World} {g : Gh},
    seqK T K L is env k = some y → St n w0 W g env.get a w → g.al = A → (∀ env' a' w' g', k env' = some y → St n w0 W g' env'.get a' w' → g'.al = A → Q .normal a' w') → wpOps P L.toArray Q is a w
  | [], env, k, y, a, w, g, h, st, hA, hk => by
    simp only [wpOps]; exact hk env a w g h st hA
  | i :: is, env, k, y, a, w, g, h, st, hA, hk => by
    simp only [wpOps, List.getElem?_toArray]
    simp only [seqK] at h
    cases hi : L[i]? with
    | none => rw [hi] at h; simp only at h ⊢; exact seqK_sound hT hK hwal hd h st hA hk
    | some o =>
      rw [hi] at h; simp only at h ⊢
      obtain ⟨wanted, env1, h1, h2, h3, _⟩ := guardK_inv st h
      have st1 := st.get_eq h2
      rw [h3]
      cases wanted with
      | true =>
        simp only [cond_true] at h1
        simp only [if_true]
        left
        obtain ⟨r, env', q1, q2, q3⟩ := opK_inv h1
        have := stepE_sound (Q := Q) hT hK (fun b hb => by rw [hA]; exact hwal b hb) st1 q1 q2 (hd i o hi)
        refine Oper.wp_mono (fun a' w' hh => ?_) this
        obtain ⟨g', z1, z2⟩ := hh
        exact seqK_sound hT hK hwal hd q3 z2 (z1.trans hA) hk
      | false =>
        simp only [cond_false] at h1
        simp only [Bool.false_eq_true, if_false]
        have := st1.undef (hd i o hi)
        exact seqK_sound hT hK hwal hd h1 (this.get_eq deadE_get) hA hk

end
end Go.Proofs.YtkoifikjfnbcpaaEv
