/- A region whose order the tape tells, as a whole. -/
import Derived.Test.YtkoifikjfnbcpaaEvDrawD
set_option linter.unusedVariables false
set_option linter.unusedSimpArgs false
namespace Go.Proofs.YtkoifikjfnbcpaaEv
open Go Go.RowKit

section
variable {α : Type} {P : Program} {T : TTab} {K : CTab} {n : NS} {w0 : World} {W : Nat → Prop} {L : List Oper} {A : Nat → Prop}

theorem edgesOk_spec : ∀ {L : List Oper} {i : Nat}, edgesOk L i = true → ∀ (x : Nat) (o : Oper), L[x]? = some o → ∀ j ∈ aftB o, j < i + x
  | [], _, _, x, o, h => by cases h
  | p :: r, i, hh, x, o, h => by
    simp only [edgesOk, Bool.and_eq_true, List.all_eq_true] at hh
    cases x with
    | zero =>
      simp only [List.getElem?_cons_zero, Option.some.injEq] at h; subst h
      intro j hj; have := hh.1 j hj; simp at this; omega
    | succ x =>
      intro j hj
      have := edgesOk_spec hh.2 x o (by simpa using h) j hj
      omega
theorem tailOk_spec : ∀ {pres : List Nat} {m i : Nat}, tailOk pres m i = true → ∀ x, x < pres.length → m ≤ i + x → pres.getD x 0 = 2 ^ (i + x) - 1
  | [], _, _, _, x, h, _ => by simp at h
  | p :: r, m, i, hh, x, h, hm => by
    simp only [tailOk, Bool.and_eq_true, Bool.or_eq_true] at hh
    cases x with
    | zero =>
      rcases hh.1 with q | q
      · have : i < m := by simpa using q
        omega
      · have := Nat.eq_of_beq_eq_true q; simpa using this
    | succ x =>
      have := tailOk_spec hh.2 x (by simpa using h) (by omega)
      rw [show i + (x + 1) = i + 1 + x by omega]
      simpa using this
theorem readsOk_spec {D pres : List Nat} : ∀ {rds : List (List Nat)} {i : Nat}, readsOk D pres rds i = true → ∀ (j : Nat) (rd : List Nat), rds[j]? = some rd → ∀ s ∈ rd, ∀ x, dIdx D s = some x → x < i + j ∧ (pres.getD (i + j) 0).testBit x = true
  | [], _, _, j, rd, h => by cases h
  | p :: r, i, hh, j, rd, h => by
    simp only [readsOk, Bool.and_eq_true, List.all_eq_true] at hh
    cases j with
    | zero =>
      simp only [List.getElem?_cons_zero, Option.some.injEq] at h; subst h
      intro s hs x hx
      have := hh.1 s hs
      rw [hx] at this
      simpa using this
    | succ j =>
      intro s hs x hx
      have := readsOk_spec hh.2 j rd (by simpa using h) s hs x hx
      rw [show i + (j + 1) = i + 1 + j by omega]; exact this
theorem notAt_spec {pres : List Nat} {d j : Nat} : ∀ {es : List Ent} {i : Nat}, notAt pres d j es i = true → ∀ (x : Nat) (e : Ent), es[x]? = some e → i + x ≠ j → (pres.getD (i + x) 0).testBit j = false → e.at d = false
  | [], _, _, x, e, h, _, _ => by cases h
  | p :: r, i, hh, x, e, h, h1, h2 => by
    simp only [notAt, Bool.and_eq_true, Bool.or_eq_true] at hh
    cases x with
    | zero =>
      simp only [List.getElem?_cons_zero, Option.some.injEq] at h; subst h
      rcases hh.1 with (q | q) | q
      · exact absurd (Nat.eq_of_beq_eq_true q) h1
      · rw [show i + 0 = i from rfl] at h2; rw [h2] at q; cases q
      · simpa using q
    | succ x =>
      refine notAt_spec hh.2 x e (by simpa using h) (by omega) ?_
      rw [show i + 1 + x = i + (x + 1) by omega]; exact h2
theorem atOk_spec {pres : List Nat} {es : List Ent} : ∀ {L : List Oper} {i : Nat}, atOk pres es L i = true → ∀ (j : Nat) (o : Oper) (d : Nat), L[j]? = some o → o.dst = some d → creates o = true → notAt pres d (i + j) es 0 = true
  | [], _, _, j, o, d, h, _, _ => by cases h
  | p :: r, i, hh, j, o, d, h, h1, h2 => by
    simp only [atOk, Bool.and_eq_true] at hh
    cases j with
    | zero =>
      simp only [List.getElem?_cons_zero, Option.some.injEq] at h; subst h
      have := hh.1
      rw [h1] at this
      simp only [h2, Bool.not_true, Bool.false_or] at this
      exact this
    | succ j =>
      have := atOk_spec hh.2 j o d (by simpa using h) h1 h2
      rw [show i + (j + 1) = i + 1 + j by omega]; exact this

theorem at_kill {e : Ent} {d d' : Nat} (h : e.at d = false) : (killAt d' e).at d = false := by
  unfold killAt
  cases e.at d' with
  | true => rfl
  | false => exact h

theorem killC_keep {d : Nat} : ∀ {L : List Oper} {env : Env}, (∀ s, (env.get s).at d = false) → ∀ s, ((killC L env).get s).at d = false
  | [], env, h, s => h s
  | o :: r, env, h, s => by
    simp only [killC]
    cases o.dst with
    | none => exact killC_keep h s
    | some d' =>
      simp only
      cases creates o with
      | false => exact killC_keep h s
      | true => exact killC_keep (fun s => by rw [Env.get_map _ rfl]; exact at_kill (h s)) s
theorem killC_clean : ∀ {L : List Oper} {env : Env} (j : Nat) (o : Oper) (d : Nat), L[j]? = some o → o.dst = some d → creates o = true → ∀ s, ((killC L env).get s).at d = false
  | [], env, j, o, d, h, _, _ => by cases h
  | p :: r, env, j, o, d, h, h1, h2 => by
    intro s
    cases j with
    | zero =>
      simp only [List.getElem?_cons_zero, Option.some.injEq] at h; subst h
      simp only [killC, h1, h2, cond_true]
      exact killC_keep (fun s => by rw [Env.get_map _ rfl]; exact killAt_clean d _) s
    | succ j =>
      simp only [killC]
      cases p.dst with
      | none => exact killC_clean j o d (by simpa using h) h1 h2 s
      | some d' =>
        simp only
        cases creates p with
        | false => exact killC_clean j o d (by simpa using h) h1 h2 s
        | true => exact killC_clean j o d (by simpa using h) h1 h2 s
theorem killC_St : ∀ {L : List Oper} {env : Env} {a : Act} {w : World} {g : Gh}, St n w0 W g env.get a w → St n w0 W g (killC L env).get a w
  | [], env, a, w, g, st => st
  | o :: r, env, a, w, g, st => by
    simp only [killC]
    cases o.dst with
    | none => exact killC_St st
    | some d =>
      simp only
      cases creates o with
      | false => exact killC_St st
      | true =>
        refine killC_St (st.kill fun s => ?_)
        rw [Env.get_map _ rfl]
        unfold killAt
        cases (env.get s).at d with
        | true => exact .inr rfl
        | false => exact .inl rfl

theorem drawAt_sound {Q : Exit → Act → World → Prop} {id m : Nat} {env : Env} {k : Env → Option α} {y : α} {a : Act} {w : World} {g : Gh} (hm : P.follows .mixedOrders = true) (hT : TOK P T) (hK : KOK P K) (hwal : ∀ b, W b → A b)
    (hd : ∀ (i : Nat) (o : Oper), L[i]? = some o → ∀ d, o.dst = some d → n.has d) (hmN : m ≤ L.length) (h : drawAt T K L (presL L []) m env k = some y) (st : St n w0 W g env.get a w) (hA : g.al = A)
    (hk : ∀ env' a' w' g', k env' = some y → St n w0 W g' env'.get a' w' → g'.al = A → Q .normal a' w') : (Code.region id L.toArray true).wp P Q a w := by
  unfold drawAt at h
  cases h1 : (edgesOk L 0 && tailOk (presL L []) m 0) with
  | false => rw [h1] at h; cases h
  | true =>
    rw [h1] at h; simp only [cond_true] at h
    simp only [Bool.and_eq_true] at h1
    obtain ⟨t, e1, e2⟩ := presL_len L []
    have hpl : (presL L []).length = L.length := by rw [e1]; simpa using e2
    obtain ⟨env1, D, es, rds, z1, _, _, _, z5, z6, z7, z8, z9⟩ := prefK_inv (get0 := (killC (L.take m) env).get) h (by funext s; simp [mixR, dIdx]) rfl rfl
    cases h2 : (readsOk D (presL L []) rds 0 && atOk (presL L []) es (L.take m) 0) with
    | false => rw [h2] at z1; cases z1
    | true =>
      rw [h2] at z1; simp only [cond_true] at z1
      simp only [Bool.and_eq_true] at h2
      simp only [List.length_nil, Nat.zero_add, List.length_take] at z5
      have hD : D.length = m := by omega
      have tk : ∀ {j : Nat} {o : Oper}, j < m → L[j]? = some o → (L.take m)[j]? = some o := fun hj ho => by rw [List.getElem?_take_of_lt hj]; exact ho
      have dr : Dr T K L m (killC (L.take m) env).get D es rds :=
        { edges := fun i o ho j hj => by have := edgesOk_spec h1.1 i o ho j hj; omega
          tail := fun i hi hl => by have := tailOk_spec h1.2 i (by rw [hpl]; exact hl) (by omega); simpa using this
          mN := hmN
          facts := fun i o hi ho => by have := z9 i o (tk hi ho); simpa using this
          lenD := hD
          lenE := by rw [z6, hD]
          reads := fun j rd hj s hs x hx => by have := readsOk_spec h2.1 j rd hj s hs x hx; simpa using this
          at_ := fun j o d hj ho hod hc i e he hne hb => by
            have := atOk_spec h2.2 j o d (tk hj ho) hod hc
            simp only [Nat.zero_add] at this
            exact notAt_spec this i e he (by omega) (by simpa using hb)
          clean := fun j o d hj ho hod hc => killC_clean j o d (tk hj ho) hod hc }
      refine wp_region_any hm ?_
      have st' : St n w0 W g (killC (L.take m) env).get a { w with drawn := w.drawn + 1 } := by
        have q := killC_St (L := L.take m) st
        exact ⟨q.inv, q.ent, q.sz, q.df, q.os, q.tape, q.output⟩
      refine any_pref hT hK hwal hd dr hk (by rw [z8, hD]) z1 L.toArray.size (R := List.range L.length) (by simp) List.nodup_range ⟨by simp, fun i hi => ?_⟩ (fun x hx => List.mem_range.1 hx) (fun i o ho hn => absurd (List.mem_range.2 (get_lt ho)) hn)
        (fun i _ hi => List.mem_range.2 hi) (st'.get_eq ?_) hA
      · simp [hi]
      · funext s
        unfold mixR
        cases hx : dIdx D s with
        | none => rfl
        | some z =>
          have := dIdx_lt hx
          have hz : z ∈ List.range L.length := List.mem_range.2 (by omega)
          simp [hz]

theorem splitM_le : ∀ (l : List Nat) (n : Nat), splitM l n ≤ n
  | [], n => Nat.le_refl _
  | p :: r, n => by
    simp only [splitM]
    cases Nat.beq p (2 ^ (n - 1) - 1) with
    | true => have := splitM_le r (n - 1); simp only [cond_true]; omega
    | false => exact Nat.le_refl _

theorem drawK_sound {Q : Exit → Act → World → Prop} {id : Nat} {env : Env} {k : Env → Option α} {y : α} {a : Act} {w : World} {g : Gh} (hm : P.follows .mixedOrders = true) (hT : TOK P T) (hK : KOK P K) (hwal : ∀ b, W b → A b)
    (hd : ∀ (i : Nat) (o : Oper), L[i]? = some o → ∀ d, o.dst = some d → n.has d) (h : drawK T K L env k = some y) (st : St n w0 W g env.get a w) (hA : g.al = A)
    (hk : ∀ env' a' w' g', k env' = some y → St n w0 W g' env'.get a' w' → g'.al = A → Q .normal a' w') : (Code.region id L.toArray true).wp P Q a w :=
  drawAt_sound hm hT hK hwal hd (splitM_le _ _) h st hA hk

end
end Go.Proofs.YtkoifikjfnbcpaaEv
