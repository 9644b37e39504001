/- The code of a function, as a function of what its slots hold. -/
import Derived.Test.YtkoifikjfnbcpaaEvFit
set_option linter.unusedVariables false
set_option linter.unusedSimpArgs false
namespace Go.Proofs.YtkoifikjfnbcpaaEv
open Go Go.RowKit

def findN {α : Type} : List (Nat × α) → Nat → Option α
  | [], _ => none
  | (j, x) :: r, i => bif Nat.beq j i then some x else findN r i
def keepK : List Nat → Env → Env
  | [], _ => []
  | s :: r, env => (match env.get s with | .dead => keepK r env | e => (s, e) :: keepK r env)
/-- H: which slots are looked at behind a region. -/
def keepH (H : List (Nat × List Nat)) (id : Nat) (env : Env) : Env :=
  match findN H id with
  | some ks => keepK ks env
  | none => env
def headId : Code → Nat
  | .region id _ _ => id
  | .seq a _ => headId a
  | .block _ b => headId b
  | .loop b => headId b
  | _ => 0

/-- A frame taken over in a shape. -/
def fitK {α : Type} (sh : Shape) (k : ShVal sh → Option α) (env : Env) : Option α :=
  match fitE sh env with
  | some e => (match parse sh e with
    | some s => k s
    | none => none)
  | none => none

/-- What a loop comes to: by the values at its head; 'out': the block that it is left for. -/
structure LS (α : Type) where
  sh : Shape
  out : Nat
  run : ShVal sh → (ShVal sh → Option α) → Option α
abbrev LTab (α : Type) := List (Nat × LS α)

/-- Rounds, as many as there is fuel. -/
def iter {S α : Type} (step : S → (S → Option α) → Option α) : Nat → S → Option α
  | 0, _ => none
  | f + 1, s => step s (iter step f)

def evL {α : Type} (T : TTab) (K : CTab) (H : List (Nat × List Nat)) (LT : LTab α) : Code → Env → (Env → Option α) → (Nat → Env → Option α) → (Env → Option α) → Option α
  | .skip, env, kn, kx, kr => kn env
  | .region id ops draw, env, kn, kx, kr =>
    bif draw then drawK T K ops.toList env (fun e => kn (keepH H id e)) else seqK T K ops.toList (List.range' 0 ops.toList.length) env (fun e => kn (keepH H id e))
  | .seq a b, env, kn, kx, kr => evL T K H LT a env (fun e => evL T K H LT b e kn kx kr) kx kr
  | .cond c a b, env, kn, kx, kr => (match opE env.get c with
    | some e => (match asB e with
      | some v => bif v then evL T K H LT a env kn kx kr else evL T K H LT b env kn kx kr
      | none => none)
    | none => none)
  | .block id b, env, kn, kx, kr => evL T K H LT b env kn (fun j e => bif Nat.beq j id then kn e else kx j e) kr
  | .loop b, env, kn, kx, kr => (match findN LT (headId b) with
    | some ls => fitK ls.sh (fun s => ls.run s (fun s' => kx ls.out (envOf ls.sh s'))) env
    | none => none)
  | .exit id, env, kn, kx, kr => kx id env
  | .label _, env, kn, kx, kr => kn env
  | .ret, env, kn, kx, kr => kr env
  | _, _, _, _, _ => none

def okCode (n : NS) : Code → Bool
  | .region _ ops _ => ops.toList.all fun o => match o.dst with | some d => Nat.blt d n.n && !(n.k && Nat.beq d 0) | none => true
  | .seq a b => okCode n a && okCode n b
  | .cond _ a b => okCode n a && okCode n b
  | .block _ b => okCode n b
  | .loop b => okCode n b
  | _ => true

noncomputable def least (p : Nat → Prop) : Nat := by
  classical
  exact if h : ∃ n, p n ∧ ∀ m, m < n → ¬ p m then Classical.choose h else 0
theorem least_min {p : Nat → Prop} : ∀ n, p n → ∃ k, p k ∧ ∀ m, m < k → ¬ p m := by
  intro n
  induction n using Nat.strongRecOn with
  | _ n ih =>
    intro hn
    by_cases h : ∃ m, m < n ∧ p m
    · obtain ⟨m, h1, h2⟩ := h; exact ih m h1 h2
    · exact ⟨n, hn, fun m hm hp => h ⟨m, hm, hp⟩⟩
theorem least_spec {p : Nat → Prop} (h : ∃ n, p n) : p (least p) ∧ ∀ m, p m → least p ≤ m := by
  have h' : ∃ n, p n ∧ ∀ m, m < n → ¬ p m := by obtain ⟨n, hn⟩ := h; exact least_min n hn
  have e : least p = Classical.choose h' := by unfold least; exact dif_pos h'
  rw [e]
  obtain ⟨h1, h2⟩ := Classical.choose_spec h'
  exact ⟨h1, fun m hm => by
    rcases Nat.lt_or_ge m (Classical.choose h') with q | q
    · exact absurd hm (h2 m q)
    · exact q⟩

section
variable {α : Type} {P : Program} {T : TTab} {K : CTab} {H : List (Nat × List Nat)} {n : NS} {w0 : World} {W : Nat → Prop} {A : Nat → Prop}

theorem keepK_get : ∀ (ks : List Nat) (env : Env) (s : Nat), (keepK ks env).get s = env.get s ∨ (keepK ks env).get s = .dead
  | [], env, s => .inr rfl
  | j :: r, env, s => by
    simp only [keepK]
    split
    · exact keepK_get r env s
    · rename_i e he
      simp only [Env.get]
      cases hq : Nat.beq j s with
      | true => rw [Nat.eq_of_beq_eq_true hq]; exact .inl rfl
      | false => exact keepK_get r env s

theorem keepH_St {id : Nat} {env : Env} {a : Act} {w : World} {g : Gh} (st : St n w0 W g env.get a w) : St n w0 W g (keepH H id env).get a w := by
  unfold keepH
  split
  · exact st.kill (keepK_get _ env)
  · exact st

/-- A loop does what is told of it; kr: what a return comes to. -/
def LSOK (P : Program) (n : NS) (ls : LS α) (b : Code) (kr : Env → Option α) : Prop :=
  ∀ (w0 : World) (W : Nat → Prop) (A : Nat → Prop), (∀ b, W b → A b) → ∀ (s : ShVal ls.sh) (kx : ShVal ls.sh → Option α) (y : α) (a : Act) (w : World) (g : Gh) (Q : Exit → Act → World → Prop), ls.run s kx = some y → St n w0 W g (envOf ls.sh s).get a w → g.al = A →
    (∀ s' a' w' g', kx s' = some y → St n w0 W g' (envOf ls.sh s').get a' w' → g'.al = A → Q (.exit ls.out) a' w') →
    (∀ env' a' w' g', kr env' = some y → St n w0 W g' env'.get a' w' → g'.al = A → Q .ret a' w') → (Code.loop b).wp P Q a w

/-- The loops of a code, each told. -/
def LTOK (P : Program) (n : NS) (LT : LTab α) (kr : Env → Option α) : Code → Prop
  | .seq a b => LTOK P n LT kr a ∧ LTOK P n LT kr b
  | .cond _ a b => LTOK P n LT kr a ∧ LTOK P n LT kr b
  | .block _ b => LTOK P n LT kr b
  | .loop b => ∀ ls, findN LT (headId b) = some ls → LSOK P n ls b kr
  | _ => True

theorem fitK_inv {sh : Shape} {k : ShVal sh → Option α} {env : Env} {y : α} {a : Act} {w : World} {g : Gh} (hwal : ∀ b, W b → g.al b) (st : St n w0 W g env.get a w) (h : fitK sh k env = some y) : ∃ s g', k s = some y ∧ g'.al = g.al ∧ St n w0 W g' (envOf sh s).get a w := by
  unfold fitK at h
  split at h
  · rename_i e he
    split at h
    · rename_i s hs
      obtain ⟨g', q1, q2⟩ := fitE_sound hwal st he
      exact ⟨s, g', h, q1, by rw [parse_eq hs]; exact q2⟩
    · cases h
  · cases h

theorem evL_sound {LT : LTab α} {kr : Env → Option α} (hm : P.follows .mixedOrders = true) (hT : TOK P T) (hK : KOK P K) (hwal : ∀ b, W b → A b) : ∀ {c : Code}, okCode n c = true → LTOK P n LT kr c → ∀ {env : Env} {kn : Env → Option α} {kx : Nat → Env → Option α} {y : α} {a : Act} {w : World} {g : Gh} {Q : Exit → Act → World → Prop},
    evL T K H LT c env kn kx kr = some y → St n w0 W g env.get a w → g.al = A →
    (∀ env' a' w' g', kn env' = some y → St n w0 W g' env'.get a' w' → g'.al = A → Q .normal a' w') →
    (∀ id env' a' w' g', kx id env' = some y → St n w0 W g' env'.get a' w' → g'.al = A → Q (.exit id) a' w') →
    (∀ env' a' w' g', kr env' = some y → St n w0 W g' env'.get a' w' → g'.al = A → Q .ret a' w') → c.wp P Q a w := by
  intro c
  induction c with
  | skip => intro _ _ env kn kx y a w g Q h st hA hn hx hr; exact wp_skip (hn _ _ _ _ h st hA)
  | region id ops draw =>
    intro hc _ env kn kx y a w g Q h st hA hn hx hr
    have hd : ∀ (i : Nat) (o : Oper), ops.toList[i]? = some o → ∀ d, o.dst = some d → n.has d := by
      intro i o ho d hd
      simp only [okCode, List.all_eq_true] at hc
      have := hc o (List.mem_of_getElem? ho)
      rw [hd] at this
      simp only [Bool.and_eq_true, Bool.not_eq_true', Bool.and_eq_false_iff] at this
      refine ⟨by simpa using this.1, fun hk => ?_⟩
      rcases this.2 with q | q
      · rw [hk] at q; cases q
      · exact nbeq_ne q
    have hk : ∀ env' a' w' g', kn (keepH H id env') = some y → St n w0 W g' env'.get a' w' → g'.al = A → Q .normal a' w' := fun env' a' w' g' q1 q2 q3 => hn _ _ _ _ q1 (keepH_St q2) q3
    simp only [evL] at h
    cases draw with
    | true =>
      simp only [cond_true] at h
      have := drawK_sound (Q := Q) (id := id) (L := ops.toList) hm hT hK hwal hd h st hA hk
      simpa using this
    | false =>
      simp only [cond_false] at h
      refine wp_region ?_
      have := seqK_sound (Q := Q) (L := ops.toList) hT hK hwal hd h st hA hk
      rw [List.range_eq_range']
      simpa using this
  | seq x z ihx ihz =>
    intro hc hl env kn kx y a w g Q h st hA hn hx hr
    simp only [okCode, Bool.and_eq_true] at hc
    simp only [evL] at h
    refine wp_seq ?_
    exact ihx hc.1 hl.1 (Q := Exit.then (z.wp P Q) Q) h st hA (fun env' a' w' g' q1 q2 q3 => ihz hc.2 hl.2 q1 q2 q3 hn hx hr) hx hr
  | cond c x z ihx ihz =>
    intro hc hl env kn kx y a w g Q h st hA hn hx hr
    simp only [okCode, Bool.and_eq_true] at hc
    simp only [evL] at h
    split at h
    · rename_i e he
      split at h
      · rename_i v hv
        obtain ⟨s, hs, _⟩ := opE_sound st.ent he
        have hb : a.eval c = .bool v := by
          unfold asB at hv
          split at hv
          · rename_i reg lin b
            injection hv with hv; subst hv
            obtain ⟨bs, hl, _⟩ := val1 hs
            obtain ⟨⟨h1, _⟩, _⟩ := hl
            injection h1
          · cases hv
        refine wp_cond (t := v) hb ?_
        cases v with
        | true => exact ihx hc.1 hl.1 h st hA hn hx hr
        | false => exact ihz hc.2 hl.2 h st hA hn hx hr
      · cases h
    · cases h
  | block id b ih =>
    intro hc hl env kn kx y a w g Q h st hA hn hx hr
    simp only [okCode] at hc
    simp only [evL] at h
    refine wp_block ?_
    refine ih hc hl (Q := Exit.inBlock id Q) h st hA hn (fun j env' a' w' g' q1 q2 q3 => ?_) hr
    simp only [Exit.inBlock]
    cases hq : Nat.beq j id with
    | true =>
      rw [hq] at q1
      rw [if_pos (Nat.eq_of_beq_eq_true hq)]
      exact hn _ _ _ _ q1 q2 q3
    | false =>
      rw [hq] at q1
      rw [if_neg (nbeq_ne hq)]
      exact hx _ _ _ _ _ q1 q2 q3
  | loop b ih =>
    intro hc hl env kn kx y a w g Q h st hA hn hx hr
    simp only [evL] at h
    split at h
    · rename_i ls hls
      obtain ⟨s, g', q1, q2, q3⟩ := fitK_inv (fun b hb => by rw [hA]; exact hwal b hb) st h
      exact hl ls hls w0 W A hwal s _ y a w g' Q q1 q3 (q2.trans hA) (fun s' a' w' g' z1 z2 z3 => hx _ _ _ _ _ z1 z2 z3) hr
    · cases h
  | exit id => intro _ _ env kn kx y a w g Q h st hA hn hx hr; exact wp_exit (hx _ _ _ _ _ h st hA)
  | label l => intro _ _ env kn kx y a w g Q h st hA hn hx hr; exact wp_label (hn _ _ _ _ h st hA)
  | ret => intro _ _ env kn kx y a w g Q h st hA hn hx hr; exact wp_ret (hr _ _ _ _ h st hA)
  | _ => intro _ _ env kn kx y a w g Q h; simp [evL] at h

structure RoundAt (n : NS) (w0 : World) (W : Nat → Prop) (A : Nat → Prop) (sh : Shape) (step : ShVal sh → (ShVal sh → Option α) → Option α) (y : α) (f : Nat) (a : Act) (w : World) : Prop where
  ex : ∃ s g, iter step f s = some y ∧ St n w0 W g (envOf sh s).get a w ∧ g.al = A

/-- A loop by its rounds. -/
theorem loop_ok {LT : LTab α} {kr : Env → Option α} {sh : Shape} {out : Nat} {b : Code} {F : Nat} (step : ShVal sh → (ShVal sh → Option α) → (ShVal sh → Option α) → Option α) (hm : P.follows .mixedOrders = true) (hT : TOK P T) (hK : KOK P K) (hc : okCode n b = true) (hl : LTOK P n LT kr b)
    (h : ∀ (s : ShVal sh) (k kx : ShVal sh → Option α), evL T K H LT b (envOf sh s) (fitK sh k) (fun j e => bif Nat.beq j out then fitK sh kx e else none) kr = step s k kx) :
    LSOK P n ⟨sh, out, fun s kx => iter (fun s k => step s k kx) F s⟩ b kr := by
  intro w0 W A hwal s kx y a w g Q hr st hA hx hret
  refine wp_loop (fun a w => ∃ f, RoundAt n w0 W A sh (fun s k => step s k kx) y f a w) (fun a w => least fun f => RoundAt n w0 W A sh (fun s k => step s k kx) y f a w) ⟨F, s, g, hr, st, hA⟩ ?_
  intro a1 w1 hI
  obtain ⟨hmin, _⟩ := least_spec hI
  generalize hf : least (fun f => RoundAt n w0 W A sh (fun s k => step s k kx) y f a1 w1) = f at hmin
  obtain ⟨s2, g2, z1, z2, z3⟩ := hmin.ex
  cases f with
  | zero => cases z1
  | succ f =>
    simp only [iter] at z1
    rw [← h] at z1
    refine evL_sound (Q := Exit.then (fun a' w' => (∃ f, RoundAt n w0 W A sh (fun s k => step s k kx) y f a' w') ∧ (least fun f => RoundAt n w0 W A sh (fun s k => step s k kx) y f a' w') < f + 1) Q) hm hT hK hwal hc hl z1 z2 z3 (fun env' a' w' g' y1 y2 y3 => ?_) (fun id env' a' w' g' y1 y2 y3 => ?_) hret
    · obtain ⟨s3, g3, r1, r2, r3⟩ := fitK_inv (fun b hb => by rw [y3]; exact hwal b hb) y2 y1
      have hJ : RoundAt n w0 W A sh (fun s k => step s k kx) y f a' w' := ⟨s3, g3, r1, r3, r2.trans y3⟩
      exact ⟨⟨f, hJ⟩, Nat.lt_succ_of_le ((least_spec (p := fun f => RoundAt n w0 W A sh (fun s k => step s k kx) y f a' w') ⟨f, hJ⟩).2 f hJ)⟩
    · cases hq : Nat.beq id out with
      | false => rw [hq] at y1; cases y1
      | true =>
        rw [hq] at y1; simp only [cond_true] at y1
        have := Nat.eq_of_beq_eq_true hq; subst this
        obtain ⟨s3, g3, r1, r2, r3⟩ := fitK_inv (fun b hb => by rw [y3]; exact hwal b hb) y2 y1
        exact hx _ _ _ _ r1 r3 (r2.trans y3)

end
end Go.Proofs.YtkoifikjfnbcpaaEv
