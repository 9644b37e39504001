/- A function does what its code comes to. -/
import Derived.Test.YtkoifikjfnbcpaaEvFun
set_option linter.unusedVariables false
set_option linter.unusedSimpArgs false
namespace Go.Proofs.YtkoifikjfnbcpaaEv
open Go Go.RowKit

section
variable {P : Program} {T : TTab} {K : CTab} {H : List (Nat × List Nat)} {n : NS} {w0 w : World} {W : Nat → Prop} {g : Gh} {a : Act}

/-- The block of an argument that is the address of a variable. -/
def blkOf : Value → Nat
  | .pointer (some ⟨b, _, _⟩) => b
  | _ => 0

open Classical in
noncomputable def gh0 (w : World) (vs : List Value) (ba : List Nat) : Gh where
  kd b := if w.heap.size ≤ b ∨ b ∈ ba then .fz else .no
  own _ := 0
  H _ := undef
  bx s := blkOf (vs.getD s undef)
  al b := b ∈ ba

theorem boxInit_B {h : Mem} {t : Ty} {x : t.den} {cs : List Value} {bs : List Nat} (hr : Rd h t x cs bs) (hk : ∀ b ∈ bs, g.kd b = .fz) : LeavesB g h (boxInit t x) cs bs := by
  have h0 := mkfz_len t x hr hk
  unfold boxInit
  split
  · rename_i ls hls; exact (boxLeaves_B hls h0).1
  · exact h0

theorem ArgsV.blocks {h : Mem} : ∀ {ps : List PK} {x : Args ps} {vs : List Value} {ba : List Nat}, ArgsV h ps x vs ba → vs.length = ps.length
  | [], x, vs, ba, ⟨h1, _⟩ => by subst h1; rfl
  | .v t :: r, x, vs, ba, hh => by obtain ⟨v, vr, b1, b2, h1, _, _, h4⟩ := hh; subst h1; simp [ArgsV.blocks h4]
  | .p t :: r, x, vs, ba, hh => by obtain ⟨b, vr, c, e, fr, b1, b2, h1, _, _, _, h4⟩ := hh; subst h1; simp [ArgsV.blocks h4]
  | .fn f :: r, x, vs, ba, hh => by obtain ⟨vr, h1, h4⟩ := hh; subst h1; simp [ArgsV.blocks h4]

theorem init_ent {w : World} {all : List Value} {bal : List Nat} {tm : Nat → Value} : ∀ {ps : List PK} {x : Args ps} {vs : List Value} {ba : List Nat} {i : Nat}, ArgsV w.heap ps x vs ba → (∀ j, j < vs.length → tm (i + j) = vs.getD j undef) → (∀ j, all.getD (i + j) undef = vs.getD j undef) → (∀ b ∈ ba, b ∈ bal) →
    ∀ s, EntR (gh0 w all bal) w.heap s ((initEnv i ps x).get s) (tm s)
  | [], x, vs, ba, i, _, _, _, _, s => trivial
  | .v t :: r, x, vs, ba, i, hh, ht, ha, hb, s => by
    obtain ⟨v, vr, b1, b2, h1, h2, h3, h4⟩ := hh
    subst h1; subst h2
    simp only [initEnv, Env.get]
    cases hq : Nat.beq i s with
    | true =>
      have := Nat.eq_of_beq_eq_true hq; subst this
      have hv : tm i = v := by have := ht 0 (by simp); simpa using this
      rw [hv]
      refine leaves_of (mkfz_len t x.1 h3.1 fun b hb' => ?_) h3.2.1 h3.2.2
      simp only [gh0]; rw [if_pos (.inr (hb b (List.mem_append_left _ hb')))]
    | false =>
      refine init_ent (i := i + 1) h4 (fun j hj => ?_) (fun j => ?_) (fun b hb' => hb b (List.mem_append_right _ hb')) s
      · have := ht (j + 1) (by simpa using hj); rw [show i + 1 + j = i + (j + 1) by omega]; simpa using this
      · have := ha (j + 1); rw [show i + 1 + j = i + (j + 1) by omega]; simpa using this
  | .p t :: r, x, vs, ba, i, hh, ht, ha, hb, s => by
    obtain ⟨b, vr, c, e, fr, b1, b2, h1, h2, h3, h3', h4⟩ := hh
    subst h1; subst h2
    simp only [initEnv, Env.get]
    cases hq : Nat.beq i s with
    | true =>
      have := Nat.eq_of_beq_eq_true hq; subst this
      have hv : tm i = .pointer (some ⟨b, 0, none⟩) := by have := ht 0 (by simp); simpa using this
      rw [hv]
      refine ⟨b, c, e, fr, b1, rfl, h3, boxInit_B h3' fun b hb' => ?_, ?_, fun q => (by cases q), fun _ => ?_⟩
      · simp only [gh0]; rw [if_pos (.inr (hb b (List.mem_append_left _ hb')))]
      · have := ha 0; simp only [Nat.add_zero] at this
        simp only [gh0, this]; rfl
      · simp only [gh0]
        split
        · exact .inl rfl
        · exact .inr rfl
    | false =>
      refine init_ent (i := i + 1) h4 (fun j hj => ?_) (fun j => ?_) (fun b hb' => hb b (List.mem_append_right _ hb')) s
      · have := ht (j + 1) (by simpa using hj); rw [show i + 1 + j = i + (j + 1) by omega]; simpa using this
      · have := ha (j + 1); rw [show i + 1 + j = i + (j + 1) by omega]; simpa using this
  | .fn f :: r, x, vs, ba, i, hh, ht, ha, hb, s => by
    obtain ⟨vr, h1, h4⟩ := hh
    subst h1
    simp only [initEnv, Env.get]
    cases hq : Nat.beq i s with
    | true =>
      have := Nat.eq_of_beq_eq_true hq; subst this
      have hv : tm i = .func (.func f) #[] #[] := by have := ht 0 (by simp); simpa using this
      rw [hv]; rfl
    | false =>
      refine init_ent (i := i + 1) h4 (fun j hj => ?_) (fun j => ?_) hb s
      · have := ht (j + 1) (by simpa using hj); rw [show i + 1 + j = i + (j + 1) by omega]; simpa using this
      · have := ha (j + 1); rw [show i + 1 + j = i + (j + 1) by omega]; simpa using this

theorem init_St {w : World} {ps : List PK} {x : Args ps} {vs : List Value} {ba : List Nat} {n : Nat} (hv : ArgsV w.heap ps x vs ba) (hn : ps.length ≤ n) :
    St ⟨n, false, undef⟩ w (fun _ => False) (gh0 w vs ba) (initEnv 0 ps x).get { tmps := vs.toArray ++ Array.replicate (n - vs.toArray.size) undef, defers := [] } w where
  inv := by
    refine ⟨Nat.le_refl _, fun b _ _ => rfl, fun b => ?_, fun b hb => ?_, fun b hb => ?_, fun b hb => absurd rfl hb, fun b hb => absurd rfl hb⟩
    · simp only [gh0]
      split
      · exact .inl rfl
      · exact .inr (.inl rfl)
    · simp only [gh0] at hb
      split at hb
      · cases hb
      · rename_i h; exact Nat.lt_of_not_le fun q => h (.inl q)
    · simp only [gh0] at hb
      split at hb
      · rename_i h; exact h
      · cases hb
  ent := by
    refine init_ent hv (fun j hj => ?_) (fun j => by simp) (fun b hb => hb)
    simp only [Nat.zero_add]
    rw [Array.getD_eq_getD_getElem?, Array.getElem?_append_left (by simpa using hj), List.getElem?_toArray, List.getD_eq_getElem?_getD]
  sz := by
    have := ArgsV.blocks hv
    exact ⟨by simp; omega, fun h => (by cases h)⟩
  df := rfl
  os := rfl
  tape := rfl
  output := rfl

theorem endK_inv {rvs : List ResultVar} {rs : List Ty} {fresh st : Bool} {env : Env} {y : Ress rs} (h : endK T rvs rs fresh st env = some y) : ∃ lss, collect T (litRes rvs env) rvs rs = some (lss, y) ∧ (fresh = true → freshOk lss = true) ∧ (st = true → strictOk rs lss = true) := by
  unfold endK at h
  split at h
  · rename_i lss y' hc
    cases hq : ((!fresh || freshOk lss) && (!st || strictOk rs lss)) with
    | false => rw [hq] at h; cases h
    | true =>
      rw [hq] at h; injection h with h; subst h
      simp only [Bool.and_eq_true, Bool.or_eq_true, Bool.not_eq_true'] at hq
      exact ⟨lss, hc, fun hf => hq.1.resolve_left (by rw [hf]; simp), fun hf => hq.2.resolve_left (by rw [hf]; simp)⟩
  · cases h

theorem retV_of (vs : List Value) : (if h : vs.toArray.size = 1 then vs.toArray[0] else .tuple vs.toArray) = retV vs := by
  match vs with
  | [] => rfl
  | [v] => rfl
  | v :: v' :: r => rfl

theorem results_run {fn : Func} {vs : List Value} (h : (fn.results.toList.mapM (resOne a.tmps)).run P w = .ok vs w) : (results fn a.tmps).run P w = .ok (retV vs) w := by
  have e : (results fn a.tmps) = (do let vs ← fn.results.mapM (resOne a.tmps); pure (if h : vs.size = 1 then vs[0] else .tuple vs)) := by
    unfold results
    have : ∀ rv, (match rv with | .tmp t => pure (a.tmps.getD t undef) | .cell b t => do loadVar t (← asAddr (a.tmps.getD b undef)) : Sem Value) = resOne a.tmps rv := by
      intro rv; cases rv <;> rfl
    congr 1
  rw [e, Array.mapM_eq_mapM_toList]
  simp only [Sem.run_bind, Sem.run_map, h, Result.andThen_ok, Sem.run_pure]
  rw [← retV_of vs]

theorem After_of {C : Ctr} {y : Ress C.rs} {w w1 : World} {ba : List Nat} {g1 : Gh} {a1 : Act} {fn : Func} {n : NS} {env : Env} (hT : TOK P T) (st : St n w (fun _ => False) g1 env.get a1 w1) (hA : g1.al = fun b => b ∈ ba)
    (h : endK T fn.results.toList C.rs C.fresh C.st env = some y) : a1.defers = [] ∧ ∃ v, (results fn a1.tmps).run P w1 = .ok v w1 ∧ After C y w ba (.returned v) w1 := by
  obtain ⟨lss, h1, h2, h3⟩ := endK_inv h
  obtain ⟨g2, q1, q2⟩ := litRes_sound (rvs := fn.results.toList) (fun b hb => by cases hb) st
  obtain ⟨vs, bs, z1, z2, z3, cs, z4⟩ := collect_sound (st := C.st) hT q2.ent h1 h3
  have blw : Below w.heap.size w w1 := ⟨st.os, st.tape, st.output, st.inv.size, fun k hk => st.inv.old k hk (fun h => h)⟩
  have news : ∀ b, g2.own b ≠ 0 → w.heap.size ≤ b := fun b hb => by
    rcases (q2.inv.own b hb).2 with q | q
    · exact q
    · cases q
  refine ⟨st.df, retV vs, results_run z1, vs, bs, rfl, z2, blw, fun b hb => ?_, fun hf => ?_⟩
  · rcases z3 b hb with q | ⟨t, q⟩
    · rcases q2.inv.al b q with q | q
      · exact .inl q
      · rw [q1, hA] at q; exact .inr q
    · rcases q2.inv.kd b with r | r | r
      · rw [q] at r; cases r
      · rw [q] at r; cases r
      · rcases r.2 with r | r
        · exact .inl r
        · cases r
  · have hfr := h2 hf
    unfold freshOk at hfr
    split at hfr
    · rename_i l hl
      obtain ⟨p1, p2⟩ := fresh_nodup z4 hl (distinct_nodup hfr)
      exact ⟨p1, fun b hb => ⟨news b (p2 b hb).2, q2.inv.wr b (p2 b hb).2⟩⟩
    · cases hfr

theorem fn_ok {k : Nat} {C : Ctr} {fn : Func} {c : Code} (hm : P.follows .mixedOrders = true) (hT : TOK P T) (hK : KOK P K) (hf : P.funcs[k]? = some fn) (hb : fn.body = some c) (hc : okCode ⟨fn.ntmps, false, undef⟩ c = true) (hp : C.ps.length ≤ fn.ntmps)
    (h : ∀ (x : Args C.ps) (y : Ress C.rs), C.f x = some y → ∃ LT : LTab (Ress C.rs), LTOK P ⟨fn.ntmps, false, undef⟩ LT (endK T fn.results.toList C.rs C.fresh C.st) c ∧ fnK T K H C.rs LT c fn.results.toList C.ps C.fresh C.st x = some y) : FnOK P k C := by
  intro x y hxy w vs ba hv
  obtain ⟨LT, hL, hF⟩ := h x y hxy
  refine calls_of_wp hf hb ?_
  exact evL_sound (W := fun _ => False) (A := fun b => b ∈ ba) hm hT hK (fun b hb => (by cases hb)) hc hL hF (init_St hv hp) rfl (fun env' a' w' g' q1 q2 q3 => After_of hT q2 q3 q1) (fun id env' a' w' g' q1 => (by cases q1)) (fun env' a' w' g' q1 q2 q3 => After_of hT q2 q3 q1)

theorem fn_one {k : Nat} {C : Ctr} {fn : Func} {c : Code} (hi : C.inp = false) (hm : P.follows .mixedOrders = true) (hT : TOK P T) (hK : KOK P K) (hf : P.funcs[k]? = some fn) (hb : fn.body = some c) (hc : okCode ⟨fn.ntmps, false, undef⟩ c = true) (hp : C.ps.length ≤ fn.ntmps) (hn : fn.name ≠ "runtime.NumGoroutine")
    (h : ∀ (x : Args C.ps) (y : Ress C.rs), C.f x = some y → ∃ LT : LTab (Ress C.rs), LTOK P ⟨fn.ntmps, false, undef⟩ LT (endK T fn.results.toList C.rs C.fresh C.st) c ∧ fnK T K H C.rs LT c fn.results.toList C.ps C.fresh C.st x = some y) : KOne P k C :=
  ⟨fun _ => fn_ok hm hT hK hf hb hc hp h, fun q => (by rw [hi] at q; cases q), fn, hf, hn, by rw [hb]; rfl⟩

/-! ### the loops of a code -/

def loopsOf : Code → List Code
  | .seq a b => loopsOf a ++ loopsOf b
  | .cond _ a b => loopsOf a ++ loopsOf b
  | .block _ b => loopsOf b
  | .loop b => [b]
  | _ => []
def loopAt (id : Nat) : Code → Option Code
  | .seq a b => (match loopAt id a with | some c => some c | none => loopAt id b)
  | .cond _ a b => (match loopAt id a with | some c => some c | none => loopAt id b)
  | .block _ b => loopAt id b
  | .loop b => bif Nat.beq (headId b) id then some b else loopAt id b
  | _ => none
def bodyOf (f : Func) : Code := match f.body with | some c => c | none => .skip
def loopOf (f : Func) (id : Nat) : Code := match loopAt id (bodyOf f) with | some c => c | none => .skip

def LTs {α : Type} (P : Program) (n : NS) (LT : LTab α) (kr : Env → Option α) : List Code → Prop
  | [] => True
  | b :: r => (∀ ls, findN LT (headId b) = some ls → LSOK P n ls b kr) ∧ LTs P n LT kr r
theorem LTs_append {α : Type} {LT : LTab α} {kr : Env → Option α} : ∀ {a b : List Code}, LTs P n LT kr (a ++ b) → LTs P n LT kr a ∧ LTs P n LT kr b
  | [], b, h => ⟨trivial, h⟩
  | x :: a, b, h => ⟨⟨h.1, (LTs_append h.2).1⟩, (LTs_append h.2).2⟩
theorem LTOK_of {α : Type} {LT : LTab α} {kr : Env → Option α} : ∀ {c : Code}, LTs P n LT kr (loopsOf c) → LTOK P n LT kr c := by
  intro c
  induction c with
  | seq a b iha ihb => intro h; exact ⟨iha (LTs_append h).1, ihb (LTs_append h).2⟩
  | cond c a b iha ihb => intro h; exact ⟨iha (LTs_append h).1, ihb (LTs_append h).2⟩
  | block id b ih => intro h; exact ih h
  | loop b _ => intro h; exact h.1
  | _ => intro _; exact trivial
theorem LTOK_by {α : Type} {LT : LTab α} {kr : Env → Option α} {c : Code} {l : List Code} (e : loopsOf c = l) (h : LTs P n LT kr l) : LTOK P n LT kr c := LTOK_of (by rw [e]; exact h)
theorem ls_at {α : Type} {LT : LTab α} {kr : Env → Option α} {b : Code} {ls0 : LS α} (h : findN LT (headId b) = some ls0) (ok : LSOK P n ls0 b kr) : ∀ ls, findN LT (headId b) = some ls → LSOK P n ls b kr := by
  intro ls h'
  rw [h] at h'; injection h' with h'; rw [← h']; exact ok

end
end Go.Proofs.YtkoifikjfnbcpaaEv
