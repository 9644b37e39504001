/- A function that turns a slice of flat elements in place does what its code comes to. -/
import Derived.Test.YtkoifikjfnbcpaaEvFunB
set_option linter.unusedVariables false
set_option linter.unusedSimpArgs false
namespace Go.Proofs.YtkoifikjfnbcpaaEv
open Go Go.RowKit

def initM (e : TypeId) (u : Ty) (v : List u.den) (m : Int) : Env :=
  [(0, .val false [.rt e u 1 false true false v]), (1, intE .i64 m)]
def endM (e : TypeId) (u : Ty) (rvs : List ResultVar) (env : Env) : Option (Ress [.slice e u, .int .i64]) :=
  match rvs, env.get 0 with
  | [.tmp s], .val false [.rt e' u' tag false lin st v] => bif Nat.beq tag 1 then (match Ty.cast (.slice e u) (Leaf.rt e' u' tag false lin st v).val, asI (env.get s) with
    | some v, some (k, m) => bif kEq k .i64 then some (v, m, ()) else none
    | _, _ => none) else none
  | _, _ => none
/-- What a function's code comes to that turns its first argument. -/
def fnM (T : TTab) (K : CTab) (H : List (Nat × List Nat)) (e : TypeId) (u : Ty) (LT : LTab (Ress [.slice e u, .int .i64])) (c : Code) (rvs : List ResultVar) (x : Args [.v (.slice e u), .v (.int .i64)]) : Option (Ress [.slice e u, .int .i64]) :=
  evL T K H LT c (initM e u x.1 x.2.1) (endM e u rvs) (fun _ _ => none) (endM e u rvs)

section
variable {P : Program} {T : TTab} {K : CTab} {H : List (Nat × List Nat)}

open Classical in
noncomputable def ghM (w : World) (v0 : Value) (ba : List Nat) : Gh where
  kd b := if b ∈ ba then .mu 1 else if w.heap.size ≤ b then .fz else .no
  own b := if b ∈ ba then 1 else 0
  H _ := v0
  bx _ := 0
  al b := b ∈ ba

theorem initM_St {w : World} {e : TypeId} {u : Ty} {x : List u.den} {m : Int} {v0 v1 : Value} {ba : List Nat} {n : Nat} (hu : u.flat = true) (ho : OneV w.heap (.slice e u) x v0 ba) (h1 : v1 = .int .i64 m) (h2 : (Lit.int .i64 m).wf = true) (hn : 2 ≤ n)
    (hw : ∀ b ∈ ba, ∃ c e, w.heap[b]? = some (.cells c e (0, 0))) :
    St ⟨n, true, v0⟩ w (fun b => b ∈ ba) (ghM w v0 ba) (initM e u x m).get { tmps := [v0, v1].toArray ++ Array.replicate (n - [v0, v1].toArray.size) undef, defers := [] } w where
  inv := by
    have lt : ∀ b ∈ ba, b < w.heap.size := ho.1.lt
    refine ⟨Nat.le_refl _, fun b _ _ => rfl, fun b => ?_, fun b hb => ?_, fun b hb => ?_, fun b hb => ?_, fun b hb => ?_⟩
    · simp only [ghM]
      by_cases q : b ∈ ba
      · exact .inr (.inr ⟨lt b q, .inr q⟩)
      · rw [if_neg q]
        split
        · exact .inl rfl
        · exact .inr (.inl rfl)
    · simp only [ghM] at hb
      split at hb
      · cases hb
      · split at hb
        · cases hb
        · omega
    · simp only [ghM] at hb
      split at hb
      · cases hb
      · split at hb
        · rename_i q; exact .inl q
        · cases hb
    · simp only [ghM] at hb
      split at hb
      · rename_i q; exact ⟨lt b q, .inr q⟩
      · exact absurd rfl hb
    · simp only [ghM] at hb
      split at hb
      · rename_i q; exact hw b q
      · exact absurd rfl hb
  ent s := by
    simp only [initM, Env.get]
    cases q0 : Nat.beq 0 s with
    | true =>
      have := Nat.eq_of_beq_eq_true q0; subst this
      simp only [cond_true]
      have ev : ([v0, v1].toArray ++ Array.replicate (n - [v0, v1].toArray.size) undef).getD 0 undef = v0 := by rw [Array.getD_eq_getD_getElem?, Array.getElem?_append_left (by simp)]; rfl
      rw [ev]
      obtain ⟨⟨hd, blk, bs', z1, z2, z3⟩, _, z4⟩ := ho
      have hc := z4 rfl
      have eh : hd = v0 := by rw [hc] at z1; injection z1 with z1 _; exact z1.symm
      subst eh
      have eb := slR_flat hu z2
      subst eb
      rw [List.append_nil] at z3
      refine ⟨[hd], ba, rfl, fun _ => ⟨rfl, hc⟩, LeafB.many ⟨hd, blk, [], rfl, by rw [z3, List.append_nil], fun _ => rfl, fun q => (by cases q), z2, fun b hb => (by cases hb), fun b hb => ?_, fun _ => ⟨fun b hb => (by cases hb), List.nodup_nil⟩⟩⟩
      have hm : b ∈ ba := by rw [z3, hb]; simp
      refine ⟨by simp [ghM, hm], by simp [ghM, hm], ?_⟩
      rcases z2 with ⟨_, _, q, _⟩ | ⟨b', o, cap, c, fr, _, q1, _, q2, _⟩
      · rw [hb] at q; cases q
      · rw [hb] at q1; injection q1 with q1; subst q1
        obtain ⟨c', e', q3⟩ := hw b hm
        rw [q2] at q3; injection q3 with q3; injection q3 with q4 q5 q6
        exact ⟨c, by rw [q2, q6]⟩
    | false =>
      simp only [cond_false]
      cases q1 : Nat.beq 1 s with
      | true =>
        have := Nat.eq_of_beq_eq_true q1; subst this
        simp only [cond_true]
        have ev : ([v0, v1].toArray ++ Array.replicate (n - [v0, v1].toArray.size) undef).getD 1 undef = v1 := by rw [Array.getD_eq_getD_getElem?, Array.getElem?_append_left (by simp)]; rfl
        rw [ev, h1]
        exact intE_sound h2
      | false => trivial
  sz := ⟨by simp; omega, fun _ => by rw [Array.getD_eq_getD_getElem?, Array.getElem?_append_left (by simp)]; rfl⟩
  df := rfl
  os := rfl
  tape := rfl
  output := rfl

theorem AfterM_of {e : TypeId} {u : Ty} {x : List u.den} {C : Ctr} {w w1 : World} {ba : List Nat} {g1 : Gh} {a1 : Act} {fn : Func} {n : Nat} {env : Env} {v0 : Value} {r : List Value} {F : Args [.v (.slice e u), .v (.int .i64)] → Option (Ress [.slice e u, .int .i64])} {y : Ress [.slice e u, .int .i64]} (hu : u.flat = true) (ho : OneV w.heap (.slice e u) x v0 ba)
    (st : St ⟨n, true, v0⟩ w (fun b => b ∈ ba) g1 env.get a1 w1) (h : endM e u fn.results.toList env = some y) :
    a1.defers = [] ∧ ∃ v, (results fn a1.tmps).run P w1 = .ok v w1 ∧ AfterIn ⟨[.v (.slice e u), .v (.int .i64)], [.slice e u, .int .i64], false, false, true, F⟩ y w (v0 :: r) ba (.returned v) w1 := by
  refine ⟨st.df, ?_⟩
  unfold endM at h
  split at h
  · rename_i s e' u' tag lin sst v hrv hg
    cases ht : Nat.beq tag 1 with
    | false => rw [ht] at h; cases h
    | true =>
      rw [ht] at h; simp only [cond_true] at h
      have := Nat.eq_of_beq_eq_true ht; subst this
      split at h
      · rename_i v' k m hc hi
        cases hk : kEq k .i64 with
        | false => rw [hk] at h; cases h
        | true =>
          rw [hk] at h; injection h with h; subst h
          have := kEq_eq hk; subst this
          obtain ⟨ee, hc⟩ := Ty.cast_eq hc
          injection ee with e1 e2
          subst e1; subst e2
          have hc : v = v' := hc
          subst hc
          have he := st.ent 0
          rw [hg] at he
          rw [st.sz.2 rfl] at he
          obtain ⟨bs, hl, hcc⟩ := val1 he
          obtain ⟨hd, blk, bs', y1, y2, _, _, y5, _, y7, _⟩ := hl
          injection y1 with y1 _
          have y1 : hd = v0 := y1.symm
          subst y1
          have eb := slR_flat hu y5
          subst eb
          have hw1 := asI_inv (st.ent s) hi
          obtain ⟨⟨hd2, blk2, bs2, z1, z2, z3⟩, _, z4⟩ := ho
          have eh : hd2 = hd := by rw [z4 rfl] at z1; injection z1 with z1 _; exact z1.symm
          subst eh
          have eb2 := slR_flat hu z2
          subst eb2
          have ebl := slR_blk z2 y5
          subst ebl
          have hba : ba = blk2.toList := by rw [z3, List.append_nil]
          refine ⟨a1.tmps.getD s undef, ?_, hd2, a1.tmps.getD s undef, rfl, rfl, ?_, st.os, st.tape, st.output, st.inv.size, fun b hb hn => st.inv.old b hb hn, fun b hb => ?_⟩
          · have : (fn.results.toList.mapM (resOne a1.tmps)).run P w1 = .ok [a1.tmps.getD s undef] w1 := by rw [hrv]; rfl
            exact results_run this
          · refine ⟨hd2, [a1.tmps.getD s undef], ba, [], rfl, ⟨⟨hd2, blk2, [], by rw [hcc], y5, by rw [hba, List.append_nil]⟩, fun q => (by cases q), fun _ => hcc⟩, fun q => (by cases q), ?_, by simp⟩
            refine ⟨_, [], [], [], rfl, ?_, fun q => (by cases q), ⟨rfl, rfl⟩, rfl⟩
            rw [hw1.1]
            exact one_int hw1.2
          · obtain ⟨q1, q2, c, q3⟩ := y7 b (by rw [hba] at hb; simpa using hb)
            exact ⟨c, _, q3⟩
      · cases h
  · cases h

theorem fnM_one {k : Nat} {e : TypeId} {u : Ty} {fn : Func} {c : Code} {F : Args [.v (.slice e u), .v (.int .i64)] → Option (Ress [.slice e u, .int .i64])} (hu : u.flat = true) (hm : P.follows .mixedOrders = true) (hT : TOK P T) (hK : KOK P K) (hf : P.funcs[k]? = some fn) (hb : fn.body = some c) (hc : okCode ⟨fn.ntmps, true, undef⟩ c = true) (hp : 2 ≤ fn.ntmps) (hn : fn.name ≠ "runtime.NumGoroutine")
    (h : ∀ (x : Args [.v (.slice e u), .v (.int .i64)]) (y : Ress [.slice e u, .int .i64]), F x = some y → ∃ LT : LTab (Ress [.slice e u, .int .i64]), (∀ v0, LTOK P ⟨fn.ntmps, true, v0⟩ LT (endM e u fn.results.toList) c) ∧ fnM T K H e u LT c fn.results.toList x = some y) :
    KOne P k ⟨[.v (.slice e u), .v (.int .i64)], [.slice e u, .int .i64], false, false, true, F⟩ := by
  refine ⟨fun q => (by cases q), fun _ => ?_, fn, hf, hn, by rw [hb]; rfl⟩
  intro x y hxy w vs ba hv hnd hw
  obtain ⟨LT, hL, hF⟩ := h x y hxy
  obtain ⟨v0, r1, b1, b2, rfl, rfl, o1, v1, r2, b3, b4, rfl, rfl, o2, rfl, rfl⟩ := hv
  have eb3 : b3 = [] := o2.1.flat rfl
  subst eb3
  simp only [List.append_nil] at *
  have hv1 : v1 = .int .i64 x.2.1 ∧ (Lit.int .i64 x.2.1).wf = true := by
    have c1 := o2.2.2 rfl
    have c2 := o2.1.1
    rw [c1] at c2
    simp only [List.cons.injEq, and_true] at c2
    exact ⟨c2, o2.1.2.1⟩
  refine calls_of_wp hf hb ?_
  have okc : okCode ⟨fn.ntmps, true, v0⟩ c = true := by
    have : ∀ c, okCode ⟨fn.ntmps, true, undef⟩ c = okCode ⟨fn.ntmps, true, v0⟩ c := by
      intro c
      induction c <;> simp_all [okCode]
    rw [← this]; exact hc
  exact evL_sound (W := fun b => b ∈ b1) (A := fun b => b ∈ b1) hm hT hK (fun b hb => hb) okc (hL v0) hF (initM_St hu o1 hv1.1 hv1.2 hp hw) rfl (fun env' a' w' g' q1 q2 q3 => AfterM_of (C := ⟨_, _, false, false, true, F⟩) (x := x.1) hu o1 q2 q1) (fun id env' a' w' g' q1 => (by cases q1)) (fun env' a' w' g' q1 q2 q3 => AfterM_of (C := ⟨_, _, false, false, true, F⟩) (x := x.1) hu o1 q2 q1)

end
end Go.Proofs.YtkoifikjfnbcpaaEv
