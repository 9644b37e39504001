/- IsPoly tells what l01Is tells; lists of polynomials and their codes, the program's and the reference's. -/
import Derived.Test.YtkoifikjfnbcpaaEvPAb
set_option linter.unusedVariables false
set_option linter.unusedSimpArgs false
namespace Go.Proofs.YtkoifikjfnbcpaaEv
open Go Go.RowKit Go.Proofs

theorem run160 {p d : Int} (hp : 2 ≤ p ∧ p ≤ 13) (hd : 1 ≤ d ∧ d ≤ 3) {f0 N : Nat} : ∀ (r pre : List term.den) (q : Option ex.den) (F : Nat), Ahead pre q → r.length < F → (pre ++ r).length = N → N ≤ 2000000 → (∀ t ∈ pre ++ r, okX t.1) →
    iter (fun s k => st160_4 cf82 cf87 cf151 cf159 (f0 + 4) s k (fun s' => match s' with | ((t1_0, t1_1, t1_2, _), (t17, _), (t18, _), (t19, _), _) => (some (true, ())))) F ((p, d, pre ++ r, ()), ((pre ++ r, ()), (((N : Int), ()), (((pre.length : Int), ()), ())))) = some (vT p d q r, ())
  | [], pre, q, F, hq, hF, hl, hN, ho => by
    obtain ⟨F, rfl⟩ : ∃ f, F = f + 1 := ⟨F - 1, by simp at hF; omega⟩
    rw [List.append_nil] at hl ⊢
    simp only [iter, st160_4]
    simp (disch := omega) only [dlt_f, cond_false]
    rfl
  | t :: r, pre, q, F, hq, hF, hl, hN, ho => by
    obtain ⟨F, rfl⟩ : ∃ f, F = f + 1 := ⟨F - 1, by simp at hF; omega⟩
    have l1 : pre.length < N := by rw [← hl]; simp
    have g1 : ∀ dd, (pre ++ t :: r).getD pre.length dd = t := fun dd => by rw [List.getD_eq_getElem?_getD, List.getElem?_append_right (Nat.le_refl _)]; simp
    have ot := ho t (by simp)
    have g : cf159 (t.1, ()) = some (degX t.1, ()) := if_pos ot
    have ih := run160 hp hd (f0 := f0) (N := N) r (pre ++ [t]) (some t.1) F (.inr ⟨pre, t, rfl, rfl⟩) (by simp at hF; omega) (by simpa using hl) hN (by simpa using ho)
    simp only [List.append_assoc, List.singleton_append, List.length_append, List.length_singleton] at ih
    have inner : ∀ kx : ShVal sh160_9 → Option R160, iter (fun s k => st160_9 cf82 cf87 cf151 cf159 (f0 + 4) s k kx) (f0 + 4) ((p, d, pre ++ t :: r, ()), ((t.1, t.2.1, ()), ((d, ()), ((pre ++ t :: r, ()), (((N : Int), ()), (((pre.length : Int), ()), ())))))) =
        bif (decide (2 ≤ d) || decide (x1 t.1 = 0)) && (decide (3 ≤ d) || decide (x2 t.1 = 0)) then kx ((p, d, pre ++ t :: r, ()), ((t.1, t.2.1, ()), (((3 : Int), ()), ((pre ++ t :: r, ()), (((N : Int), ()), (((pre.length : Int), ()), ())))))) else some (false, ()) := fun kx => in160 hd
    have hw : w6 ((pre.length : Int) + 1) = (pre.length : Int) + 1 := w6_id (by omega) (by omega)
    simp only [iter, st160_4]
    simp (disch := omega) only [ofn, tn_cast, g1, dlt_t, ib_t, hl, cond_true]
    show (match cf159 (t.1, ()) with | some r19 => _ | none => none) = _
    rw [g]
    show (bif decide ((12 : Int) < degX t.1) then _ else _) = _
    simp only [vT]
    by_cases c1 : (12 : Int) < degX t.1
    · rw [dlt_t c1]
      have : expsB d t.1 = false := by unfold expsB; rw [decide_eq_false (by omega : ¬ degX t.1 ≤ 12), Bool.and_false]
      rw [this]; rfl
    · rw [dlt_f (by omega), cond_false]
      show (bif (bif false then true else decide (nT t < 1)) then _ else _) = _
      by_cases c2 : nT t < 1
      · rw [dlt_t c2]
        have : inV p t = false := by unfold inV; rw [decide_eq_false (by omega : ¬ 1 ≤ nT t), Bool.false_and]
        rw [this, Bool.and_false]; rfl
      · rw [dlt_f (by omega)]
        show (bif (bif false then true else decide (p ≤ nT t)) then _ else _) = _
        by_cases c3 : p ≤ nT t
        · rw [dle_t c3]
          have : inV p t = false := by unfold inV; rw [decide_eq_false (by omega : ¬ nT t ≤ p - 1), Bool.and_false]
          rw [this, Bool.and_false]; rfl
        · rw [dle_f (by omega)]
          have hv : inV p t = true := by unfold inV; rw [decide_eq_true (by omega : 1 ≤ nT t), decide_eq_true (by omega : nT t ≤ p - 1)]; rfl
          have he : expsB d t.1 = ((decide (2 ≤ d) || decide (x1 t.1 = 0)) && (decide (3 ≤ d) || decide (x2 t.1 = 0))) := by unfold expsB; rw [decide_eq_true (by omega : degX t.1 ≤ 12), Bool.and_true]
          rw [hv, Bool.and_true, he]
          simp only [cond_false]
          rcases hq with ⟨rfl, rfl⟩ | ⟨pre', s, rfl, rfl⟩
          · show (bif decide ((0 : Int) < ((([] : List term.den).length : Nat) : Int)) then _ else _) = _
            rw [dlt_f (by simp)]
            simp only [cond_false, ordB, Bool.and_true]
            refine (inner _).trans ?_
            cases ((decide (2 ≤ d) || decide (x1 t.1 = 0)) && (decide (3 ≤ d) || decide (x2 t.1 = 0))) with
            | false => rfl
            | true =>
              simp only [cond_true, Bool.true_and]
              exact ih
          · have hlen : (pre' ++ [s]).length = pre'.length + 1 := by simp
            have g0 : ∀ dd, (pre' ++ [s] ++ t :: r).getD pre'.length dd = s := fun dd => by rw [List.append_assoc, List.getD_eq_getElem?_getD, List.getElem?_append_right (Nat.le_refl _)]; simp
            have os := ho s (by simp)
            have g3 : cf151 (s.1, t.1, ()) = some (cmpX s.1 t.1, ()) := if_pos ⟨os, ot⟩
            have hk := cmpX_key os ot
            have hwm : w6 (((pre' ++ [s]).length : Int) - 1) = (pre'.length : Int) := by rw [hlen]; exact (w6_id (by omega) (by simp at hl; omega)).trans (by omega)
            rw [dlt_t (by rw [hlen]; omega), cond_true, hwm]
            rw [ib_t (by omega) (by rw [hlen] at l1; omega), cond_true]
            show (match cf151 (((pre' ++ [s] ++ t :: r).getD pre'.length (Ty.dflt term)).1, t.1, ()) with | some r20 => _ | none => none) = _
            rw [g0, g3]
            simp only [ordB]
            by_cases c4 : keyX s.1 < keyX t.1
            · rw [decide_eq_true c4, Bool.and_true]
              show (bif (bif false then true else (bif true then decide ((0 : Int) ≤ cmpX s.1 t.1) else false)) then _ else _) = _
              rw [dle_f (hk.2 c4)]
              simp only [cond_false, cond_true]
              refine (inner _).trans ?_
              cases ((decide (2 ≤ d) || decide (x1 t.1 = 0)) && (decide (3 ≤ d) || decide (x2 t.1 = 0))) with
              | false => rfl
              | true =>
                simp only [cond_true, Bool.true_and, hw]
                exact ih
            · rw [decide_eq_false c4, Bool.and_false, Bool.false_and]
              show (bif (bif false then true else (bif true then decide ((0 : Int) ≤ cmpX s.1 t.1) else false)) then _ else _) = _
              have : ¬ cmpX s.1 t.1 < 0 := fun q => c4 (hk.1 q)
              rw [dle_t (by omega)]; rfl


abbrev okT2 (l : List term.den) : Prop := cf119.okTs2 l
open Classical in
noncomputable def cf160 : G160 := fun x => if okT2 (tms x.1) then some (vP x.1, ()) else none
theorem k160 : KOne Try.prog 160 ⟨[.v poly], [.bool], false, false, 0, cf160⟩ := ok160 _ _ _ _ (.cons k86 (.cons k87 (.cons k151 (.cons k159 .nil)))) cf160 fun x y h => by
  obtain ⟨⟨p, d, l, u⟩, _⟩ := x
  change List term.den at l
  change Int at p
  change Int at d
  simp only [cf160] at h
  split at h
  · rename_i hc
    injection h with h; subst h
    obtain ⟨h1, h2⟩ := hc
    have h1 : l.length ≤ 2000000 := h1
    refine ⟨l.length + 4, ?_⟩
    simp only [fn160]
    rw [show cf82 (p, ()) = some (isP p, ()) from rfl, show cf87 (d, ()) = some (decide (1 ≤ d) && decide (d ≤ 3), ()) from rfl]
    show _ = some ((isP p && (decide (1 ≤ d) && decide (d ≤ 3))) && vT p d none l, ())
    cases hP : isP p with
    | false => rfl
    | true =>
      have hp : 2 ≤ p ∧ p ≤ 13 := by simp only [isP, Bool.or_eq_true, decide_eq_true_eq] at hP; omega
      cases hd : (decide (1 ≤ d) && decide (d ≤ 3)) with
      | false => rfl
      | true =>
        have hd' := hd
        simp only [Bool.and_eq_true, decide_eq_true_eq] at hd'
        simp only [Bool.not_true, cond_false, Bool.true_and, ru160_4]
        rw [dln_t (by omega), cond_true]
        exact run160 hp hd' (f0 := l.length) (N := l.length) l [] none (l.length + 4) (.inl ⟨rfl, rfl⟩) (by omega) rfl h1 h2
  · cases h

theorem vT_can {p d : Int} : ∀ {ts : List term.den} {q : Option ex.den}, (∀ t ∈ ts, okX t.1) → vT p d q ts = true → CanT p ts ∧ DegLe 12 ts ∧ ∀ e, q = some e → ∀ t ∈ ts, keyX e < keyT3 t
  | [], q, _, _ => ⟨can_nil, fun t h => (by cases h), fun e _ t h => (by cases h)⟩
  | t :: r, q, ho, h => by
    simp only [vT, Bool.and_eq_true] at h
    obtain ⟨⟨⟨h1, h2⟩, h3⟩, h4⟩ := h
    obtain ⟨c1, c2, c3⟩ := vT_can (fun s hs => ho s (.tail _ hs)) h4
    simp only [inV, Bool.and_eq_true, decide_eq_true_eq] at h2
    have hdeg : degX t.1 ≤ 12 := by unfold expsB at h1; simp only [Bool.and_eq_true, decide_eq_true_eq] at h1; exact h1.2
    have c3 := c3 t.1 rfl
    refine ⟨⟨List.pairwise_cons.2 ⟨fun s hs => c3 s hs, c1.srt⟩, fun s hs => ?_⟩, fun s hs => ?_, fun e he s hs => ?_⟩
    · rcases List.mem_cons.1 hs with rfl | hs
      · exact ⟨ho s (.head _), by show (0 : Int) < nT s; omega, by show nT s < p; omega⟩
      · exact c1.ok s hs
    · rcases List.mem_cons.1 hs with rfl | hs
      · exact hdeg
      · exact c2 s hs
    · subst he
      simp only [ordB, decide_eq_true_eq] at h3
      rcases List.mem_cons.1 hs with rfl | hs
      · exact h3
      · have := c3 s hs; show keyX e < keyT3 s; omega
theorem vP_can {x : Po} (ho : okT2 (tms x)) (h : vP x = true) : isP x.1 = true ∧ ((1 : Int) ≤ x.2.1 ∧ x.2.1 ≤ (3 : Int)) ∧ CanT x.1 (tms x) ∧ DegLe 12 (tms x) := by
  simp only [vP, Bool.and_eq_true, decide_eq_true_eq] at h
  obtain ⟨c1, c2, _⟩ := vT_can ho.2 h.2
  exact ⟨h.1.1, h.1.2, c1, c2⟩

theorem all_orG {α : Type} (f : α → Bool) (d : α) : ∀ l : List α, l.all f = true ∨ (l.all f = false ∧ ∃ n, n < l.length ∧ f (l.getD n d) = false ∧ ∀ i, i < n → f (l.getD i d) = true)
  | [] => .inl rfl
  | x :: r => by
    cases hx : f x with
    | false => exact .inr ⟨by simp [hx], 0, by simp, by simpa using hx, fun i hi => by omega⟩
    | true =>
      rcases all_orG f d r with h | ⟨h, n, h1, h2, h3⟩
      · exact .inl (by simp [hx]; simpa using h)
      · refine .inr ⟨by rw [List.all_cons, hx, h]; rfl, n + 1, by simpa using h1, by simpa using h2, fun i hi => ?_⟩
        cases i with
        | zero => simpa using hx
        | succ i => have := h3 i (by omega); simpa using this
theorem all_atG {α : Type} {f : α → Bool} {d : α} {l : List α} (h : l.all f = true) {i : Nat} (hi : i < l.length) : f (l.getD i d) = true := by
  rw [List.getD_eq_getElem?_getD, List.getElem?_eq_getElem hi]
  exact List.all_eq_true.1 h _ (List.getElem_mem hi)
theorem memG {α : Type} {d : α} {l : List α} {i : Nat} (hi : i < l.length) : l.getD i d ∈ l := by
  rw [List.getD_eq_getElem?_getD, List.getElem?_eq_getElem hi]; exact List.getElem_mem hi

abbrev DPo : Po := Ty.dflt poly
def smallV (L : List Po) : Prop := L.length ≤ 2000000 ∧ ∀ x ∈ L, okT2 (tms x)
open Classical in
noncomputable def cf122 : G122 := fun x => if smallV x.1 then some ((show List Po from x.1).all vP, ()) else none
theorem k122 : KOne Try.prog 122 ⟨[.v (.slice 58 poly)], [.bool], false, false, 0, cf122⟩ := ok122 _ (.cons k160 .nil) cf122 fun x y h => by
  obtain ⟨L, _⟩ := x
  change List Po at L
  simp only [cf122] at h
  split at h
  · rename_i hc
    injection h with h; subst h
    obtain ⟨h1, h2⟩ := hc
    have h1 : L.length ≤ 2000000 := h1
    have h2 : ∀ x ∈ L, okT2 (tms x) := h2
    refine ⟨L.length + 1, ?_⟩
    simp only [fn122]
    rw [dln_t (by omega)]
    simp only [cond_true, ofn, ru122_2]
    have g : ∀ i, i < L.length → cf160 (L.getD i DPo, ()) = some (vP (L.getD i DPo), ()) := fun i hi => if_pos (h2 _ (memG hi))
    rcases all_orG vP DPo L with hq | ⟨hq, n, q1, q2, q3⟩
    · rw [hq]
      refine iter_run L.length _ (fun i => ((L, ()), (((L.length : Int), ()), (((i : Int), ()), ())))) (by omega) (fun i hi k => ?_) (fun k => ?_)
      · simp (disch := omega) only [st122_2, ofn, cond_true, dlt_t, ib_t, tn_cast, w6_id]
        show (match cf160 (L.getD i DPo, ()) with | some r10 => _ | none => none) = _
        rw [g i hi, all_atG hq hi]; rfl
      · simp (disch := omega) only [st122_2, ofn, dlt_f, cond_false]
    · rw [hq]
      refine iter_run n _ (fun i => ((L, ()), (((L.length : Int), ()), (((i : Int), ()), ())))) (by omega) (fun i hi k => ?_) (fun k => ?_)
      · simp (disch := omega) only [st122_2, ofn, cond_true, dlt_t, ib_t, tn_cast, w6_id]
        show (match cf160 (L.getD i DPo, ()) with | some r10 => _ | none => none) = _
        rw [g i (by omega), q3 i hi]; rfl
      · simp (disch := omega) only [st122_2, ofn, cond_true, dlt_t, ib_t, tn_cast]
        show (match cf160 (L.getD n DPo, ()) with | some r10 => _ | none => none) = _
        rw [g n q1, q2]; rfl
  · cases h

/-! what a list's polynomials must be -/
def evB (ts : List term.den) : Bool := match ts with | [] => true | t :: _ => decide (degX t.1 = degI ts)
def cfE (l : List term.den) : Prop := okTs l
theorem ok_of {x : Po} (ho : okT2 (tms x)) (h : vP x = true) : okTs (tms x) := by
  obtain ⟨_, _, c1, c2⟩ := vP_can ho h
  exact okTs_of c1 c2 (by omega)
open Classical in
noncomputable def cf167 : G167 := fun x => if okTs (tms x.1) then some (evB (tms x.1), ()) else none
theorem k167 : KOne Try.prog 167 ⟨[.v poly], [.bool], false, false, 0, cf167⟩ := ok167 _ _ (.cons k158 (.cons k115 .nil)) cf167 fun x y h => by
  obtain ⟨⟨p, d, l, u⟩, _⟩ := x
  change List term.den at l
  simp only [cf167] at h
  split at h
  · rename_i hc
    injection h with h; subst h
    have hc : okTs l := hc
    have hl := hc.1
    refine ⟨0, ?_⟩
    simp only [fn167]
    rw [dln_t (by omega), cond_true]
    cases l with
    | nil => rfl
    | cons t r =>
      have g : cf158 (t.1, ()) = some (degX t.1, ()) := if_pos (hc.2 t (.head _))
      have g2 := g115_ok (p := p) (v := d) hc
      simp only [ofn]
      rw [deq_f (by simp only [List.length_cons]; omega), cond_false, ib_t (by omega) (by simp only [List.length_cons]; omega), cond_true]
      show (match cf158 (t.1, ()) with | some r5 => _ | none => none) = _
      rw [g]
      show (match cf115 ((p, d, t :: r, ()), ()) with | some r6 => _ | none => none) = _
      rw [g2]; rfl
  · cases h
def cf182 : G182 := fun x => if (show List term.den from x.1.2.2.1).length ≤ 9223372036854775807 then some (decide (((show List term.den from x.1.2.2.1).length : Int) = 0), ()) else none
theorem k182 : KOne Try.prog 182 ⟨[.v poly], [.bool], false, false, 0, cf182⟩ := ok182 .nil cf182 fun x y h => by
  obtain ⟨⟨p, d, l, u⟩, _⟩ := x
  change List term.den at l
  simp only [cf182] at h
  split at h
  · rename_i hc
    injection h with h; subst h
    refine ⟨0, ?_⟩
    have hc : l.length ≤ 9223372036854775807 := hc
    simp only [fn182]
    rw [dln_t hc, cond_true]; rfl
  · cases h
open Classical in
noncomputable def cf169 : G169 := fun x => if okTs (tms x.1) then some (evB (tms x.1), ()) else none
theorem k169 : KOne Try.prog 169 ⟨[.v poly], [.bool], false, false, 0, cf169⟩ := ok169 _ _ _ (.cons k182 (.cons k159 (.cons k117 .nil))) cf169 fun x y h => by
  obtain ⟨⟨p, d, l, u⟩, _⟩ := x
  change List term.den at l
  simp only [cf169] at h
  split at h
  · rename_i hc
    injection h with h; subst h
    have hc : okTs l := hc
    have hl := hc.1
    have g0 : cf182 ((p, d, l, ()), ()) = some (decide ((l.length : Int) = 0), ()) := if_pos (by show l.length ≤ _; omega)
    refine ⟨0, ?_⟩
    simp only [fn169]
    show (match cf182 ((p, d, l, ()), ()) with | some r6 => _ | none => none) = _
    rw [g0]
    cases l with
    | nil => rfl
    | cons t r =>
      have g : cf159 (t.1, ()) = some (degX t.1, ()) := if_pos (hc.2 t (.head _))
      have g2 := g117_ok (p := p) (v := d) hc
      show (bif decide ((((t :: r).length : Nat) : Int) = 0) then _ else _) = _
      rw [deq_f (by simp only [List.length_cons]; omega), cond_false]
      show (bif ib (0 : Int) (((t :: r).length : Nat) : Int) then _ else _) = _
      rw [ib_t (by omega) (by simp only [List.length_cons]; omega), cond_true]
      show (match cf159 (t.1, ()) with | some r7 => _ | none => none) = _
      rw [g]
      show (match cf117 ((p, d, t :: r, ()), ()) with | some r8 => _ | none => none) = _
      rw [g2]; rfl
  · cases h
def cf123 : G123 := fn123 0
theorem k123 : KOne Try.prog 123 ⟨[.v poly, .v poly], [.bool], false, false, 0, cf123⟩ := ok123 .nil cf123 fun x y h => ⟨0, h⟩


def alB (x0 x : Po) : Bool := decide ((show Int from x.1) = x0.1) && decide ((show Int from x.2.1) = x0.2.1)
def gd (x0 x : Po) : Bool := (alB x0 x && !(decide (degI (tms x) < 1))) && evB (tms x)
def lcA (L : List Po) : Int := bif L.all vP then (bif decide ((8 : Int) < L.length) then 2 else (bif L.all (gd (L.getD 0 DPo)) then 0 else 2)) else 1

theorem step135 {L : List Po} (hs : smallV L) (hv : L.all vP = true) {F0 i : Nat} (hi : i < L.length) (k kx : ShVal sh135_9 → Option R135) :
    st135_9 cf119 cf115 cf167 F0 ((L, ()), (((i : Int), ()), ())) k kx = bif gd (L.getD 0 DPo) (L.getD i DPo) then k ((L, ()), ((((i + 1 : Nat) : Int), ()), ())) else some ((2 : Int), ()) := by
  have hL := hs.1
  have hx := hs.2 _ (memG (d := DPo) hi)
  have hk := ok_of hx (all_atG hv hi)
  have g1 : cf115 (L.getD i DPo, ()) = some (degI (tms (L.getD i DPo)), ()) := g115_ok (p := (L.getD i DPo).1) (v := (L.getD i DPo).2.1) hk
  have g2 : cf167 (L.getD i DPo, ()) = some (evB (tms (L.getD i DPo)), ()) := if_pos hk
  have e0 : (0 : Nat) < L.length := by omega
  simp (disch := omega) only [st135_9, dln_t, cond_true, ofn, dlt_t, ib_t, tn_cast, w6_id]
  show (bif !(decide ((show Int from (L.getD i DPo).1) = (L.getD 0 DPo).1)) then some ((2 : Int), ()) else (bif !(decide ((show Int from (L.getD i DPo).2.1) = (L.getD 0 DPo).2.1)) then some ((2 : Int), ()) else (match cf115 (L.getD i DPo, ()) with | some r14 => (bif decide (r14.1 < (1 : Int)) then some ((2 : Int), ()) else (match cf167 (L.getD i DPo, ()) with | some r15 => (bif !r15.1 then some ((2 : Int), ()) else k ((L, ()), ((((i + 1 : Nat) : Int), ()), ()))) | none => none)) | none => none))) = _
  rw [g1, g2]
  unfold gd alB
  cases decide ((show Int from (L.getD i DPo).1) = (L.getD 0 DPo).1) <;> cases decide ((show Int from (L.getD i DPo).2.1) = (L.getD 0 DPo).2.1) <;> cases evB (tms (L.getD i DPo)) <;> by_cases q : degI (tms (L.getD i DPo)) < 1 <;> simp [q]

open Classical in
noncomputable def cf135 : G135 := fun x => if smallV x.1 then some (lcA x.1, ()) else none
theorem k135 : KOne Try.prog 135 ⟨[.v (.slice 58 poly)], [i64], false, false, 0, cf135⟩ := ok135 _ _ _ (.cons k119 (.cons k115 (.cons k167 .nil))) cf135 fun x y h => by
  obtain ⟨L, _⟩ := x
  change List Po at L
  simp only [cf135] at h
  split at h
  · rename_i hs
    injection h with h; subst h
    have hs : smallV L := hs
    obtain ⟨h1, h2⟩ := hs
    refine ⟨L.length + 1, ?_⟩
    simp only [fn135, ru135_2]
    have g : ∀ i, i < L.length → cf119 (L.getD i DPo, ()) = some (vP (L.getD i DPo), ()) := fun i hi => if_pos (h2 _ (memG hi))
    unfold lcA
    rcases all_orG vP DPo L with hq | ⟨hq, n, q1, q2, q3⟩
    · rw [hq, cond_true]
      refine iter_run L.length _ (fun i => ((L, ()), (((i : Int), ()), ()))) (by omega) (fun i hi k => ?_) (fun k => ?_)
      · simp (disch := omega) only [st135_2, dln_t, ofn, cond_true, dlt_t, ib_t, tn_cast, w6_id]
        show (match cf119 (L.getD i DPo, ()) with | some r10 => _ | none => none) = _
        rw [g i hi, all_atG hq hi]; rfl
      · simp (disch := omega) only [st135_2, dln_t, ofn, cond_true, dlt_f, cond_false]
        by_cases c8 : (8 : Int) < L.length
        · rw [dlt_t c8]; rfl
        · rw [dlt_f (by omega)]
          simp only [cond_false, ru135_9]
          rcases all_orG (gd (L.getD 0 DPo)) DPo L with hg | ⟨hg, n, q1, q2, q3⟩
          · rw [hg]
            refine iter_run L.length _ (fun i => ((L, ()), (((i : Int), ()), ()))) (by omega) (fun i hi k => ?_) (fun k => ?_)
            · rw [step135 ⟨h1, h2⟩ hq hi, all_atG hg hi]; rfl
            · simp (disch := omega) only [st135_9, dln_t, ofn, cond_true, dlt_f, cond_false]
          · rw [hg]
            refine iter_run n _ (fun i => ((L, ()), (((i : Int), ()), ()))) (by omega) (fun i hi k => ?_) (fun k => ?_)
            · rw [step135 ⟨h1, h2⟩ hq (by omega), q3 i hi]; rfl
            · rw [step135 ⟨h1, h2⟩ hq q1, q2]; rfl
    · rw [hq, cond_false]
      refine iter_run n _ (fun i => ((L, ()), (((i : Int), ()), ()))) (by omega) (fun i hi k => ?_) (fun k => ?_)
      · simp (disch := omega) only [st135_2, dln_t, ofn, cond_true, dlt_t, ib_t, tn_cast, w6_id]
        show (match cf119 (L.getD i DPo, ()) with | some r10 => _ | none => none) = _
        rw [g i (by omega), q3 i hi]; rfl
      · simp (disch := omega) only [st135_2, dln_t, ofn, cond_true, dlt_t, ib_t, tn_cast]
        show (match cf119 (L.getD n DPo, ()) with | some r10 => _ | none => none) = _
        rw [g n q1, q2]; rfl
  · cases h

/-- The code of a list of at least one polynomial. -/
def lc (L : List Po) : Int := bif L.all vP then (bif decide ((L.length : Int) = 0) then 2 else (bif L.all (gd (L.getD 0 DPo)) && decide ((L.length : Int) ≤ 8) then 0 else 2)) else 1
noncomputable def cf64 : G64 := fn64 cf135 cf73 0
theorem k64 : KOne Try.prog 64 ⟨[.v (.slice 58 poly), .v i64], [i64], false, false, 0, cf64⟩ := ok64 _ _ (.cons k135 (.cons k73 .nil)) cf64 fun x y h => ⟨0, h⟩
theorem g64_ok {L : List Po} {n : Int} (hs : smallV L) (hn : 0 ≤ n ∧ n ≤ 12) : cf64 (L, n, ()) = some (lc L, ()) := by
  have g : cf135 (L, ()) = some (lcA L, ()) := if_pos hs
  have hL := hs.1
  simp only [cf64, fn64]
  rw [g, show cf73 (n, (0 : Int), (12 : Int), ()) = some (decide (0 ≤ n) && decide (n ≤ 12), ()) from rfl, decide_eq_true hn.1, decide_eq_true hn.2]
  simp only [ofn]
  rw [dln_t (show L.length ≤ 9223372036854775807 by omega)]
  unfold lcA lc
  cases hq : L.all vP with
  | false => rfl
  | true =>
    simp only [cond_true]
    by_cases c8 : (8 : Int) < L.length
    · rw [dlt_t c8, deq_f (show (L.length : Int) ≠ 0 by omega), dle_f (show (8 : Int) < (L.length : Int) by omega)]
      simp
    · rw [dlt_f (show (L.length : Int) ≤ 8 by omega), dle_t (show (L.length : Int) ≤ 8 by omega), Bool.and_true]
      simp only [cond_false]
      by_cases c0 : (L.length : Int) = 0
      · have : L = [] := List.eq_nil_of_length_eq_zero (by omega)
        subst this; rfl
      · rw [deq_f c0]
        cases hg : L.all (gd (L.getD 0 DPo)) with
        | false => rfl
        | true => rfl

theorem step137 {L : List Po} (hs : smallV L) (hv : L.all vP = true) {F0 i : Nat} (hi : i < L.length) (k kx : ShVal sh137_2 → Option R137) :
    st137_2 cf123 cf169 cf117 F0 ((L, ()), ((L, ()), (((L.length : Int), ()), (((i : Int), ()), ())))) k kx = bif gd (L.getD 0 DPo) (L.getD i DPo) then k ((L, ()), ((L, ()), (((L.length : Int), ()), ((((i + 1 : Nat) : Int), ()), ())))) else some (false, ()) := by
  have hL := hs.1
  have hx := hs.2 _ (memG (d := DPo) hi)
  have hk := ok_of hx (all_atG hv hi)
  have g1 : cf117 (L.getD i DPo, ()) = some (degI (tms (L.getD i DPo)), ()) := g117_ok (p := (L.getD i DPo).1) (v := (L.getD i DPo).2.1) hk
  have g2 : cf169 (L.getD i DPo, ()) = some (evB (tms (L.getD i DPo)), ()) := if_pos hk
  have g3 : cf123 (L.getD i DPo, L.getD 0 DPo, ()) = some (alB (L.getD 0 DPo) (L.getD i DPo), ()) := by
    unfold alB
    show (bif decide ((show Int from (L.getD i DPo).1) = (L.getD 0 DPo).1) then (some ((bif true then decide ((show Int from (L.getD i DPo).2.1) = (L.getD 0 DPo).2.1) else false), ())) else (some (false, ()))) = _
    cases decide ((show Int from (L.getD i DPo).1) = (L.getD 0 DPo).1) <;> rfl
  have e0 : (0 : Nat) < L.length := by omega
  simp (disch := omega) only [st137_2, cond_true, ofn, dlt_t, ib_t, tn_cast, w6_id]
  show (match cf123 (L.getD i DPo, L.getD 0 DPo, ()) with | some r13 => (bif !r13.1 then some (false, ()) else (match cf169 (L.getD i DPo, ()) with | some r14 => (bif !r14.1 then some (false, ()) else (match cf117 (L.getD i DPo, ()) with | some r15 => (bif decide (r15.1 < (1 : Int)) then some (false, ()) else k ((L, ()), ((L, ()), (((L.length : Int), ()), ((((i + 1 : Nat) : Int), ()), ()))))) | none => none)) | none => none)) | none => none) = _
  rw [g1, g2, g3]
  unfold gd
  cases alB (L.getD 0 DPo) (L.getD i DPo) <;> cases evB (tms (L.getD i DPo)) <;> by_cases q : degI (tms (L.getD i DPo)) < 1 <;> simp [q]
open Classical in
noncomputable def cf137 : G137 := fun x => if smallV x.1 ∧ (show List Po from x.1).all vP = true then some ((show List Po from x.1).all (gd ((show List Po from x.1).getD 0 DPo)) && decide (((show List Po from x.1).length : Int) ≤ 8), ()) else none
theorem k137 : KOne Try.prog 137 ⟨[.v (.slice 58 poly)], [.bool], false, false, 0, cf137⟩ := ok137 _ _ _ (.cons k123 (.cons k169 (.cons k117 .nil))) cf137 fun x y h => by
  obtain ⟨L, _⟩ := x
  change List Po at L
  simp only [cf137] at h
  split at h
  · rename_i hs
    injection h with h; subst h
    obtain ⟨hs, hq⟩ := hs
    have hs : smallV L := hs
    have hq : L.all vP = true := hq
    have h1 := hs.1
    refine ⟨L.length + 1, ?_⟩
    simp only [fn137]
    rw [dln_t (by omega)]
    simp only [cond_true, ofn, ru137_2]
    rcases all_orG (gd (L.getD 0 DPo)) DPo L with hg | ⟨hg, n, q1, q2, q3⟩
    · rw [hg, Bool.true_and]
      refine iter_run L.length _ (fun i => ((L, ()), ((L, ()), (((L.length : Int), ()), (((i : Int), ()), ()))))) (by omega) (fun i hi k => ?_) (fun k => ?_)
      · rw [step137 hs hq hi, all_atG hg hi]; rfl
      · simp (disch := omega) only [st137_2, dln_t, ofn, cond_true, dlt_f, cond_false]
    · rw [hg, Bool.false_and]
      refine iter_run n _ (fun i => ((L, ()), ((L, ()), (((L.length : Int), ()), (((i : Int), ()), ()))))) (by omega) (fun i hi k => ?_) (fun k => ?_)
      · rw [step137 hs hq (by omega), q3 i hi]; rfl
      · rw [step137 hs hq q1, q2]; rfl
  · cases h
noncomputable def cf67 : G67 := fn67 cf122 cf137 0
theorem k67 : KOne Try.prog 67 ⟨[.v (.slice 58 poly)], [i64], false, false, 0, cf67⟩ := ok67 _ _ (.cons k122 (.cons k137 .nil)) cf67 fun x y h => ⟨0, h⟩
theorem g67_ok {L : List Po} (hs : smallV L) : cf67 (L, ()) = some (lc L, ()) := by
  have g : cf122 (L, ()) = some (L.all vP, ()) := if_pos hs
  have hL := hs.1
  simp only [cf67, fn67]
  rw [g]
  unfold lc
  cases hq : L.all vP with
  | false => rfl
  | true =>
    have g2 : cf137 (L, ()) = some (L.all (gd (L.getD 0 DPo)) && decide ((L.length : Int) ≤ 8), ()) := if_pos ⟨hs, hq⟩
    simp only [ofn]
    rw [dln_t (show L.length ≤ 9223372036854775807 by omega), g2]
    simp only [Bool.not_true, cond_false, cond_true]
    by_cases c0 : (L.length : Int) = 0
    · rw [deq_t c0]; rfl
    · rw [deq_f c0]
      cases (L.all (gd (L.getD 0 DPo)) && decide ((L.length : Int) ≤ 8)) <;> rfl

end Go.Proofs.YtkoifikjfnbcpaaEv
