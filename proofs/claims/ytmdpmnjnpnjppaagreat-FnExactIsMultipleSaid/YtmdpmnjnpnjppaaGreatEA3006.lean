/- The program's operations on plain typed data, that the machine does the same, what the functions come to, and what they give (part 6). No condition. -/
import Derived.Test.YtmdpmnjnpnjppaaGreatEA3005
set_option linter.unusedVariables false
set_option linter.unusedSimpArgs false
namespace Go.Proofs.YtmdpmnjnpnjppaaGreatEv
open Go Go.RowKit Go.Proofs
theorem run160 {p d : Int} (hp : 2 ≤ p ∧ p ≤ 13) (hd : 1 ≤ d ∧ d ≤ 3) {f0 N : Nat} : ∀ (r pre : List term.den) (q : Option ex.den) (F : Nat), Ahead pre q → r.length < F → (pre ++ r).length = N → N ≤ 2000000 → (∀ t ∈ pre ++ r, okX t.1) →
    iter (fun s k => st91_4 cf82 cf87 cf151 cf159 (f0 + 4) s k (fun s' => match s' with | ((t1_0, t1_1, t1_2, _), (t17, _), (t18, _), (t19, _), _) => (some (true, ())))) F ((p, d, pre ++ r, ()), ((pre ++ r, ()), (((N : Int), ()), (((pre.length : Int), ()), ())))) = some (vT p d q r, ())
  | [], pre, q, F, hq, hF, hl, hN, ho => by
    obtain ⟨F, rfl⟩ : ∃ f, F = f + 1 := ⟨F - 1, by simp at hF; omega⟩
    rw [List.append_nil] at hl ⊢
    simp only [iter, st91_4]
    simp (disch := omega) only [dlt_f, cond_false]
    rfl
  | t :: r, pre, q, F, hq, hF, hl, hN, ho => by
    obtain ⟨F, rfl⟩ : ∃ f, F = f + 1 := ⟨F - 1, by simp at hF; omega⟩
    have l1 : pre.length < N := by rw [← hl]; simp
    have g1 : ∀ dd, (pre ++ t :: r).getD pre.length dd = t := fun dd => by rw [List.getD_eq_getElem?_getD, List.getElem?_append_right (Nat.le_refl _)]; simp
    have ot := ho t (by simp)
    have g : cf159 (t.1, ()) = some (degX t.1, ()) := if_pos ot
    have ih := run160 hp hd (f0 := f0) (N := N) r (pre ++ [t]) (some t.1) F (.inr ⟨pre, t, rfl, rfl⟩) (by simp at hF; omega) (by simpa using hl) hN (by simpa using ho)
    simp only [List.append_assoc, List.singleton_append, List.length_append, List.length_singleton] at ih
    have inner : ∀ kx : ShVal sh91_9 → Option R91, iter (fun s k => st91_9 cf82 cf87 cf151 cf159 (f0 + 4) s k kx) (f0 + 4) ((p, d, pre ++ t :: r, ()), ((t.1, t.2.1, ()), ((d, ()), ((pre ++ t :: r, ()), (((N : Int), ()), (((pre.length : Int), ()), ())))))) =
        bif (decide (2 ≤ d) || decide (x1 t.1 = 0)) && (decide (3 ≤ d) || decide (x2 t.1 = 0)) then kx ((p, d, pre ++ t :: r, ()), ((t.1, t.2.1, ()), (((3 : Int), ()), ((pre ++ t :: r, ()), (((N : Int), ()), (((pre.length : Int), ()), ())))))) else some (false, ()) := fun kx => in160 hd
    have hw : w6 ((pre.length : Int) + 1) = (pre.length : Int) + 1 := w6_id (by omega) (by omega)
    simp only [iter, st91_4]
    simp (disch := omega) only [ofn, tn_cast, g1, dlt_t, ib_t, hl, cond_true]
    show (match cf159 (t.1, ()) with | some r19 => _ | none => none) = _
    rw [g]
    show (bif decide ((12 : Int) < degX t.1) then _ else _) = _
    simp only [vT]
    by_cases c1 : (12 : Int) < degX t.1
    · rw [dlt_t c1]
      have : expsB d t.1 = false := by unfold expsB; rw [decide_eq_false (by omega : ¬ degX t.1 ≤ 12), Bool.and_false]
      rw [this]; rfl
    · rw [dlt_f (by omega), cond_false]
      show (bif (bif false then true else decide (nT t < 1)) then _ else _) = _
      by_cases c2 : nT t < 1
      · rw [dlt_t c2]
        have : inV p t = false := by unfold inV; rw [decide_eq_false (by omega : ¬ 1 ≤ nT t), Bool.false_and]
        rw [this, Bool.and_false]; rfl
      · rw [dlt_f (by omega)]
        show (bif (bif false then true else decide (p ≤ nT t)) then _ else _) = _
        by_cases c3 : p ≤ nT t
        · rw [dle_t c3]
          have : inV p t = false := by unfold inV; rw [decide_eq_false (by omega : ¬ nT t ≤ p - 1), Bool.and_false]
          rw [this, Bool.and_false]; rfl
        · rw [dle_f (by omega)]
          have hv : inV p t = true := by unfold inV; rw [decide_eq_true (by omega : 1 ≤ nT t), decide_eq_true (by omega : nT t ≤ p - 1)]; rfl
          have he : expsB d t.1 = ((decide (2 ≤ d) || decide (x1 t.1 = 0)) && (decide (3 ≤ d) || decide (x2 t.1 = 0))) := by unfold expsB; rw [decide_eq_true (by omega : degX t.1 ≤ 12), Bool.and_true]
          rw [hv, Bool.and_true, he]
          simp only [cond_false]
          rcases hq with ⟨rfl, rfl⟩ | ⟨pre', s, rfl, rfl⟩
          · show (bif decide ((0 : Int) < ((([] : List term.den).length : Nat) : Int)) then _ else _) = _
            rw [dlt_f (by simp)]
            simp only [cond_false, ordB, Bool.and_true]
            refine (inner _).trans ?_
            cases ((decide (2 ≤ d) || decide (x1 t.1 = 0)) && (decide (3 ≤ d) || decide (x2 t.1 = 0))) with
            | false => rfl
            | true =>
              simp only [cond_true, Bool.true_and]
              exact ih
          · have hlen : (pre' ++ [s]).length = pre'.length + 1 := by simp
            have g0 : ∀ dd, (pre' ++ [s] ++ t :: r).getD pre'.length dd = s := fun dd => by rw [List.append_assoc, List.getD_eq_getElem?_getD, List.getElem?_append_right (Nat.le_refl _)]; simp
            have os := ho s (by simp)
            have g3 : cf151 (s.1, t.1, ()) = some (cmpX s.1 t.1, ()) := if_pos ⟨os, ot⟩
            have hk := cmpX_key os ot
            have hwm : w6 (((pre' ++ [s]).length : Int) - 1) = (pre'.length : Int) := by rw [hlen]; exact (w6_id (by omega) (by simp at hl; omega)).trans (by omega)
            rw [dlt_t (by rw [hlen]; omega), cond_true, hwm]
            rw [ib_t (by omega) (by rw [hlen] at l1; omega), cond_true]
            show (match cf151 (((pre' ++ [s] ++ t :: r).getD pre'.length (Ty.dflt term)).1, t.1, ()) with | some r20 => _ | none => none) = _
            rw [g0, g3]
            simp only [ordB]
            by_cases c4 : keyX s.1 < keyX t.1
            · rw [decide_eq_true c4, Bool.and_true]
              show (bif (bif false then true else (bif true then decide ((0 : Int) ≤ cmpX s.1 t.1) else false)) then _ else _) = _
              rw [dle_f (hk.2 c4)]
              simp only [cond_false, cond_true]
              refine (inner _).trans ?_
              cases ((decide (2 ≤ d) || decide (x1 t.1 = 0)) && (decide (3 ≤ d) || decide (x2 t.1 = 0))) with
              | false => rfl
              | true =>
                simp only [cond_true, Bool.true_and, hw]
                exact ih
            · rw [decide_eq_false c4, Bool.and_false, Bool.false_and]
              show (bif (bif false then true else (bif true then decide ((0 : Int) ≤ cmpX s.1 t.1) else false)) then _ else _) = _
              have : ¬ cmpX s.1 t.1 < 0 := fun q => c4 (hk.1 q)
              rw [dle_t (by omega)]; rfl
abbrev okT2 (l : List term.den) : Prop := cf119.okTs2 l
open Classical in
noncomputable def cf160 : G91 := fun x => if okT2 (tms x.1) then some (vP x.1, ()) else none
theorem k160 : KOne Tryz.prog 91 ⟨[.v poly], [.bool], false, false, 0, cf160⟩ := ok91 _ _ _ _ (.cons k86 (.cons k87 (.cons k151 (.cons k159 .nil)))) cf160 fun x y h => by
  obtain ⟨⟨p, d, l, u⟩, _⟩ := x
  change List term.den at l
  change Int at p
  change Int at d
  simp only [cf160] at h
  split at h
  · rename_i hc
    injection h with h; subst h
    obtain ⟨h1, h2⟩ := hc
    have h1 : l.length ≤ 2000000 := h1
    refine ⟨l.length + 4, ?_⟩
    simp only [fn91]
    rw [show cf82 (p, ()) = some (isP p, ()) from rfl, show cf87 (d, ()) = some (decide (1 ≤ d) && decide (d ≤ 3), ()) from rfl]
    show _ = some ((isP p && (decide (1 ≤ d) && decide (d ≤ 3))) && vT p d none l, ())
    cases hP : isP p with
    | false => rfl
    | true =>
      have hp : 2 ≤ p ∧ p ≤ 13 := by simp only [isP, Bool.or_eq_true, decide_eq_true_eq] at hP; omega
      cases hd : (decide (1 ≤ d) && decide (d ≤ 3)) with
      | false => rfl
      | true =>
        have hd' := hd
        simp only [Bool.and_eq_true, decide_eq_true_eq] at hd'
        simp only [Bool.not_true, cond_false, Bool.true_and, ru91_4]
        rw [dln_t (by omega), cond_true]
        exact run160 hp hd' (f0 := l.length) (N := l.length) l [] none (l.length + 4) (.inl ⟨rfl, rfl⟩) (by omega) rfl h1 h2
  · cases h
theorem vT_can {p d : Int} : ∀ {ts : List term.den} {q : Option ex.den}, (∀ t ∈ ts, okX t.1) → vT p d q ts = true → CanT p ts ∧ DegLe 12 ts ∧ ∀ e, q = some e → ∀ t ∈ ts, keyX e < keyT3 t
  | [], q, _, _ => ⟨can_nil, fun t h => (by cases h), fun e _ t h => (by cases h)⟩
  | t :: r, q, ho, h => by
    simp only [vT, Bool.and_eq_true] at h
    obtain ⟨⟨⟨h1, h2⟩, h3⟩, h4⟩ := h
    obtain ⟨c1, c2, c3⟩ := vT_can (fun s hs => ho s (.tail _ hs)) h4
    simp only [inV, Bool.and_eq_true, decide_eq_true_eq] at h2
    have hdeg : degX t.1 ≤ 12 := by unfold expsB at h1; simp only [Bool.and_eq_true, decide_eq_true_eq] at h1; exact h1.2
    have c3 := c3 t.1 rfl
    refine ⟨⟨List.pairwise_cons.2 ⟨fun s hs => c3 s hs, c1.srt⟩, fun s hs => ?_⟩, fun s hs => ?_, fun e he s hs => ?_⟩
    · rcases List.mem_cons.1 hs with rfl | hs
      · exact ⟨ho s (.head _), by show (0 : Int) < nT s; omega, by show nT s < p; omega⟩
      · exact c1.ok s hs
    · rcases List.mem_cons.1 hs with rfl | hs
      · exact hdeg
      · exact c2 s hs
    · subst he
      simp only [ordB, decide_eq_true_eq] at h3
      rcases List.mem_cons.1 hs with rfl | hs
      · exact h3
      · have := c3 s hs; show keyX e < keyT3 s; omega
theorem vP_can {x : Po} (ho : okT2 (tms x)) (h : vP x = true) : isP x.1 = true ∧ ((1 : Int) ≤ x.2.1 ∧ x.2.1 ≤ (3 : Int)) ∧ CanT x.1 (tms x) ∧ DegLe 12 (tms x) := by
  simp only [vP, Bool.and_eq_true, decide_eq_true_eq] at h
  obtain ⟨c1, c2, _⟩ := vT_can ho.2 h.2
  exact ⟨h.1.1, h.1.2, c1, c2⟩
theorem all_orG {α : Type} (f : α → Bool) (d : α) : ∀ l : List α, l.all f = true ∨ (l.all f = false ∧ ∃ n, n < l.length ∧ f (l.getD n d) = false ∧ ∀ i, i < n → f (l.getD i d) = true)
  | [] => .inl rfl
  | x :: r => by
    cases hx : f x with
    | false => exact .inr ⟨by simp [hx], 0, by simp, by simpa using hx, fun i hi => by omega⟩
    | true =>
      rcases all_orG f d r with h | ⟨h, n, h1, h2, h3⟩
      · exact .inl (by simp [hx]; simpa using h)
      · refine .inr ⟨by rw [List.all_cons, hx, h]; rfl, n + 1, by simpa using h1, by simpa using h2, fun i hi => ?_⟩
        cases i with
        | zero => simpa using hx
        | succ i => have := h3 i (by omega); simpa using this
theorem all_atG {α : Type} {f : α → Bool} {d : α} {l : List α} (h : l.all f = true) {i : Nat} (hi : i < l.length) : f (l.getD i d) = true := by
  rw [List.getD_eq_getElem?_getD, List.getElem?_eq_getElem hi]
  exact List.all_eq_true.1 h _ (List.getElem_mem hi)
theorem memG {α : Type} {d : α} {l : List α} {i : Nat} (hi : i < l.length) : l.getD i d ∈ l := by
  rw [List.getD_eq_getElem?_getD, List.getElem?_eq_getElem hi]; exact List.getElem_mem hi
abbrev DPo : Po := Ty.dflt poly
def smallV (L : List Po) : Prop := L.length ≤ 2000000 ∧ ∀ x ∈ L, okT2 (tms x)
open Classical in
noncomputable def cf122 : G169 := fun x => if smallV x.1 then some ((show List Po from x.1).all vP, ()) else none
theorem k122 : KOne Tryz.prog 169 ⟨[.v (.slice 34 poly)], [.bool], false, false, 0, cf122⟩ := ok169 _ (.cons k160 .nil) cf122 fun x y h => by
  obtain ⟨L, _⟩ := x
  change List Po at L
  simp only [cf122] at h
  split at h
  · rename_i hc
    injection h with h; subst h
    obtain ⟨h1, h2⟩ := hc
    have h1 : L.length ≤ 2000000 := h1
    have h2 : ∀ x ∈ L, okT2 (tms x) := h2
    refine ⟨L.length + 1, ?_⟩
    simp only [fn169]
    rw [dln_t (by omega)]
    simp only [cond_true, ofn, ru169_2]
    have g : ∀ i, i < L.length → cf160 (L.getD i DPo, ()) = some (vP (L.getD i DPo), ()) := fun i hi => if_pos (h2 _ (memG hi))
    rcases all_orG vP DPo L with hq | ⟨hq, n, q1, q2, q3⟩
    · rw [hq]
      refine iter_run L.length _ (fun i => ((L, ()), (((L.length : Int), ()), (((i : Int), ()), ())))) (by omega) (fun i hi k => ?_) (fun k => ?_)
      · simp (disch := omega) only [st169_2, ofn, cond_true, dlt_t, ib_t, tn_cast, w6_id]
        show (match cf160 (L.getD i DPo, ()) with | some r10 => _ | none => none) = _
        rw [g i hi, all_atG hq hi]; rfl
      · simp (disch := omega) only [st169_2, ofn, dlt_f, cond_false]
    · rw [hq]
      refine iter_run n _ (fun i => ((L, ()), (((L.length : Int), ()), (((i : Int), ()), ())))) (by omega) (fun i hi k => ?_) (fun k => ?_)
      · simp (disch := omega) only [st169_2, ofn, cond_true, dlt_t, ib_t, tn_cast, w6_id]
        show (match cf160 (L.getD i DPo, ()) with | some r10 => _ | none => none) = _
        rw [g i (by omega), q3 i hi]; rfl
      · simp (disch := omega) only [st169_2, ofn, cond_true, dlt_t, ib_t, tn_cast]
        show (match cf160 (L.getD n DPo, ()) with | some r10 => _ | none => none) = _
        rw [g n q1, q2]; rfl
  · cases h
def evB (ts : List term.den) : Bool := match ts with | [] => true | t :: _ => decide (degX t.1 = degI ts)
theorem ok_of {x : Po} (ho : okT2 (tms x)) (h : vP x = true) : okTs (tms x) := by
  obtain ⟨_, _, c1, c2⟩ := vP_can ho h
  exact okTs_of c1 c2 (by omega)
open Classical in
noncomputable def cf167 : G83 := fun x => if okTs (tms x.1) then some (evB (tms x.1), ()) else none
theorem k167 : KOne Tryz.prog 83 ⟨[.v poly], [.bool], false, false, 0, cf167⟩ := ok83 _ _ (.cons k158 (.cons k115 .nil)) cf167 fun x y h => by
  obtain ⟨⟨p, d, l, u⟩, _⟩ := x
  change List term.den at l
  simp only [cf167] at h
  split at h
  · rename_i hc
    injection h with h; subst h
    have hc : okTs l := hc
    have hl := hc.1
    refine ⟨0, ?_⟩
    simp only [fn83]
    rw [dln_t (by omega), cond_true]
    cases l with
    | nil => rfl
    | cons t r =>
      have g : cf158 (t.1, ()) = some (degX t.1, ()) := if_pos (hc.2 t (.head _))
      have g2 := g115_ok (p := p) (v := d) hc
      simp only [ofn]
      rw [deq_f (by simp only [List.length_cons]; omega), cond_false, ib_t (by omega) (by simp only [List.length_cons]; omega), cond_true]
      show (match cf158 (t.1, ()) with | some r5 => _ | none => none) = _
      rw [g]
      show (match cf115 ((p, d, t :: r, ()), ()) with | some r6 => _ | none => none) = _
      rw [g2]; rfl
  · cases h
def cf182 : G171 := fun x => if (show List term.den from x.1.2.2.1).length ≤ 9223372036854775807 then some (decide (((show List term.den from x.1.2.2.1).length : Int) = 0), ()) else none
theorem k182 : KOne Tryz.prog 171 ⟨[.v poly], [.bool], false, false, 0, cf182⟩ := ok171 .nil cf182 fun x y h => by
  obtain ⟨⟨p, d, l, u⟩, _⟩ := x
  change List term.den at l
  simp only [cf182] at h
  split at h
  · rename_i hc
    injection h with h; subst h
    refine ⟨0, ?_⟩
    have hc : l.length ≤ 9223372036854775807 := hc
    simp only [fn171]
    rw [dln_t hc, cond_true]; rfl
  · cases h
open Classical in
noncomputable def cf169 : G93 := fun x => if okTs (tms x.1) then some (evB (tms x.1), ()) else none
theorem k169 : KOne Tryz.prog 93 ⟨[.v poly], [.bool], false, false, 0, cf169⟩ := ok93 _ _ _ (.cons k182 (.cons k159 (.cons k117 .nil))) cf169 fun x y h => by
  obtain ⟨⟨p, d, l, u⟩, _⟩ := x
  change List term.den at l
  simp only [cf169] at h
  split at h
  · rename_i hc
    injection h with h; subst h
    have hc : okTs l := hc
    have hl := hc.1
    have g0 : cf182 ((p, d, l, ()), ()) = some (decide ((l.length : Int) = 0), ()) := if_pos (by show l.length ≤ _; omega)
    refine ⟨0, ?_⟩
    simp only [fn93]
    show (match cf182 ((p, d, l, ()), ()) with | some r6 => _ | none => none) = _
    rw [g0]
    cases l with
    | nil => rfl
    | cons t r =>
      have g : cf159 (t.1, ()) = some (degX t.1, ()) := if_pos (hc.2 t (.head _))
      have g2 := g117_ok (p := p) (v := d) hc
      show (bif decide ((((t :: r).length : Nat) : Int) = 0) then _ else _) = _
      rw [deq_f (by simp only [List.length_cons]; omega), cond_false]
      show (bif ib (0 : Int) (((t :: r).length : Nat) : Int) then _ else _) = _
      rw [ib_t (by omega) (by simp only [List.length_cons]; omega), cond_true]
      show (match cf159 (t.1, ()) with | some r7 => _ | none => none) = _
      rw [g]
      show (match cf117 ((p, d, t :: r, ()), ()) with | some r8 => _ | none => none) = _
      rw [g2]; rfl
  · cases h
def cf123 : G94 := fn94 0
theorem k123 : KOne Tryz.prog 94 ⟨[.v poly, .v poly], [.bool], false, false, 0, cf123⟩ := ok94 .nil cf123 fun x y h => ⟨0, h⟩
def alB (x0 x : Po) : Bool := decide ((show Int from x.1) = x0.1) && decide ((show Int from x.2.1) = x0.2.1)
def gd (x0 x : Po) : Bool := (alB x0 x && !(decide (degI (tms x) < 1))) && evB (tms x)
def lcA (L : List Po) : Int := bif L.all vP then (bif decide ((8 : Int) < L.length) then 2 else (bif L.all (gd (L.getD 0 DPo)) then 0 else 2)) else 1
theorem step135 {L : List Po} (hs : smallV L) (hv : L.all vP = true) {F0 i : Nat} (hi : i < L.length) (k kx : ShVal sh144_9 → Option R144) :
    st144_9 cf119 cf115 cf167 F0 ((L, ()), (((i : Int), ()), ())) k kx = bif gd (L.getD 0 DPo) (L.getD i DPo) then k ((L, ()), ((((i + 1 : Nat) : Int), ()), ())) else some ((2 : Int), ()) := by
  have hL := hs.1
  have hx := hs.2 _ (memG (d := DPo) hi)
  have hk := ok_of hx (all_atG hv hi)
  have g1 : cf115 (L.getD i DPo, ()) = some (degI (tms (L.getD i DPo)), ()) := g115_ok (p := (L.getD i DPo).1) (v := (L.getD i DPo).2.1) hk
  have g2 : cf167 (L.getD i DPo, ()) = some (evB (tms (L.getD i DPo)), ()) := if_pos hk
  have e0 : (0 : Nat) < L.length := by omega
  simp (disch := omega) only [st144_9, dln_t, cond_true, ofn, dlt_t, ib_t, tn_cast, w6_id]
  show (bif !(decide ((show Int from (L.getD i DPo).1) = (L.getD 0 DPo).1)) then some ((2 : Int), ()) else (bif !(decide ((show Int from (L.getD i DPo).2.1) = (L.getD 0 DPo).2.1)) then some ((2 : Int), ()) else (match cf115 (L.getD i DPo, ()) with | some r14 => (bif decide (r14.1 < (1 : Int)) then some ((2 : Int), ()) else (match cf167 (L.getD i DPo, ()) with | some r15 => (bif !r15.1 then some ((2 : Int), ()) else k ((L, ()), ((((i + 1 : Nat) : Int), ()), ()))) | none => none)) | none => none))) = _
  rw [g1, g2]
  unfold gd alB
  cases decide ((show Int from (L.getD i DPo).1) = (L.getD 0 DPo).1) <;> cases decide ((show Int from (L.getD i DPo).2.1) = (L.getD 0 DPo).2.1) <;> cases evB (tms (L.getD i DPo)) <;> by_cases q : degI (tms (L.getD i DPo)) < 1 <;> simp [q]
open Classical in
noncomputable def cf135 : G144 := fun x => if smallV x.1 then some (lcA x.1, ()) else none
theorem k135 : KOne Tryz.prog 144 ⟨[.v (.slice 34 poly)], [i64], false, false, 0, cf135⟩ := ok144 _ _ _ (.cons k119 (.cons k115 (.cons k167 .nil))) cf135 fun x y h => by
  obtain ⟨L, _⟩ := x
  change List Po at L
  simp only [cf135] at h
  split at h
  · rename_i hs
    injection h with h; subst h
    have hs : smallV L := hs
    obtain ⟨h1, h2⟩ := hs
    refine ⟨L.length + 1, ?_⟩
    simp only [fn144, ru144_2]
    have g : ∀ i, i < L.length → cf119 (L.getD i DPo, ()) = some (vP (L.getD i DPo), ()) := fun i hi => if_pos (h2 _ (memG hi))
    unfold lcA
    rcases all_orG vP DPo L with hq | ⟨hq, n, q1, q2, q3⟩
    · rw [hq, cond_true]
      refine iter_run L.length _ (fun i => ((L, ()), (((i : Int), ()), ()))) (by omega) (fun i hi k => ?_) (fun k => ?_)
      · simp (disch := omega) only [st144_2, dln_t, ofn, cond_true, dlt_t, ib_t, tn_cast, w6_id]
        show (match cf119 (L.getD i DPo, ()) with | some r10 => _ | none => none) = _
        rw [g i hi, all_atG hq hi]; rfl
      · simp (disch := omega) only [st144_2, dln_t, ofn, cond_true, dlt_f, cond_false]
        by_cases c8 : (8 : Int) < L.length
        · rw [dlt_t c8]; rfl
        · rw [dlt_f (by omega)]
          simp only [cond_false, ru144_9]
          rcases all_orG (gd (L.getD 0 DPo)) DPo L with hg | ⟨hg, n, q1, q2, q3⟩
          · rw [hg]
            refine iter_run L.length _ (fun i => ((L, ()), (((i : Int), ()), ()))) (by omega) (fun i hi k => ?_) (fun k => ?_)
            · rw [step135 ⟨h1, h2⟩ hq hi, all_atG hg hi]; rfl
            · simp (disch := omega) only [st144_9, dln_t, ofn, cond_true, dlt_f, cond_false]
          · rw [hg]
            refine iter_run n _ (fun i => ((L, ()), (((i : Int), ()), ()))) (by omega) (fun i hi k => ?_) (fun k => ?_)
            · rw [step135 ⟨h1, h2⟩ hq (by omega), q3 i hi]; rfl
            · rw [step135 ⟨h1, h2⟩ hq q1, q2]; rfl
    · rw [hq, cond_false]
      refine iter_run n _ (fun i => ((L, ()), (((i : Int), ()), ()))) (by omega) (fun i hi k => ?_) (fun k => ?_)
      · simp (disch := omega) only [st144_2, dln_t, ofn, cond_true, dlt_t, ib_t, tn_cast, w6_id]
        show (match cf119 (L.getD i DPo, ()) with | some r10 => _ | none => none) = _
        rw [g i (by omega), q3 i hi]; rfl
      · simp (disch := omega) only [st144_2, dln_t, ofn, cond_true, dlt_t, ib_t, tn_cast]
        show (match cf119 (L.getD n DPo, ()) with | some r10 => _ | none => none) = _
        rw [g n q1, q2]; rfl
  · cases h
def lc (L : List Po) : Int := bif L.all vP then (bif decide ((L.length : Int) = 0) then 2 else (bif L.all (gd (L.getD 0 DPo)) && decide ((L.length : Int) ≤ 8) then 0 else 2)) else 1
noncomputable def cf64 : G82 := fn82 cf135 cf73 0
theorem k64 : KOne Tryz.prog 82 ⟨[.v (.slice 34 poly), .v i64], [i64], false, false, 0, cf64⟩ := ok82 _ _ (.cons k135 (.cons k73 .nil)) cf64 fun x y h => ⟨0, h⟩
theorem g64_ok {L : List Po} {n : Int} (hs : smallV L) (hn : 0 ≤ n ∧ n ≤ 12) : cf64 (L, n, ()) = some (lc L, ()) := by
  have g : cf135 (L, ()) = some (lcA L, ()) := if_pos hs
  have hL := hs.1
  simp only [cf64, fn82]
  rw [g, show cf73 (n, (0 : Int), (12 : Int), ()) = some (decide (0 ≤ n) && decide (n ≤ 12), ()) from rfl, decide_eq_true hn.1, decide_eq_true hn.2]
  simp only [ofn]
  rw [dln_t (show L.length ≤ 9223372036854775807 by omega)]
  unfold lcA lc
  cases hq : L.all vP with
  | false => rfl
  | true =>
    simp only [cond_true]
    by_cases c8 : (8 : Int) < L.length
    · rw [dlt_t c8, deq_f (show (L.length : Int) ≠ 0 by omega), dle_f (show (8 : Int) < (L.length : Int) by omega)]
      simp
    · rw [dlt_f (show (L.length : Int) ≤ 8 by omega), dle_t (show (L.length : Int) ≤ 8 by omega), Bool.and_true]
      simp only [cond_false]
      by_cases c0 : (L.length : Int) = 0
      · have : L = [] := List.eq_nil_of_length_eq_zero (by omega)
        subst this; rfl
      · rw [deq_f c0]
        cases hg : L.all (gd (L.getD 0 DPo)) with
        | false => rfl
        | true => rfl
theorem step137 {L : List Po} (hs : smallV L) (hv : L.all vP = true) {F0 i : Nat} (hi : i < L.length) (k kx : ShVal sh170_2 → Option R170) :
    st170_2 cf123 cf169 cf117 F0 ((L, ()), ((L, ()), (((L.length : Int), ()), (((i : Int), ()), ())))) k kx = bif gd (L.getD 0 DPo) (L.getD i DPo) then k ((L, ()), ((L, ()), (((L.length : Int), ()), ((((i + 1 : Nat) : Int), ()), ())))) else some (false, ()) := by
  have hL := hs.1
  have hx := hs.2 _ (memG (d := DPo) hi)
  have hk := ok_of hx (all_atG hv hi)
  have g1 : cf117 (L.getD i DPo, ()) = some (degI (tms (L.getD i DPo)), ()) := g117_ok (p := (L.getD i DPo).1) (v := (L.getD i DPo).2.1) hk
  have g2 : cf169 (L.getD i DPo, ()) = some (evB (tms (L.getD i DPo)), ()) := if_pos hk
  have g3 : cf123 (L.getD i DPo, L.getD 0 DPo, ()) = some (alB (L.getD 0 DPo) (L.getD i DPo), ()) := by
    unfold alB
    show (bif decide ((show Int from (L.getD i DPo).1) = (L.getD 0 DPo).1) then (some ((bif true then decide ((show Int from (L.getD i DPo).2.1) = (L.getD 0 DPo).2.1) else false), ())) else (some (false, ()))) = _
    cases decide ((show Int from (L.getD i DPo).1) = (L.getD 0 DPo).1) <;> rfl
  have e0 : (0 : Nat) < L.length := by omega
  simp (disch := omega) only [st170_2, cond_true, ofn, dlt_t, ib_t, tn_cast, w6_id]
  show (match cf123 (L.getD i DPo, L.getD 0 DPo, ()) with | some r13 => (bif !r13.1 then some (false, ()) else (match cf169 (L.getD i DPo, ()) with | some r14 => (bif !r14.1 then some (false, ()) else (match cf117 (L.getD i DPo, ()) with | some r15 => (bif decide (r15.1 < (1 : Int)) then some (false, ()) else k ((L, ()), ((L, ()), (((L.length : Int), ()), ((((i + 1 : Nat) : Int), ()), ()))))) | none => none)) | none => none)) | none => none) = _
  rw [g1, g2, g3]
  unfold gd
  cases alB (L.getD 0 DPo) (L.getD i DPo) <;> cases evB (tms (L.getD i DPo)) <;> by_cases q : degI (tms (L.getD i DPo)) < 1 <;> simp [q]
open Classical in
noncomputable def cf137 : G170 := fun x => if smallV x.1 ∧ (show List Po from x.1).all vP = true then some ((show List Po from x.1).all (gd ((show List Po from x.1).getD 0 DPo)) && decide (((show List Po from x.1).length : Int) ≤ 8), ()) else none
theorem k137 : KOne Tryz.prog 170 ⟨[.v (.slice 34 poly)], [.bool], false, false, 0, cf137⟩ := ok170 _ _ _ (.cons k123 (.cons k169 (.cons k117 .nil))) cf137 fun x y h => by
  obtain ⟨L, _⟩ := x
  change List Po at L
  simp only [cf137] at h
  split at h
  · rename_i hs
    injection h with h; subst h
    obtain ⟨hs, hq⟩ := hs
    have hs : smallV L := hs
    have hq : L.all vP = true := hq
    have h1 := hs.1
    refine ⟨L.length + 1, ?_⟩
    simp only [fn170]
    rw [dln_t (by omega)]
    simp only [cond_true, ofn, ru170_2]
    rcases all_orG (gd (L.getD 0 DPo)) DPo L with hg | ⟨hg, n, q1, q2, q3⟩
    · rw [hg, Bool.true_and]
      refine iter_run L.length _ (fun i => ((L, ()), ((L, ()), (((L.length : Int), ()), (((i : Int), ()), ()))))) (by omega) (fun i hi k => ?_) (fun k => ?_)
      · rw [step137 hs hq hi, all_atG hg hi]; rfl
      · simp (disch := omega) only [st170_2, dln_t, ofn, cond_true, dlt_f, cond_false]
    · rw [hg, Bool.false_and]
      refine iter_run n _ (fun i => ((L, ()), ((L, ()), (((L.length : Int), ()), (((i : Int), ()), ()))))) (by omega) (fun i hi k => ?_) (fun k => ?_)
      · rw [step137 hs hq (by omega), q3 i hi]; rfl
      · rw [step137 hs hq q1, q2]; rfl
  · cases h
noncomputable def cf67 : G92 := fn92 cf122 cf137 0
theorem k67 : KOne Tryz.prog 92 ⟨[.v (.slice 34 poly)], [i64], false, false, 0, cf67⟩ := ok92 _ _ (.cons k122 (.cons k137 .nil)) cf67 fun x y h => ⟨0, h⟩
theorem g67_ok {L : List Po} (hs : smallV L) : cf67 (L, ()) = some (lc L, ()) := by
  have g : cf122 (L, ()) = some (L.all vP, ()) := if_pos hs
  have hL := hs.1
  simp only [cf67, fn92]
  rw [g]
  unfold lc
  cases hq : L.all vP with
  | false => rfl
  | true =>
    have g2 : cf137 (L, ()) = some (L.all (gd (L.getD 0 DPo)) && decide ((L.length : Int) ≤ 8), ()) := if_pos ⟨hs, hq⟩
    simp only [ofn]
    rw [dln_t (show L.length ≤ 9223372036854775807 by omega), g2]
    simp only [Bool.not_true, cond_false, cond_true]
    by_cases c0 : (L.length : Int) = 0
    · rw [deq_t c0]; rfl
    · rw [deq_f c0]
      cases (L.all (gd (L.getD 0 DPo)) && decide ((L.length : Int) ≤ 8)) <;> rfl
open Go Go.RowKit
abbrev R161 : Type := Ress [(.slice 107 ex)]
abbrev G161 : Type := Args [.v i64, .v i64] → Option R161
abbrev kp161 : List (Nat × List Nat) := [(0, [1, 0]), (1, [1, 0, 5]), (2, [1, 6, 0, 5]), (3, [12, 5, 0, 6, 1]), (5, [7, 5, 0, 6, 1]), (6, [19, 5, 7, 0, 6, 1]), (8, [5, 8, 7, 0, 6, 1]), (9, [35, 5, 8, 7, 0, 6, 1]), (10, [7, 5, 0, 6, 1]), (7, [7, 5, 0, 6, 1]), (4, [1, 6, 0, 5]), (11, [4])]
abbrev ct161 (g156 : G156) : CTab := [(156, ⟨[.v i64, .v ex], [.bool], false, false, 0, g156⟩)]
abbrev kr161 : Env → Option R161 := endK TT [.tmp 4] [(.slice 107 ex)] true false
abbrev sh161_6 : Shape := [(0, vv i64), (1, vv i64), (5, vr 107 ex 81 false), (6, vv i64), (7, vv i64)]
def st161_6 (g156 : G156) (F : Nat) (s : ShVal sh161_6) (k kx : ShVal sh161_6 → Option R161) : Option R161 :=
  match s with
  | ((t0, _), (t1, _), (t5, _), (t6, _), (t7, _), _) => (bif decide ((0 : Int) ≤ t7) then (match (g156 (t0, ((tset (w8 (w6 ((w6 (t1 - t6)) - t7))) 3 (tset (w8 t7) 3 (tset (w8 t6) 3 (tup Int (0 : Int) 3) 0) 1) 2), ()))) with | some r20 => (bif r20.1 then (bif (growOk (List.length t5) (List.length ((tset (w8 (w6 ((w6 (t1 - t6)) - t7))) 3 (tset (w8 t7) 3 (tset (w8 t6) 3 (tup Int (0 : Int) 3) 0) 1) 2) :: []))) then k ((t0, ()), ((t1, ()), (((t5 ++ ((tset (w8 (w6 ((w6 (t1 - t6)) - t7))) 3 (tset (w8 t7) 3 (tset (w8 t6) 3 (tup Int (0 : Int) 3) 0) 1) 2) :: [])), ()), ((t6, ()), (((w6 (t7 - (1 : Int))), ()), ()))))) else none) else k ((t0, ()), ((t1, ()), ((t5, ()), ((t6, ()), (((w6 (t7 - (1 : Int))), ()), ())))))) | none => none) else kx ((t0, ()), ((t1, ()), ((t5, ()), ((t6, ()), ((t7, ()), ()))))))
def ru161_6 (g156 : G156) (F : Nat) (s : ShVal sh161_6) (kx : ShVal sh161_6 → Option R161) : Option R161 := iter (fun s k => st161_6 g156 F s k kx) F s
abbrev ls161_6 (g156 : G156) (F : Nat) : LS R161 := ⟨sh161_6, 2, ru161_6 g156 F⟩
abbrev sh161_3 : Shape := [(0, vv i64), (1, vv i64), (5, vr 107 ex 81 false), (6, vv i64)]
def st161_3 (g156 : G156) (F : Nat) (s : ShVal sh161_3) (k kx : ShVal sh161_3 → Option R161) : Option R161 :=
  match s with
  | ((t0, _), (t1, _), (t5, _), (t6, _), _) => (bif decide ((0 : Int) ≤ t6) then (ru161_6 g156 F ((t0, ()), ((t1, ()), ((t5, ()), ((t6, ()), (((w6 (t1 - t6)), ()), ()))))) (fun s' => match s' with | ((t0, _), (t1, _), (t5, _), (t6, _), (t7, _), _) => k ((t0, ()), ((t1, ()), ((t5, ()), (((w6 (t6 - (1 : Int))), ()), ())))))) else kx ((t0, ()), ((t1, ()), ((t5, ()), ((t6, ()), ())))))
def ru161_3 (g156 : G156) (F : Nat) (s : ShVal sh161_3) (kx : ShVal sh161_3 → Option R161) : Option R161 := iter (fun s k => st161_3 g156 F s k kx) F s
abbrev ls161_3 (g156 : G156) (F : Nat) : LS R161 := ⟨sh161_3, 0, ru161_3 g156 F⟩
def fn161 (g156 : G156) (F : Nat) (x : Args [.v i64, .v i64]) : Option R161 :=
  match x with
  | (x0, x1, _) => (ru161_3 g156 F ((x0, ()), ((x1, ()), (([], ()), ((x1, ()), ())))) (fun s' => match s' with | ((t0, _), (t1, _), (t5, _), (t6, _), _) => (some (t5, ()))))
theorem ev161_6 (g156 : G156) (F : Nat) (s : ShVal sh161_6) (k kx : ShVal sh161_6 → Option R161) : evL TT (ct161 g156 ) kp161 [] (loopOf Tryz.f161 6) (envOf sh161_6 s) (fitK sh161_6 k) (fun j e => bif Nat.beq j 2 then fitK sh161_6 kx e else none) kr161 = st161_6 g156 F s k kx := by
  obtain ⟨⟨t0, _⟩, ⟨t1, _⟩, ⟨t5, _⟩, ⟨t6, _⟩, ⟨t7, _⟩, _⟩ := s
  kernel_rfl
theorem ok161_6 (g156 : G156) (F : Nat) (hK : KOK Tryz.prog (ct161 g156 )) : LSOK Tryz.prog ⟨41, false, undef⟩ (ls161_6 g156 F) (loopOf Tryz.f161 6) kr161 :=
  loop_ok (st161_6 g156 F) mixed tt_ok hK (by kernel_rfl) (LTOK_by (l := []) (by kernel_rfl) trivial) (ev161_6 g156 F)
theorem ev161_3 (g156 : G156) (F : Nat) (s : ShVal sh161_3) (k kx : ShVal sh161_3 → Option R161) : evL TT (ct161 g156 ) kp161 [(6, ls161_6 g156 F)] (loopOf Tryz.f161 3) (envOf sh161_3 s) (fitK sh161_3 k) (fun j e => bif Nat.beq j 0 then fitK sh161_3 kx e else none) kr161 = st161_3 g156 F s k kx := by
  obtain ⟨⟨t0, _⟩, ⟨t1, _⟩, ⟨t5, _⟩, ⟨t6, _⟩, _⟩ := s
  kernel_rfl
theorem ok161_3 (g156 : G156) (F : Nat) (hK : KOK Tryz.prog (ct161 g156 )) : LSOK Tryz.prog ⟨41, false, undef⟩ (ls161_3 g156 F) (loopOf Tryz.f161 3) kr161 :=
  loop_ok (st161_3 g156 F) mixed tt_ok hK (by kernel_rfl) (LTOK_by (l := [loopOf Tryz.f161 6]) (by kernel_rfl) ⟨ls_at (by kernel_rfl) (ok161_6 g156 F hK), trivial⟩) (ev161_3 g156 F)
theorem ev161 (g156 : G156) (F : Nat) (x : Args [.v i64, .v i64]) : fnK TT (ct161 g156 ) kp161 [(.slice 107 ex)] [(3, ls161_3 g156 F)] (bodyOf Tryz.f161) [.tmp 4] [.v i64, .v i64] true false x = fn161 g156 F x := by
  obtain ⟨x0, x1, _⟩ := x
  kernel_rfl
theorem ok161 (g156 : G156) (hK : KOK Tryz.prog (ct161 g156 )) (cf : G161) (h : ∀ x y, cf x = some y → ∃ F, fn161 g156 F x = some y) : KOne Tryz.prog 161 ⟨[.v i64, .v i64], [(.slice 107 ex)], true, false, 0, cf⟩ :=
  fn_one rfl (c := bodyOf Tryz.f161) mixed tt_ok hK Tryz.func161 (by kernel_rfl) (by kernel_rfl) (Nat.le_of_ble_eq_true (by kernel_rfl)) (by decide) fun x y hxy => by
    obtain ⟨F, hF⟩ := h x y hxy
    exact ⟨[(3, ls161_3 g156 F)], LTOK_by (l := [loopOf Tryz.f161 3]) (by kernel_rfl) ⟨ls_at (by kernel_rfl) (ok161_3 g156 F hK), trivial⟩, (ev161 g156 F x).trans hF⟩
abbrev R174 : Type := Ress [(.slice 107 ex)]
abbrev G174 : Type := Args [.v i64, .v i64] → Option R174
abbrev kp174 : List (Nat × List Nat) := [(0, [1, 0]), (1, [1, 0, 5]), (2, [1, 0, 6, 5]), (3, [12, 5, 6, 0, 1]), (5, [7, 5, 6, 0, 1]), (6, [19, 7, 5, 6, 0, 1]), (8, [8, 7, 5, 6, 0, 1]), (9, [40, 8, 7, 5, 6, 0, 1]), (10, [7, 5, 6, 0, 1]), (7, [7, 5, 6, 0, 1]), (4, [1, 0, 6, 5]), (11, [4])]
abbrev ct174 : CTab := []
abbrev kr174 : Env → Option R174 := endK TT [.tmp 4] [(.slice 107 ex)] true false
abbrev sh174_6 : Shape := [(0, vv i64), (1, vv i64), (5, vr 107 ex 81 false), (6, vv i64), (7, vv i64)]
def st174_6 (F : Nat) (s : ShVal sh174_6) (k kx : ShVal sh174_6 → Option R174) : Option R174 :=
  match s with
  | ((t0, _), (t1, _), (t5, _), (t6, _), (t7, _), _) => (bif decide ((0 : Int) ≤ t7) then (bif decide (t0 < (2 : Int)) then (bif (bif true then decide ((0 : Int) < t7) else false) then k ((t0, ()), ((t1, ()), ((t5, ()), ((t6, ()), (((w6 (t7 - (1 : Int))), ()), ()))))) else (bif decide (t0 < (3 : Int)) then (bif (bif false then true else (bif true then decide ((0 : Int) < (w6 ((w6 (t1 - t6)) - t7))) else false)) then k ((t0, ()), ((t1, ()), ((t5, ()), ((t6, ()), (((w6 (t7 - (1 : Int))), ()), ()))))) else (bif (growOk (List.length t5) (List.length ((tset (w8 (w6 ((w6 (t1 - t6)) - t7))) 3 (tset (w8 t7) 3 (tset (w8 t6) 3 (tup Int (0 : Int) 3) 0) 1) 2) :: []))) then k ((t0, ()), ((t1, ()), (((t5 ++ ((tset (w8 (w6 ((w6 (t1 - t6)) - t7))) 3 (tset (w8 t7) 3 (tset (w8 t6) 3 (tup Int (0 : Int) 3) 0) 1) 2) :: [])), ()), ((t6, ()), (((w6 (t7 - (1 : Int))), ()), ()))))) else none)) else (bif (bif false then true else false) then k ((t0, ()), ((t1, ()), ((t5, ()), ((t6, ()), (((w6 (t7 - (1 : Int))), ()), ()))))) else (bif (growOk (List.length t5) (List.length ((tset (w8 (w6 ((w6 (t1 - t6)) - t7))) 3 (tset (w8 t7) 3 (tset (w8 t6) 3 (tup Int (0 : Int) 3) 0) 1) 2) :: []))) then k ((t0, ()), ((t1, ()), (((t5 ++ ((tset (w8 (w6 ((w6 (t1 - t6)) - t7))) 3 (tset (w8 t7) 3 (tset (w8 t6) 3 (tup Int (0 : Int) 3) 0) 1) 2) :: [])), ()), ((t6, ()), (((w6 (t7 - (1 : Int))), ()), ()))))) else none)))) else (bif decide (t0 < (3 : Int)) then (bif (bif false then true else (bif true then decide ((0 : Int) < (w6 ((w6 (t1 - t6)) - t7))) else false)) then k ((t0, ()), ((t1, ()), ((t5, ()), ((t6, ()), (((w6 (t7 - (1 : Int))), ()), ()))))) else (bif (growOk (List.length t5) (List.length ((tset (w8 (w6 ((w6 (t1 - t6)) - t7))) 3 (tset (w8 t7) 3 (tset (w8 t6) 3 (tup Int (0 : Int) 3) 0) 1) 2) :: []))) then k ((t0, ()), ((t1, ()), (((t5 ++ ((tset (w8 (w6 ((w6 (t1 - t6)) - t7))) 3 (tset (w8 t7) 3 (tset (w8 t6) 3 (tup Int (0 : Int) 3) 0) 1) 2) :: [])), ()), ((t6, ()), (((w6 (t7 - (1 : Int))), ()), ()))))) else none)) else (bif (bif false then true else false) then k ((t0, ()), ((t1, ()), ((t5, ()), ((t6, ()), (((w6 (t7 - (1 : Int))), ()), ()))))) else (bif (growOk (List.length t5) (List.length ((tset (w8 (w6 ((w6 (t1 - t6)) - t7))) 3 (tset (w8 t7) 3 (tset (w8 t6) 3 (tup Int (0 : Int) 3) 0) 1) 2) :: []))) then k ((t0, ()), ((t1, ()), (((t5 ++ ((tset (w8 (w6 ((w6 (t1 - t6)) - t7))) 3 (tset (w8 t7) 3 (tset (w8 t6) 3 (tup Int (0 : Int) 3) 0) 1) 2) :: [])), ()), ((t6, ()), (((w6 (t7 - (1 : Int))), ()), ()))))) else none)))) else kx ((t0, ()), ((t1, ()), ((t5, ()), ((t6, ()), ((t7, ()), ()))))))
def ru174_6 (F : Nat) (s : ShVal sh174_6) (kx : ShVal sh174_6 → Option R174) : Option R174 := iter (fun s k => st174_6 F s k kx) F s
abbrev ls174_6 (F : Nat) : LS R174 := ⟨sh174_6, 2, ru174_6 F⟩
abbrev sh174_3 : Shape := [(0, vv i64), (1, vv i64), (5, vr 107 ex 81 false), (6, vv i64)]
def st174_3 (F : Nat) (s : ShVal sh174_3) (k kx : ShVal sh174_3 → Option R174) : Option R174 :=
  match s with
  | ((t0, _), (t1, _), (t5, _), (t6, _), _) => (bif decide ((0 : Int) ≤ t6) then (ru174_6 F ((t0, ()), ((t1, ()), ((t5, ()), ((t6, ()), (((w6 (t1 - t6)), ()), ()))))) (fun s' => match s' with | ((t0, _), (t1, _), (t5, _), (t6, _), (t7, _), _) => k ((t0, ()), ((t1, ()), ((t5, ()), (((w6 (t6 - (1 : Int))), ()), ())))))) else kx ((t0, ()), ((t1, ()), ((t5, ()), ((t6, ()), ())))))
def ru174_3 (F : Nat) (s : ShVal sh174_3) (kx : ShVal sh174_3 → Option R174) : Option R174 := iter (fun s k => st174_3 F s k kx) F s
abbrev ls174_3 (F : Nat) : LS R174 := ⟨sh174_3, 0, ru174_3 F⟩
def fn174 (F : Nat) (x : Args [.v i64, .v i64]) : Option R174 :=
  match x with
  | (x0, x1, _) => (ru174_3 F ((x0, ()), ((x1, ()), (([], ()), ((x1, ()), ())))) (fun s' => match s' with | ((t0, _), (t1, _), (t5, _), (t6, _), _) => (some (t5, ()))))
theorem ev174_6 (F : Nat) (s : ShVal sh174_6) (k kx : ShVal sh174_6 → Option R174) : evL TT (ct174 ) kp174 [] (loopOf Tryz.f174 6) (envOf sh174_6 s) (fitK sh174_6 k) (fun j e => bif Nat.beq j 2 then fitK sh174_6 kx e else none) kr174 = st174_6 F s k kx := by
  obtain ⟨⟨t0, _⟩, ⟨t1, _⟩, ⟨t5, _⟩, ⟨t6, _⟩, ⟨t7, _⟩, _⟩ := s
  kernel_rfl
theorem ok174_6 (F : Nat) (hK : KOK Tryz.prog (ct174 )) : LSOK Tryz.prog ⟨52, false, undef⟩ (ls174_6 F) (loopOf Tryz.f174 6) kr174 :=
  loop_ok (st174_6 F) mixed tt_ok hK (by kernel_rfl) (LTOK_by (l := []) (by kernel_rfl) trivial) (ev174_6 F)
theorem ev174_3 (F : Nat) (s : ShVal sh174_3) (k kx : ShVal sh174_3 → Option R174) : evL TT (ct174 ) kp174 [(6, ls174_6 F)] (loopOf Tryz.f174 3) (envOf sh174_3 s) (fitK sh174_3 k) (fun j e => bif Nat.beq j 0 then fitK sh174_3 kx e else none) kr174 = st174_3 F s k kx := by
  obtain ⟨⟨t0, _⟩, ⟨t1, _⟩, ⟨t5, _⟩, ⟨t6, _⟩, _⟩ := s
  kernel_rfl
theorem ok174_3 (F : Nat) (hK : KOK Tryz.prog (ct174 )) : LSOK Tryz.prog ⟨52, false, undef⟩ (ls174_3 F) (loopOf Tryz.f174 3) kr174 :=
  loop_ok (st174_3 F) mixed tt_ok hK (by kernel_rfl) (LTOK_by (l := [loopOf Tryz.f174 6]) (by kernel_rfl) ⟨ls_at (by kernel_rfl) (ok174_6 F hK), trivial⟩) (ev174_3 F)
theorem ev174 (F : Nat) (x : Args [.v i64, .v i64]) : fnK TT (ct174 ) kp174 [(.slice 107 ex)] [(3, ls174_3 F)] (bodyOf Tryz.f174) [.tmp 4] [.v i64, .v i64] true false x = fn174 F x := by
  obtain ⟨x0, x1, _⟩ := x
  kernel_rfl
theorem ok174 (hK : KOK Tryz.prog (ct174 )) (cf : G174) (h : ∀ x y, cf x = some y → ∃ F, fn174 F x = some y) : KOne Tryz.prog 174 ⟨[.v i64, .v i64], [(.slice 107 ex)], true, false, 0, cf⟩ :=
  fn_one rfl (c := bodyOf Tryz.f174) mixed tt_ok hK Tryz.func174 (by kernel_rfl) (by kernel_rfl) (Nat.le_of_ble_eq_true (by kernel_rfl)) (by decide) fun x y hxy => by
    obtain ⟨F, hF⟩ := h x y hxy
    exact ⟨[(3, ls174_3 F)], LTOK_by (l := [loopOf Tryz.f174 3]) (by kernel_rfl) ⟨ls_at (by kernel_rfl) (ok174_3 F hK), trivial⟩, (ev174 F x).trans hF⟩
def cf88 : G174 := fn174 100
theorem k88 : KOne Tryz.prog 174 ⟨[.v i64, .v i64], [.slice 107 ex], true, false, 0, cf88⟩ := ok174 .nil cf88 fun x y h => ⟨100, h⟩
def cf84 : G161 := fn161 cf143 100
theorem k84 : KOne Tryz.prog 161 ⟨[.v i64, .v i64], [.slice 107 ex], true, false, 0, cf84⟩ := ok161 _ (.cons k143 .nil) cf84 fun x y h => ⟨100, h⟩
def eqE (a b : ex.den) : Bool := decide (x0 a = x0 b) && decide (x1 a = x1 b) && decide (x2 a = x2 b)
def eqX : List ex.den → List ex.den → Bool
  | [], [] => true
  | a :: r, b :: s => eqE a b && eqX r s
  | _, _ => false
def okB (a : ex.den) : Bool := (decide (0 ≤ x0 a) && decide (x0 a ≤ 255)) && (decide (0 ≤ x1 a) && decide (x1 a ≤ 255)) && (decide (0 ≤ x2 a) && decide (x2 a ≤ 255))
def srtB : List ex.den → Bool
  | [] => true
  | a :: r => okB a && (match r with | [] => true | b :: _ => decide (keyX a < keyX b)) && srtB r
def chk (d n : Int) : Bool :=
  match fn174 100 (d, n, ()), fn161 cf143 100 (d, n, ()) with
  | some (a, _), some (b, _) => eqX a b && srtB a && decide ((show List ex.den from a).length ≤ 100)
  | _, _ => false
theorem eqX_eq : ∀ {a b : List ex.den}, eqX a b = true → a = b
  | [], [], _ => rfl
  | a :: r, b :: s, h => by
    simp only [eqX, eqE, Bool.and_eq_true, decide_eq_true_eq] at h
    obtain ⟨⟨⟨h1, h2⟩, h3⟩, h4⟩ := h
    obtain ⟨a0, a1, a2, _⟩ := a
    obtain ⟨b0, b1, b2, _⟩ := b
    have h1 : a0 = b0 := h1
    have h2 : a1 = b1 := h2
    have h3 : a2 = b2 := h3
    subst h1; subst h2; subst h3
    rw [eqX_eq h4]
  | [], _ :: _, h => by simp [eqX] at h
  | _ :: _, [], h => by simp [eqX] at h
theorem srtB_ok : ∀ {m : List ex.den}, srtB m = true → m.Pairwise (fun a b => keyX a < keyX b) ∧ ∀ e ∈ m, okX e
  | [], _ => ⟨.nil, by simp⟩
  | a :: r, h => by
    simp only [srtB, Bool.and_eq_true] at h
    obtain ⟨⟨h1, h2⟩, h3⟩ := h
    obtain ⟨q1, q2⟩ := srtB_ok h3
    have oa : okX a := by
      simp only [okB, Bool.and_eq_true, decide_eq_true_eq] at h1
      exact ⟨h1.1.1, h1.1.2, h1.2⟩
    refine ⟨List.pairwise_cons.2 ⟨fun b hb => ?_, q1⟩, fun e he => ?_⟩
    · cases r with
      | nil => cases hb
      | cons c r =>
        have h2 : keyX a < keyX c := by simpa using h2
        rcases List.mem_cons.1 hb with rfl | hb
        · exact h2
        · have := (List.pairwise_cons.1 q1).1 b hb; omega
    · rcases List.mem_cons.1 he with rfl | he
      · exact oa
      · exact q2 e he
theorem chk_all : ((List.range 3).all fun d => (List.range 13).all fun n => chk ((d : Int) + 1) (n : Int)) = true := by kernel_rfl
theorem mons_ok {d n : Int} (hd : 1 ≤ d ∧ d ≤ 3) (hn : 0 ≤ n ∧ n ≤ 12) : ∃ m : List ex.den, cf88 (d, n, ()) = some (m, ()) ∧ cf84 (d, n, ()) = some (m, ()) ∧ m.Pairwise (fun a b => keyX a < keyX b) ∧ (∀ e ∈ m, okX e) ∧ m.length ≤ 100 := by
  have h := chk_all
  rw [List.all_eq_true] at h
  have h := h (d.toNat - 1) (by simp; omega)
  rw [List.all_eq_true] at h
  have h := h n.toNat (by simp; omega)
  rw [show (((d.toNat - 1 : Nat) : Int) + 1) = d by omega, show ((n.toNat : Nat) : Int) = n by omega] at h
  unfold chk at h
  split at h
  · rename_i a u b u' e1 e2
    simp only [Bool.and_eq_true, decide_eq_true_eq] at h
    obtain ⟨⟨h1, h2⟩, h3⟩ := h
    have := eqX_eq h1
    subst this
    obtain ⟨q1, q2⟩ := srtB_ok h2
    exact ⟨a, e1, e2, q1, q2, h3⟩
  · cases h
theorem split_len {a b : List Int} {i : Nat} (h : a.length = b.length) (hi : i ≤ a.length) : (a.take i ++ b.drop i).length = a.length := by simp; omega
theorem split_get {a b : List Int} {i : Nat} (h : a.length = b.length) (hi : i < a.length) : (a.take i ++ b.drop i).getD i 0 = el b i := by
  simp only [el, List.getD_eq_getElem?_getD]
  rw [List.getElem?_append_right (by simp; omega), List.length_take, Nat.min_eq_left (by omega), List.getElem?_drop]
  simp
theorem split_set {a b : List Int} {i : Nat} (h : a.length = b.length) (hi : i < a.length) : (a.take i ++ b.drop i).set i (el a i) = a.take (i + 1) ++ b.drop (i + 1) := by
  rw [take_snoc hi, ← el_get hi, List.set_append_right _ _ (by simp; omega)]
  rw [List.length_take, Nat.min_eq_left (by omega), Nat.sub_self, List.append_assoc]
  congr 1
  rw [List.drop_eq_getElem_cons (show i < b.length by omega)]
  rfl
theorem scale_loop {p c : Int} {m : Nat} {own : List Int} (hp : 2 ≤ p ∧ p ≤ 13) (hc : 0 ≤ c ∧ c < p) (h1 : Can p m own) (hm : m ≤ 1000000) {F0 F : Nat} (hF : m < F) {rows out : List (List Int)} {i at_ : Int} {kx : ShVal sh85_10 → Option R85} :
    iter (fun s k => st85_10 cf153 cf75 cf154 cf152 F0 s k kx) F ((p, ()), ((rows, ()), ((out, ()), ((i, ()), ((own, ()), ((at_, ()), ((c, ()), (((0 : Int), ()), ())))))))) =
      kx ((p, ()), ((rows, ()), ((out, ()), ((i, ()), ((scl p c own, ()), ((at_, ()), ((c, ()), ((((m : Nat) : Int), ()), ())))))))) := by
  have hl : (scl p c own).length = own.length := scl_len
  have lw := h1.len
  have key := iter_run (step := fun s k => st85_10 cf153 cf75 cf154 cf152 F0 s k kx) (r := kx ((p, ()), ((rows, ()), ((out, ()), ((i, ()), ((scl p c own, ()), ((at_, ()), ((c, ()), ((((m : Nat) : Int), ()), ())))))))))
    m F (fun j => ((p, ()), ((rows, ()), ((out, ()), ((i, ()), ((((scl p c own).take j ++ own.drop j), ()), ((at_, ()), ((c, ()), (((j : Int), ()), ()))))))))) hF (fun j hj k => ?_) (fun k => ?_)
  · simpa using key
  · have l1 := split_len (i := j) hl (by omega)
    have g1 := split_get (i := j) hl (by omega)
    have s1 := split_set (i := j) hl (by omega)
    have z := h1.rng j
    have z2 := sq_rng (p := p) (by omega) z.1 z.2 hc.1 hc.2
    have e : Int.tmod (el own j * c) p = el (scl p c own) j := by rw [Int.tmod_eq_emod_of_nonneg z2.1, el_scl]
    rw [← s1]
    generalize (scl p c own).take j ++ own.drop j = L at *
    simp (disch := omega) only [st85_10, dln_t, cond_true, ofn, dlt_t, ib_t, tn_cast, deq_f, Bool.not_false, g1, e, w6_id]
    rfl
  · rw [show (scl p c own).take m ++ own.drop m = scl p c own by rw [← lw, List.drop_length, List.append_nil, ← hl, List.take_length]]
    simp (disch := omega) only [st85_10, dln_t, cond_true, ofn, dlt_f, cond_false]
def anyG (at_ : Nat) (L : List (List Int)) : Bool := L.any fun o => decide (at_ < ld o)
def nextL (p : Int) (own : List Int) (at_ : Nat) (L : List (List Int)) : List (List Int) := bif anyG at_ L then ins p own at_ L else L.map (red p own at_)
theorem anyG_snoc {at_ : Nat} {L : List (List Int)} {o : List Int} : anyG at_ (L ++ [o]) = (anyG at_ L || decide (at_ < ld o)) := by simp [anyG]
theorem ins_none {p : Int} {own : List Int} {at_ : Nat} : ∀ {L : List (List Int)}, anyG at_ L = false → ins p own at_ L = L.map (red p own at_) ++ [own]
  | [], _ => rfl
  | o :: os, h => by
    simp only [anyG, List.any_cons, Bool.or_eq_false_iff, decide_eq_false_iff_not] at h
    simp only [ins, if_neg h.1, List.map_cons, List.cons_append]
    rw [ins_none (L := os) h.2]
theorem ins_put {p : Int} {own o : List Int} {at_ : Nat} : ∀ {L : List (List Int)}, anyG at_ L = true → ins p own at_ (L ++ [o]) = ins p own at_ L ++ [red p own at_ o]
  | [], h => by simp [anyG] at h
  | x :: os, h => by
    simp only [List.cons_append, ins]
    by_cases q : at_ < ld x
    · simp [if_pos q]
    · simp only [if_neg q, List.cons_append]
      simp only [anyG, List.any_cons, decide_eq_false q, Bool.false_or] at h
      rw [ins_put (L := os) h]
theorem ins_now {p : Int} {own o : List Int} {at_ : Nat} (ho : at_ < ld o) : ∀ {L : List (List Int)}, anyG at_ L = false → ins p own at_ (L ++ [o]) = L.map (red p own at_) ++ [own] ++ [red p own at_ o]
  | [], _ => by simp [ins, if_pos ho]
  | x :: os, h => by
    simp only [anyG, List.any_cons, Bool.or_eq_false_iff, decide_eq_false_iff_not] at h
    simp only [List.cons_append, ins, if_neg h.1, List.map_cons]
    rw [ins_now ho (L := os) h.2]
theorem nextL_len {p : Int} {own : List Int} {at_ : Nat} {L : List (List Int)} : (nextL p own at_ L).length ≤ L.length + 1 := by
  unfold nextL
  cases anyG at_ L with
  | true => simp [ins_len]
  | false => simp
theorem put_loop {p : Int} {m at_ : Nat} {own : List Int} {out : List (List Int)} (hp : 2 ≤ p ∧ p ≤ 13) (w : Own p m own at_ out) (rr : RR p m out) (hm : m ≤ 1000000) (ho : out.length ≤ 1000000) {F0 F : Nat} (hF : out.length < F) {rows : List (List Int)} {i : Int} {kx : ShVal sh85_15 → Option R85} :
    iter (fun s k => st85_15 cf153 cf75 cf154 cf152 F0 s k kx) F ((p, ()), ((rows, ()), ((out, ()), ((i, ()), ((own, ()), (((at_ : Int), ()), (([], ()), ((false, ()), (((0 : Int), ()), ()))))))))) =
      kx ((p, ()), ((rows, ()), ((out, ()), ((i, ()), ((own, ()), (((at_ : Int), ()), ((nextL p own at_ out, ()), ((anyG at_ out, ()), ((((out.length : Nat) : Int), ()), ()))))))))) := by
  have key := iter_run (step := fun s k => st85_15 cf153 cf75 cf154 cf152 F0 s k kx) (r := kx ((p, ()), ((rows, ()), ((out, ()), ((i, ()), ((own, ()), (((at_ : Int), ()), ((nextL p own at_ out, ()), ((anyG at_ out, ()), ((((out.length : Nat) : Int), ()), ()))))))))))
    out.length F (fun j => ((p, ()), ((rows, ()), ((out, ()), ((i, ()), ((own, ()), (((at_ : Int), ()), ((nextL p own at_ (out.take j), ()), ((anyG at_ (out.take j), ()), (((j : Int), ()), ())))))))))) hF (fun j hj k => ?_) (fun k => ?_)
  · simpa [nextL, anyG] using key
  · have ho1 : out.getD j [] = out[j] := by simp [List.getD_eq_getElem?_getD, List.getElem?_eq_getElem hj]
    have hmem : out[j] ∈ out := List.getElem_mem hj
    have co := rr.can _ hmem
    have lo := rr.lt _ hmem
    have l1 : (nextL p own at_ (out.take j)).length ≤ 1000001 := by
      have := nextL_len (p := p) (own := own) (at_ := at_) (L := out.take j)
      simp at this; omega
    have hn : nextL p own at_ (out.take (j + 1)) = if anyG at_ (out.take j) = false ∧ at_ < ld out[j] then nextL p own at_ (out.take j) ++ [own] ++ [red p own at_ out[j]] else nextL p own at_ (out.take j) ++ [red p own at_ out[j]] := by
      rw [take_snoc hj]
      unfold nextL
      rw [anyG_snoc]
      cases hg : anyG at_ (out.take j) with
      | true => simp only [Bool.true_or, cond_true]; rw [ins_put hg]; simp
      | false =>
        by_cases q : at_ < ld out[j]
        · rw [decide_eq_true q]; simp only [Bool.false_or, cond_true, cond_false]; rw [ins_now q hg, if_pos ⟨trivial, q⟩]
        · rw [decide_eq_false q]; simp only [Bool.false_or, cond_false]; rw [if_neg (fun h => q h.2), List.map_append]; rfl
    have hb : anyG at_ (out.take (j + 1)) = (anyG at_ (out.take j) || decide (at_ < ld out[j])) := by rw [take_snoc hj, anyG_snoc]
    rw [hn, hb]
    have g1 := g153_ok (l := out[j]) (by rw [co.len]; exact hm)
    rw [ldI_lt co.len lo] at g1
    have g2 : cf154 (p, out[j], own, out[j].getD at_ 0, ()) = some (red p own at_ out[j], ()) := g154_ok hp (co.rng at_) co w.can hm
    have lc := co.len
    have lt := w.lt
    generalize nextL p own at_ (out.take j) = N at *
    generalize anyG at_ (out.take j) = G at *
    clear hn hb
    generalize out[j] = o at *
    cases G with
    | true =>
      rw [if_neg (fun h => by cases h.1)]
      simp (disch := omega) only [st85_15, dln_t, cond_true, ofn, dlt_t, ib_t, tn_cast, Bool.not_true, cond_false, ho1, g2, grow_t, List.length_singleton, w6_id]
      rfl
    | false =>
      by_cases q : at_ < ld o
      · rw [if_pos ⟨rfl, q⟩, decide_eq_true q]
        simp (disch := first | omega | (simp only [List.length_append, List.length_singleton]; omega)) only [st85_15, dln_t, cond_true, ofn, dlt_t, ib_t, tn_cast, Bool.not_false, g1, ho1, g2, grow_t, List.length_singleton, w6_id]
        rfl
      · rw [if_neg (fun h => q h.2), decide_eq_false q]
        simp (disch := omega) only [st85_15, dln_t, cond_true, ofn, dlt_t, dlt_f, cond_false, ib_t, tn_cast, Bool.not_false, g1, ho1, g2, grow_t, List.length_singleton, w6_id]
        rfl
  · rw [List.take_length]
    simp (disch := omega) only [st85_15, dln_t, cond_true, ofn, dlt_f, cond_false]
theorem ech_snoc {p : Int} {a : List (List Int)} {r : List Int} : ech p (a ++ [r]) = stepR p (ech p a) r := by simp [ech, List.foldl_append]
theorem stepR_len {p : Int} {out : List (List Int)} {r : List Int} : (stepR p out r).length ≤ out.length + 1 := by
  unfold stepR; split
  · omega
  · rw [ins_len]; exact Nat.le_refl _
theorem fold_len {p : Int} : ∀ {rows out : List (List Int)}, (rows.foldl (stepR p) out).length ≤ out.length + rows.length
  | [], out => Nat.le_refl _
  | r :: rs, out => by
    have h1 := fold_len (p := p) (rows := rs) (out := stepR p out r)
    have h2 := stepR_len (p := p) (out := out) (r := r)
    simp only [List.foldl_cons, List.length_cons]; omega
theorem ech_len {p : Int} {rows : List (List Int)} : (ech p rows).length ≤ rows.length := by
  have := fold_len (p := p) (rows := rows) (out := []); simpa [ech] using this
theorem g75_ok {p x : Int} (h : (2 ≤ p ∧ p ≤ 13) ∧ (-1000000000000 ≤ x ∧ x ≤ 1000000000000)) : cf75 (p, x, ()) = some (inv p x, ()) := if_pos h
theorem run108 {p : Int} {m : Nat} {rows : List (List Int)} (hP : isP p = true) (hr : ∀ r ∈ rows, Can p m r) (hm : m ≤ 1000000) (hn : rows.length ≤ 500000) {F : Nat} (hF : m + rows.length + 1 < F) : fn85 cf153 cf75 cf154 cf152 F (p, rows, ()) = some (ech p rows, ()) := by
  have hp := isP_pos hP
  simp only [fn85, ru85_3]
  have key := iter_run (step := fun s k => st85_3 cf153 cf75 cf154 cf152 F s k (fun s' => match s' with | ((t0, _), (t1, _), (t5, _), (t6, _), _) => (some (t5, ())))) (r := some (ech p rows, ())) rows.length F (fun i => ((p, ()), ((rows, ()), ((ech p (rows.take i), ()), (((i : Int), ()), ()))))) (by omega) (fun i hi k => ?_) (fun k => ?_)
  · simpa [ech] using key
  · have hr1 : rows.getD i [] = rows[i] := by simp [List.getD_eq_getElem?_getD, List.getElem?_eq_getElem hi]
    have cr := hr _ (List.getElem_mem hi)
    have rr : RR p m (ech p (rows.take i)) := ech_RR hP fun r h => hr r (List.mem_of_mem_take h)
    have lo : (ech p (rows.take i)).length ≤ i := by have := ech_len (p := p) (rows := rows.take i); simp at this; omega
    rw [take_snoc hi, ech_snoc]
    generalize ech p (rows.take i) = out at *
    generalize rows[i] = r at *
    have g1 := g152_ok hp rr cr hm (by omega)
    have co := rest_can (p := p) (m := m) (by omega) rr.can cr
    have g2 := g153_ok (l := rest p out r) (by rw [co.len]; exact hm)
    have lw := co.len
    have hle := ld_le (rest p out r)
    by_cases q : ld (rest p out r) = (rest p out r).length
    · have e1 : stepR p out r = out := by unfold stepR; rw [if_pos q]
      have e2 : ldI (rest p out r) = -1 := by unfold ldI; rw [if_pos q]
      rw [e2] at g2
      rw [e1]
      simp (disch := omega) only [st85_3, dln_t, cond_true, ofn, dlt_t, ib_t, tn_cast, hr1, g1, g2, w6_id]
      rfl
    · have e2 : ldI (rest p out r) = (ld (rest p out r) : Int) := by unfold ldI; rw [if_neg q]
      rw [e2] at g2
      have w := own_of hP rr cr q
      have e1 : stepR p out r = ins p (scl p (inv p (el (rest p out r) (ld (rest p out r)))) (rest p out r)) (ld (rest p out r)) out := by unfold stepR; rw [if_neg q]
      rw [e1]
      have z := co.rng (ld (rest p out r))
      have g3 : cf75 (p, (rest p out r).getD (ld (rest p out r)) 0, ()) = some (inv p (el (rest p out r) (ld (rest p out r))), ()) := g75_ok (by simp only [el] at z; omega)
      have hi2 := (inv_ok hP (x := el (rest p out r) (ld (rest p out r))) (by rw [co.mod]; exact ld_ne _ (by omega))).1
      generalize ld (rest p out r) = at_ at *
      generalize rest p out r = own at *
      generalize inv p (el own at_) = c at *
      have L1 := fun kx => scale_loop (F0 := F) (F := F) (rows := rows) (out := out) (i := (i : Int)) (at_ := (at_ : Int)) (kx := kx) hp ⟨by omega, hi2.2⟩ co hm (by omega)
      have L2 := fun kx => put_loop (F0 := F) (F := F) (rows := rows) (i := (i : Int)) (kx := kx) hp w rr hm (by omega) (by omega)
      have ln := nextL_len (p := p) (own := scl p c own) (at_ := at_) (L := out)
      simp (disch := omega) only [st85_3, dln_t, cond_true, ofn, dlt_t, dlt_f, cond_false, ib_t, tn_cast, hr1, g1, g2, g3, ru85_10, ru85_15, L1, L2]
      unfold nextL at ln ⊢
      cases hg : anyG at_ out with
      | true =>
        simp (disch := omega) only [Bool.not_true, cond_false, cond_true, w6_id]
        rfl
      | false =>
        rw [hg] at ln
        simp only [cond_false] at ln
        rw [ins_none hg]
        simp (disch := first | omega | (simp only [List.length_singleton]; omega)) only [Bool.not_false, cond_false, cond_true, grow_t, List.length_singleton, w6_id]
        rfl
  · rw [List.take_length]
    simp (disch := omega) only [st85_3, dln_t, cond_true, ofn, dlt_f, cond_false]
open Classical in
noncomputable def c108 (p : Int) (rows : List (List Int)) : Option (List (List Int) × Unit) := if isP p = true ∧ (∃ m, m ≤ 1000000 ∧ ∀ r ∈ rows, Can p m r) ∧ rows.length ≤ 500000 then some (ech p rows, ()) else none
noncomputable def cf108 : Args [.v i64, .v (.slice 44 (.slice 2 i64))] → Option R85 := fun x => c108 x.1 x.2.1
theorem k108 : KOne Tryz.prog 85 ⟨[.v i64, .v (.slice 44 (.slice 2 i64))], [.slice 44 (.slice 2 i64)], false, false, 0, cf108⟩ := ok85 _ _ _ _ (.cons k153 (.cons k75 (.cons k154 (.cons k152 .nil)))) cf108 fun x y h => by
  obtain ⟨p, rows, _⟩ := x
  simp only [cf108, c108] at h
  split at h
  · rename_i hc
    injection h with h; subst h
    obtain ⟨h1, ⟨m, h2, h3⟩, h4⟩ := hc
    exact ⟨_, run108 h1 h3 h2 h4 (Nat.lt_succ_self _)⟩
  · cases h
theorem g108_ok {p : Int} {m : Nat} {rows : List (List Int)} (hP : isP p = true) (hr : ∀ r ∈ rows, Can p m r) (hm : m ≤ 1000000) (hn : rows.length ≤ 500000) : cf108 (p, rows, ()) = some (ech p rows, ()) := if_pos ⟨hP, ⟨m, hm, hr⟩, hn⟩
section
variable {p : Int} {m : Nat}
theorem fold_perm (hP : isP p = true) : ∀ {rows a b : List (List Int)}, a.Perm b → RR p m b → (∀ r ∈ rows, Can p m r) → (rows.foldl (takeL p) a).Perm (rows.foldl (stepR p) b)
  | [], a, b, h, _, _ => h
  | r :: rs, a, b, h, rr, hc => by
    have := isP_pos hP
    exact fold_perm (rows := rs) hP (take_perm (by omega) h rr (hc r (.head _))) (stepR_RR hP rr (hc r (.head _))) fun x hx => hc x (.tail _ hx)
theorem ldI_of {r : List Int} (h : ld r < r.length) : ldI r = (ld r : Int) := by unfold ldI; rw [if_neg (by omega)]
theorem RR.lds {out : List (List Int)} (rr : RR p m out) : out.Pairwise fun a b => ldI a < ldI b := by
  refine rr.ord.imp_of_mem fun {a b} ha hb h => ?_
  rw [ldI_of (by rw [(rr.can a ha).len]; exact rr.lt a ha), ldI_of (by rw [(rr.can b hb).len]; exact rr.lt b hb)]
  have := h.1; omega
theorem sort_ech (hP : isP p = true) {rows : List (List Int)} (hc : ∀ r ∈ rows, Can p m r) : sortK ldI (rows.foldl (takeL p) []) = ech p rows ∧ ((rows.foldl (takeL p) []).map ldI).Nodup := by
  have hp : (rows.foldl (takeL p) []).Perm (ech p rows) := fold_perm hP (.refl _) .nil hc
  have rr := ech_RR hP hc
  have hn : ((rows.foldl (takeL p) []).map ldI).Nodup := by
    refine (hp.map ldI).nodup_iff.2 ?_
    rw [List.nodup_iff_pairwise_ne, List.pairwise_map]
    exact rr.lds.imp fun h => by omega
  exact ⟨(sortK_unique hp.symm (rr.lds.imp fun h => by omega) hn).symm, hn⟩
theorem take_mem (hP : isP p = true) {rows : List (List Int)} (hc : ∀ r ∈ rows, Can p m r) : ∀ o ∈ rows.foldl (takeL p) [], Can p m o ∧ ld o < m := fun o ho => by
  have hp : (rows.foldl (takeL p) []).Perm (ech p rows) := fold_perm hP (.refl _) .nil hc
  have rr := ech_RR hP hc
  have := hp.mem_iff.1 ho
  exact ⟨rr.can o this, rr.lt o this⟩
theorem takes_len : ∀ {rows out : List (List Int)}, (rows.foldl (takeL p) out).length ≤ out.length + rows.length
  | [], out => by simp
  | r :: rs, out => by
    have := takes_len (rows := rs) (out := takeL p out r)
    have := takeL_len (p := p) (out := out) (r := r)
    simp only [List.foldl_cons, List.length_cons]; omega
end
abbrev R222 : Type := Ress [.bool]
abbrev G222 : Type := Args [.v i64] → Option R222
abbrev kp222 : List (Nat × List Nat) := [(0, [0]), (1, [2])]
abbrev ct222 : CTab := []
def fn222 (F : Nat) (x : Args [.v i64]) : Option R222 :=
  match x with
  | (x0, _) => (some ((!decide (x0 = (0 : Int))), ()))
theorem ev222 (F : Nat) (x : Args [.v i64]) : fnK TT (ct222 ) kp222 [.bool] [] (bodyOf Tryz.f222) [.tmp 2] [.v i64] false false x = fn222 F x := by
  obtain ⟨x0, _⟩ := x
  kernel_rfl
theorem ok222 (hK : KOK Tryz.prog (ct222 )) (cf : G222) (h : ∀ x y, cf x = some y → ∃ F, fn222 F x = some y) : KOne Tryz.prog 222 ⟨[.v i64], [.bool], false, false, 0, cf⟩ :=
  fn_one rfl (c := bodyOf Tryz.f222) mixed tt_ok hK Tryz.func222 (by kernel_rfl) (by kernel_rfl) (Nat.le_of_ble_eq_true (by kernel_rfl)) (by decide) fun x y hxy => by
    obtain ⟨F, hF⟩ := h x y hxy
    exact ⟨[], LTOK_by (l := []) (by kernel_rfl) trivial, (ev222 F x).trans hF⟩
abbrev R221 : Type := Ress [i64]
abbrev G221 : Type := Args [.v (.slice 2 i64), .fn 222] → Option R221
abbrev kp221 : List (Nat × List Nat) := [(0, [0, 1]), (1, [8, 0, 1, 7]), (2, [9, 7, 1, 0, 8]), (3, [7, 1, 0, 8, 5]), (4, [16, 7, 1, 0, 8, 5]), (5, [4]), (6, [8, 0, 1, 7]), (7, [4])]
abbrev ct221 (g222 : G222) : CTab := [(222, ⟨[.v i64], [.bool], false, false, 0, g222⟩)]
abbrev kr221 : Env → Option R221 := endK TT [.tmp 4] [i64] false false
abbrev sh221_2 : Shape := [(0, .val false [.fz (.slice 2 i64) 0 true]), (1, .fn 222 []), (7, vv i64), (8, vv i64)]
def st221_2 (g222 : G222) (F : Nat) (s : ShVal sh221_2) (k kx : ShVal sh221_2 → Option R221) : Option R221 :=
  match s with
  | ((t0, _), _, (t7, _), (t8, _), _) => (bif decide (t8 < t7) then (bif ib t8 (Int.ofNat (List.length t0)) then (match (g222 ((List.getD t0 (tn t8) (0 : Int)), ())) with | some r11 => (bif r11.1 then (some (t8, ())) else k ((t0, ()), ((), ((t7, ()), (((w6 (t8 + (1 : Int))), ()), ()))))) | none => none) else none) else kx ((t0, ()), ((), ((t7, ()), ((t8, ()), ())))))
def ru221_2 (g222 : G222) (F : Nat) (s : ShVal sh221_2) (kx : ShVal sh221_2 → Option R221) : Option R221 := iter (fun s k => st221_2 g222 F s k kx) F s
abbrev ls221_2 (g222 : G222) (F : Nat) : LS R221 := ⟨sh221_2, 0, ru221_2 g222 F⟩
def fn221 (g222 : G222) (F : Nat) (x : Args [.v (.slice 2 i64), .fn 222]) : Option R221 :=
  match x with
  | (x0, x1, _) => (bif decide ((List.length x0) ≤ 9223372036854775807) then (ru221_2 g222 F ((x0, ()), ((), (((Int.ofNat (List.length x0)), ()), (((0 : Int), ()), ())))) (fun s' => match s' with | ((t0, _), _, (t7, _), (t8, _), _) => (some ((-(1 : Int)), ())))) else none)
theorem ev221_2 (g222 : G222) (F : Nat) (s : ShVal sh221_2) (k kx : ShVal sh221_2 → Option R221) : evL TT (ct221 g222 ) kp221 [] (loopOf Tryz.f221 2) (envOf sh221_2 s) (fitK sh221_2 k) (fun j e => bif Nat.beq j 0 then fitK sh221_2 kx e else none) kr221 = st221_2 g222 F s k kx := by
  obtain ⟨⟨t0, _⟩, _, ⟨t7, _⟩, ⟨t8, _⟩, _⟩ := s
  kernel_rfl
theorem ok221_2 (g222 : G222) (F : Nat) (hK : KOK Tryz.prog (ct221 g222 )) : LSOK Tryz.prog ⟨19, false, undef⟩ (ls221_2 g222 F) (loopOf Tryz.f221 2) kr221 :=
  loop_ok (st221_2 g222 F) mixed tt_ok hK (by kernel_rfl) (LTOK_by (l := []) (by kernel_rfl) trivial) (ev221_2 g222 F)
theorem ev221 (g222 : G222) (F : Nat) (x : Args [.v (.slice 2 i64), .fn 222]) : fnK TT (ct221 g222 ) kp221 [i64] [(2, ls221_2 g222 F)] (bodyOf Tryz.f221) [.tmp 4] [.v (.slice 2 i64), .fn 222] false false x = fn221 g222 F x := by
  obtain ⟨x0, x1, _⟩ := x
  kernel_rfl
theorem ok221 (g222 : G222) (hK : KOK Tryz.prog (ct221 g222 )) (cf : G221) (h : ∀ x y, cf x = some y → ∃ F, fn221 g222 F x = some y) : KOne Tryz.prog 221 ⟨[.v (.slice 2 i64), .fn 222], [i64], false, false, 0, cf⟩ :=
  fn_one rfl (c := bodyOf Tryz.f221) mixed tt_ok hK Tryz.func221 (by kernel_rfl) (by kernel_rfl) (Nat.le_of_ble_eq_true (by kernel_rfl)) (by decide) fun x y hxy => by
    obtain ⟨F, hF⟩ := h x y hxy
    exact ⟨[(2, ls221_2 g222 F)], LTOK_by (l := [loopOf Tryz.f221 2]) (by kernel_rfl) ⟨ls_at (by kernel_rfl) (ok221_2 g222 F hK), trivial⟩, (ev221 g222 F x).trans hF⟩
abbrev R172 : Type := Ress [i64]
abbrev G172 : Type := Args [.v (.slice 2 i64)] → Option R172
abbrev kp172 : List (Nat × List Nat) := [(0, [0]), (1, [2])]
abbrev ct172 (g221 : G221) : CTab := [(221, ⟨[.v (.slice 2 i64), .fn 222], [i64], false, false, 0, g221⟩)]
def fn172 (g221 : G221) (F : Nat) (x : Args [.v (.slice 2 i64)]) : Option R172 :=
  match x with
  | (x0, _) => (match (g221 (x0, ((), ()))) with | some r4 => (some (r4.1, ())) | none => none)
theorem ev172 (g221 : G221) (F : Nat) (x : Args [.v (.slice 2 i64)]) : fnK TT (ct172 g221 ) kp172 [i64] [] (bodyOf Tryz.f172) [.tmp 2] [.v (.slice 2 i64)] false false x = fn172 g221 F x := by
  obtain ⟨x0, _⟩ := x
  kernel_rfl
theorem ok172 (g221 : G221) (hK : KOK Tryz.prog (ct172 g221 )) (cf : G172) (h : ∀ x y, cf x = some y → ∃ F, fn172 g221 F x = some y) : KOne Tryz.prog 172 ⟨[.v (.slice 2 i64)], [i64], false, false, 0, cf⟩ :=
  fn_one rfl (c := bodyOf Tryz.f172) mixed tt_ok hK Tryz.func172 (by kernel_rfl) (by kernel_rfl) (Nat.le_of_ble_eq_true (by kernel_rfl)) (by decide) fun x y hxy => by
    obtain ⟨F, hF⟩ := h x y hxy
    exact ⟨[], LTOK_by (l := []) (by kernel_rfl) trivial, (ev172 g221 F x).trans hF⟩
abbrev R201 : Type := Ress [i64]
abbrev G201 : Type := Args [.v i64, .v i64] → Option R201
abbrev kp201 : List (Nat × List Nat) := [(0, [1, 0]), (1, [5, 1, 0]), (2, [8, 0, 1, 5]), (4, [16, 0, 1, 5]), (5, [4]), (3, [5, 1, 0]), (6, [4])]
abbrev ct201 : CTab := []
abbrev kr201 : Env → Option R201 := endK TT [.tmp 4] [i64] false false
abbrev sh201_2 : Shape := [(0, vv i64), (1, vv i64), (5, vv i64)]
def st201_2 (F : Nat) (s : ShVal sh201_2) (k kx : ShVal sh201_2 → Option R201) : Option R201 :=
  match s with
  | ((t0, _), (t1, _), (t5, _), _) => (bif decide (t5 < t1) then (bif (!decide (t1 = (0 : Int))) then (bif decide ((Int.tmod (w6 (t0 * t5)) t1) = (1 : Int)) then (some (t5, ())) else k ((t0, ()), ((t1, ()), (((w6 (t5 + (1 : Int))), ()), ())))) else none) else kx ((t0, ()), ((t1, ()), ((t5, ()), ()))))
def ru201_2 (F : Nat) (s : ShVal sh201_2) (kx : ShVal sh201_2 → Option R201) : Option R201 := iter (fun s k => st201_2 F s k kx) F s
abbrev ls201_2 (F : Nat) : LS R201 := ⟨sh201_2, 0, ru201_2 F⟩
def fn201 (F : Nat) (x : Args [.v i64, .v i64]) : Option R201 :=
  match x with
  | (x0, x1, _) => (ru201_2 F ((x0, ()), ((x1, ()), (((1 : Int), ()), ()))) (fun s' => match s' with | ((t0, _), (t1, _), (t5, _), _) => (some ((0 : Int), ()))))
theorem ev201_2 (F : Nat) (s : ShVal sh201_2) (k kx : ShVal sh201_2 → Option R201) : evL TT (ct201 ) kp201 [] (loopOf Tryz.f201 2) (envOf sh201_2 s) (fitK sh201_2 k) (fun j e => bif Nat.beq j 0 then fitK sh201_2 kx e else none) kr201 = st201_2 F s k kx := by
  obtain ⟨⟨t0, _⟩, ⟨t1, _⟩, ⟨t5, _⟩, _⟩ := s
  kernel_rfl
theorem ok201_2 (F : Nat) (hK : KOK Tryz.prog (ct201 )) : LSOK Tryz.prog ⟨18, false, undef⟩ (ls201_2 F) (loopOf Tryz.f201 2) kr201 :=
  loop_ok (st201_2 F) mixed tt_ok hK (by kernel_rfl) (LTOK_by (l := []) (by kernel_rfl) trivial) (ev201_2 F)
theorem ev201 (F : Nat) (x : Args [.v i64, .v i64]) : fnK TT (ct201 ) kp201 [i64] [(2, ls201_2 F)] (bodyOf Tryz.f201) [.tmp 4] [.v i64, .v i64] false false x = fn201 F x := by
  obtain ⟨x0, x1, _⟩ := x
  kernel_rfl
theorem ok201 (hK : KOK Tryz.prog (ct201 )) (cf : G201) (h : ∀ x y, cf x = some y → ∃ F, fn201 F x = some y) : KOne Tryz.prog 201 ⟨[.v i64, .v i64], [i64], false, false, 0, cf⟩ :=
  fn_one rfl (c := bodyOf Tryz.f201) mixed tt_ok hK Tryz.func201 (by kernel_rfl) (by kernel_rfl) (Nat.le_of_ble_eq_true (by kernel_rfl)) (by decide) fun x y hxy => by
    obtain ⟨F, hF⟩ := h x y hxy
    exact ⟨[(2, ls201_2 F)], LTOK_by (l := [loopOf Tryz.f201 2]) (by kernel_rfl) ⟨ls_at (by kernel_rfl) (ok201_2 F hK), trivial⟩, (ev201 F x).trans hF⟩
abbrev R173 : Type := Ress [(.slice 2 i64)]
abbrev G173 : Type := Args [.v i64, .v (.slice 44 (.slice 2 i64)), .v (.slice 2 i64)] → Option R173
abbrev kp173 : List (Nat × List Nat) := [(0, [2, 1, 0]), (1, [1, 2, 0]), (2, [16, 2, 0, 14, 15]), (3, [17, 0, 2, 16, 14, 15]), (4, [8, 0, 2, 16, 14, 15]), (5, [8, 0, 9, 2, 16, 14, 15]), (6, [26, 8, 0, 9, 2, 16, 14, 15]), (7, [29, 0, 9, 2, 27, 16, 14, 15, 28]), (8, [30, 29, 0, 9, 2, 27, 16, 14, 15, 28]), (9, [10, 11, 29, 0, 9, 2, 27, 16, 14, 15, 28]), (10, [29, 0, 9, 2, 27, 16, 14, 15, 28]), (11, [29, 0, 9, 2, 27, 16, 14, 15, 28]), (12, [16, 2, 0, 14, 15]), (13, [6])]
abbrev ct173 (g223 : G223) (g172 : G172) : CTab := [(223, ⟨[.v (.slice 2 i64)], [(.slice 2 i64)], true, false, 0, g223⟩), (172, ⟨[.v (.slice 2 i64)], [i64], false, false, 0, g172⟩)]
abbrev kr173 : Env → Option R173 := endK TT [.tmp 6] [(.slice 2 i64)] true false
abbrev sh173_8 : Shape := [(0, vv i64), (2, vr 2 i64 33 false), (9, vv i64), (14, .val false [.fz (.slice 44 (.slice 2 i64)) 0 true]), (15, vv i64), (16, vv i64), (27, .val false [.fz (.slice 2 i64) 0 true]), (28, vv i64), (29, vv i64)]
def st173_8 (g223 : G223) (g172 : G172) (F : Nat) (s : ShVal sh173_8) (k kx : ShVal sh173_8 → Option R173) : Option R173 :=
  match s with
  | ((t0, _), (t2, _), (t9, _), (t14, _), (t15, _), (t16, _), (t27, _), (t28, _), (t29, _), _) => (bif decide (t29 < t28) then (bif ib t29 (Int.ofNat (List.length t27)) then (bif ib t29 (Int.ofNat (List.length t2)) then (bif (!decide (t0 = (0 : Int))) then (bif ib t29 (Int.ofNat (List.length t2)) then k ((t0, ()), (((List.set t2 (tn t29) (Int.tmod (w6 ((List.getD t2 (tn t29) (0 : Int)) + (w6 ((w6 (t0 - t9)) * (List.getD t27 (tn t29) (0 : Int)))))) t0)), ()), ((t9, ()), ((t14, ()), ((t15, ()), ((t16, ()), ((t27, ()), ((t28, ()), (((w6 (t29 + (1 : Int))), ()), ()))))))))) else none) else none) else none) else none) else kx ((t0, ()), ((t2, ()), ((t9, ()), ((t14, ()), ((t15, ()), ((t16, ()), ((t27, ()), ((t28, ()), ((t29, ()), ()))))))))))
def ru173_8 (g223 : G223) (g172 : G172) (F : Nat) (s : ShVal sh173_8) (kx : ShVal sh173_8 → Option R173) : Option R173 := iter (fun s k => st173_8 g223 g172 F s k kx) F s
abbrev ls173_8 (g223 : G223) (g172 : G172) (F : Nat) : LS R173 := ⟨sh173_8, 2, ru173_8 g223 g172 F⟩
abbrev sh173_3 : Shape := [(0, vv i64), (2, vr 2 i64 33 false), (14, .val false [.fz (.slice 44 (.slice 2 i64)) 0 true]), (15, vv i64), (16, vv i64)]
def st173_3 (g223 : G223) (g172 : G172) (F : Nat) (s : ShVal sh173_3) (k kx : ShVal sh173_3 → Option R173) : Option R173 :=
  match s with
  | ((t0, _), (t2, _), (t14, _), (t15, _), (t16, _), _) => (bif decide (t16 < t15) then (bif ib t16 (Int.ofNat (List.length t14)) then (match (g172 ((List.getD t14 (tn t16) []), ())) with | some r17 => (bif ib r17.1 (Int.ofNat (List.length t2)) then (bif (!decide ((List.getD t2 (tn r17.1) (0 : Int)) = (0 : Int))) then (bif decide ((List.length (List.getD t14 (tn t16) [])) ≤ 9223372036854775807) then (ru173_8 g223 g172 F ((t0, ()), ((t2, ()), (((List.getD t2 (tn r17.1) (0 : Int)), ()), ((t14, ()), ((t15, ()), ((t16, ()), (((List.getD t14 (tn t16) []), ()), (((Int.ofNat (List.length (List.getD t14 (tn t16) []))), ()), (((0 : Int), ()), ()))))))))) (fun s' => match s' with | ((t0, _), (t2, _), (t9, _), (t14, _), (t15, _), (t16, _), (t27, _), (t28, _), (t29, _), _) => k ((t0, ()), ((t2, ()), ((t14, ()), ((t15, ()), (((w6 (t16 + (1 : Int))), ()), ()))))))) else none) else k ((t0, ()), ((t2, ()), ((t14, ()), ((t15, ()), (((w6 (t16 + (1 : Int))), ()), ())))))) else none) | none => none) else none) else kx ((t0, ()), ((t2, ()), ((t14, ()), ((t15, ()), ((t16, ()), ()))))))
def ru173_3 (g223 : G223) (g172 : G172) (F : Nat) (s : ShVal sh173_3) (kx : ShVal sh173_3 → Option R173) : Option R173 := iter (fun s k => st173_3 g223 g172 F s k kx) F s
abbrev ls173_3 (g223 : G223) (g172 : G172) (F : Nat) : LS R173 := ⟨sh173_3, 0, ru173_3 g223 g172 F⟩
def fn173 (g223 : G223) (g172 : G172) (F : Nat) (x : Args [.v i64, .v (.slice 44 (.slice 2 i64)), .v (.slice 2 i64)]) : Option R173 :=
  match x with
  | (x0, x1, x2, _) => (match (g223 (x2, ())) with | some r7 => (bif decide ((List.length x1) ≤ 9223372036854775807) then (ru173_3 g223 g172 F ((x0, ()), ((r7.1, ()), ((x1, ()), (((Int.ofNat (List.length x1)), ()), (((0 : Int), ()), ()))))) (fun s' => match s' with | ((t0, _), (t2, _), (t14, _), (t15, _), (t16, _), _) => (some (t2, ())))) else none) | none => none)
theorem ev173_8 (g223 : G223) (g172 : G172) (F : Nat) (s : ShVal sh173_8) (k kx : ShVal sh173_8 → Option R173) : evL TT (ct173 g223 g172 ) kp173 [] (loopOf Tryz.f173 8) (envOf sh173_8 s) (fitK sh173_8 k) (fun j e => bif Nat.beq j 2 then fitK sh173_8 kx e else none) kr173 = st173_8 g223 g172 F s k kx := by
  obtain ⟨⟨t0, _⟩, ⟨t2, _⟩, ⟨t9, _⟩, ⟨t14, _⟩, ⟨t15, _⟩, ⟨t16, _⟩, ⟨t27, _⟩, ⟨t28, _⟩, ⟨t29, _⟩, _⟩ := s
  kernel_rfl
theorem ok173_8 (g223 : G223) (g172 : G172) (F : Nat) (hK : KOK Tryz.prog (ct173 g223 g172 )) : LSOK Tryz.prog ⟨52, false, undef⟩ (ls173_8 g223 g172 F) (loopOf Tryz.f173 8) kr173 :=
  loop_ok (st173_8 g223 g172 F) mixed tt_ok hK (by kernel_rfl) (LTOK_by (l := []) (by kernel_rfl) trivial) (ev173_8 g223 g172 F)
theorem ev173_3 (g223 : G223) (g172 : G172) (F : Nat) (s : ShVal sh173_3) (k kx : ShVal sh173_3 → Option R173) : evL TT (ct173 g223 g172 ) kp173 [(8, ls173_8 g223 g172 F)] (loopOf Tryz.f173 3) (envOf sh173_3 s) (fitK sh173_3 k) (fun j e => bif Nat.beq j 0 then fitK sh173_3 kx e else none) kr173 = st173_3 g223 g172 F s k kx := by
  obtain ⟨⟨t0, _⟩, ⟨t2, _⟩, ⟨t14, _⟩, ⟨t15, _⟩, ⟨t16, _⟩, _⟩ := s
  kernel_rfl
theorem ok173_3 (g223 : G223) (g172 : G172) (F : Nat) (hK : KOK Tryz.prog (ct173 g223 g172 )) : LSOK Tryz.prog ⟨52, false, undef⟩ (ls173_3 g223 g172 F) (loopOf Tryz.f173 3) kr173 :=
  loop_ok (st173_3 g223 g172 F) mixed tt_ok hK (by kernel_rfl) (LTOK_by (l := [loopOf Tryz.f173 8]) (by kernel_rfl) ⟨ls_at (by kernel_rfl) (ok173_8 g223 g172 F hK), trivial⟩) (ev173_3 g223 g172 F)
theorem ev173 (g223 : G223) (g172 : G172) (F : Nat) (x : Args [.v i64, .v (.slice 44 (.slice 2 i64)), .v (.slice 2 i64)]) : fnK TT (ct173 g223 g172 ) kp173 [(.slice 2 i64)] [(3, ls173_3 g223 g172 F)] (bodyOf Tryz.f173) [.tmp 6] [.v i64, .v (.slice 44 (.slice 2 i64)), .v (.slice 2 i64)] true false x = fn173 g223 g172 F x := by
  obtain ⟨x0, x1, x2, _⟩ := x
  kernel_rfl
theorem ok173 (g223 : G223) (g172 : G172) (hK : KOK Tryz.prog (ct173 g223 g172 )) (cf : G173) (h : ∀ x y, cf x = some y → ∃ F, fn173 g223 g172 F x = some y) : KOne Tryz.prog 173 ⟨[.v i64, .v (.slice 44 (.slice 2 i64)), .v (.slice 2 i64)], [(.slice 2 i64)], true, false, 0, cf⟩ :=
  fn_one rfl (c := bodyOf Tryz.f173) mixed tt_ok hK Tryz.func173 (by kernel_rfl) (by kernel_rfl) (Nat.le_of_ble_eq_true (by kernel_rfl)) (by decide) fun x y hxy => by
    obtain ⟨F, hF⟩ := h x y hxy
    exact ⟨[(3, ls173_3 g223 g172 F)], LTOK_by (l := [loopOf Tryz.f173 3]) (by kernel_rfl) ⟨ls_at (by kernel_rfl) (ok173_3 g223 g172 F hK), trivial⟩, (ev173 g223 g172 F x).trans hF⟩
abbrev R224 : Type := Ress [(.slice 44 (.slice 2 i64))]
abbrev G224 : Type := Args [.v i64, .v (.slice 44 (.slice 2 i64)), .v (.slice 2 i64)] → Option R224
abbrev kp224 : List (Nat × List Nat) := [(0, [2, 0, 1]), (1, [2, 0, 1]), (2, [2, 0, 7, 1]), (3, [19, 2, 0, 7, 1]), (4, [6]), (5, [0, 8, 2, 1]), (6, [29, 0, 8, 2, 1, 28]), (7, [30, 29, 0, 8, 2, 1, 28]), (8, [9, 29, 0, 8, 2, 1, 28]), (9, [29, 0, 8, 2, 1, 28]), (10, [29, 0, 8, 2, 1, 28]), (11, [46, 2, 0, 1, 44, 45]), (12, [47, 46, 2, 0, 1, 44, 45]), (13, [10, 11, 46, 2, 0, 1, 44, 45]), (14, [46, 2, 0, 1, 44, 45]), (15, [46, 2, 0, 1, 44, 45]), (16, [6])]
abbrev ct224 (g173 : G173) (g201 : G201) (g172 : G172) : CTab := [(173, ⟨[.v i64, .v (.slice 44 (.slice 2 i64)), .v (.slice 2 i64)], [(.slice 2 i64)], true, false, 0, g173⟩), (201, ⟨[.v i64, .v i64], [i64], false, false, 0, g201⟩), (172, ⟨[.v (.slice 2 i64)], [i64], false, false, 0, g172⟩)]
abbrev kr224 : Env → Option R224 := endK TT [.tmp 6] [(.slice 44 (.slice 2 i64))] true false
abbrev sh224_7 : Shape := [(0, vv i64), (1, vr 44 (.slice 2 i64) 17 false), (2, vr 2 i64 33 false), (8, vv i64), (28, vv i64), (29, vv i64)]
def st224_7 (g173 : G173) (g201 : G201) (g172 : G172) (F : Nat) (s : ShVal sh224_7) (k kx : ShVal sh224_7 → Option R224) : Option R224 :=
  match s with
  | ((t0, _), (t1, _), (t2, _), (t8, _), (t28, _), (t29, _), _) => (bif decide (t29 < t28) then (bif ib t29 (Int.ofNat (List.length t2)) then (bif (!decide (t0 = (0 : Int))) then (bif ib t29 (Int.ofNat (List.length t2)) then k ((t0, ()), ((t1, ()), (((List.set t2 (tn t29) (Int.tmod (w6 ((List.getD t2 (tn t29) (0 : Int)) * t8)) t0)), ()), ((t8, ()), ((t28, ()), (((w6 (t29 + (1 : Int))), ()), ())))))) else none) else none) else none) else kx ((t0, ()), ((t1, ()), ((t2, ()), ((t8, ()), ((t28, ()), ((t29, ()), ())))))))
def ru224_7 (g173 : G173) (g201 : G201) (g172 : G172) (F : Nat) (s : ShVal sh224_7) (kx : ShVal sh224_7 → Option R224) : Option R224 := iter (fun s k => st224_7 g173 g201 g172 F s k kx) F s
abbrev ls224_7 (g173 : G173) (g201 : G201) (g172 : G172) (F : Nat) : LS R224 := ⟨sh224_7, 0, ru224_7 g173 g201 g172 F⟩
abbrev sh224_12 : Shape := [(0, vv i64), (1, vr 44 (.slice 2 i64) 17 false), (2, vr 2 i64 33 false), (44, vr 44 (.slice 2 i64) 17 false), (45, vv i64), (46, vv i64)]
def st224_12 (g173 : G173) (g201 : G201) (g172 : G172) (F : Nat) (s : ShVal sh224_12) (k kx : ShVal sh224_12 → Option R224) : Option R224 :=
  match s with
  | ((t0, _), (t1, _), (t2, _), (t44, _), (t45, _), (t46, _), _) => (bif decide (t46 < t45) then (bif ib t46 (Int.ofNat (List.length t44)) then (match (g173 (t0, ((t2 :: []), ((List.getD t44 (tn t46) []), ())))) with | some r31 => (bif ib t46 (Int.ofNat (List.length t1)) then k ((t0, ()), (((List.set t1 (tn t46) r31.1), ()), ((t2, ()), (((List.set t44 (tn t46) r31.1), ()), ((t45, ()), (((w6 (t46 + (1 : Int))), ()), ())))))) else none) | none => none) else none) else kx ((t0, ()), ((t1, ()), ((t2, ()), ((t44, ()), ((t45, ()), ((t46, ()), ())))))))
def ru224_12 (g173 : G173) (g201 : G201) (g172 : G172) (F : Nat) (s : ShVal sh224_12) (kx : ShVal sh224_12 → Option R224) : Option R224 := iter (fun s k => st224_12 g173 g201 g172 F s k kx) F s
abbrev ls224_12 (g173 : G173) (g201 : G201) (g172 : G172) (F : Nat) : LS R224 := ⟨sh224_12, 2, ru224_12 g173 g201 g172 F⟩
def fn224 (g173 : G173) (g201 : G201) (g172 : G172) (F : Nat) (x : Args [.v i64, .v (.slice 44 (.slice 2 i64)), .v (.slice 2 i64)]) : Option R224 :=
  match x with
  | (x0, x1, x2, _) => (match (g173 (x0, (x1, (x2, ())))) with | some r8 => (match (g172 (r8.1, ())) with | some r10 => (bif decide (r10.1 < (0 : Int)) then (some (x1, ())) else (bif ib r10.1 (Int.ofNat (List.length r8.1)) then (match (g201 ((List.getD r8.1 (tn r10.1) (0 : Int)), (x0, ()))) with | some r13 => (bif decide ((List.length r8.1) ≤ 9223372036854775807) then (ru224_7 g173 g201 g172 F ((x0, ()), ((x1, ()), ((r8.1, ()), ((r13.1, ()), (((Int.ofNat (List.length r8.1)), ()), (((0 : Int), ()), ())))))) (fun s' => match s' with | ((t0, _), (t1, _), (t2, _), (t8, _), (t28, _), (t29, _), _) => (bif decide ((List.length t1) ≤ 9223372036854775807) then (ru224_12 g173 g201 g172 F ((t0, ()), ((t1, ()), ((t2, ()), ((t1, ()), (((Int.ofNat (List.length t1)), ()), (((0 : Int), ()), ())))))) (fun s' => match s' with | ((t0, _), (t1, _), (t2, _), (t44, _), (t45, _), (t46, _), _) => (bif (growOk (List.length t1) (List.length (t2 :: []))) then (some ((t1 ++ (t2 :: [])), ())) else none))) else none))) else none) | none => none) else none)) | none => none) | none => none)
theorem ev224_7 (g173 : G173) (g201 : G201) (g172 : G172) (F : Nat) (s : ShVal sh224_7) (k kx : ShVal sh224_7 → Option R224) : evL TT (ct224 g173 g201 g172 ) kp224 [] (loopOf Tryz.f224 7) (envOf sh224_7 s) (fitK sh224_7 k) (fun j e => bif Nat.beq j 0 then fitK sh224_7 kx e else none) kr224 = st224_7 g173 g201 g172 F s k kx := by
  obtain ⟨⟨t0, _⟩, ⟨t1, _⟩, ⟨t2, _⟩, ⟨t8, _⟩, ⟨t28, _⟩, ⟨t29, _⟩, _⟩ := s
  kernel_rfl
theorem ok224_7 (g173 : G173) (g201 : G201) (g172 : G172) (F : Nat) (hK : KOK Tryz.prog (ct224 g173 g201 g172 )) : LSOK Tryz.prog ⟨64, false, undef⟩ (ls224_7 g173 g201 g172 F) (loopOf Tryz.f224 7) kr224 :=
  loop_ok (st224_7 g173 g201 g172 F) mixed tt_ok hK (by kernel_rfl) (LTOK_by (l := []) (by kernel_rfl) trivial) (ev224_7 g173 g201 g172 F)
theorem ev224_12 (g173 : G173) (g201 : G201) (g172 : G172) (F : Nat) (s : ShVal sh224_12) (k kx : ShVal sh224_12 → Option R224) : evL TT (ct224 g173 g201 g172 ) kp224 [] (loopOf Tryz.f224 12) (envOf sh224_12 s) (fitK sh224_12 k) (fun j e => bif Nat.beq j 2 then fitK sh224_12 kx e else none) kr224 = st224_12 g173 g201 g172 F s k kx := by
  obtain ⟨⟨t0, _⟩, ⟨t1, _⟩, ⟨t2, _⟩, ⟨t44, _⟩, ⟨t45, _⟩, ⟨t46, _⟩, _⟩ := s
  kernel_rfl
theorem ok224_12 (g173 : G173) (g201 : G201) (g172 : G172) (F : Nat) (hK : KOK Tryz.prog (ct224 g173 g201 g172 )) : LSOK Tryz.prog ⟨64, false, undef⟩ (ls224_12 g173 g201 g172 F) (loopOf Tryz.f224 12) kr224 :=
  loop_ok (st224_12 g173 g201 g172 F) mixed tt_ok hK (by kernel_rfl) (LTOK_by (l := []) (by kernel_rfl) trivial) (ev224_12 g173 g201 g172 F)
theorem ev224 (g173 : G173) (g201 : G201) (g172 : G172) (F : Nat) (x : Args [.v i64, .v (.slice 44 (.slice 2 i64)), .v (.slice 2 i64)]) : fnX TT (ct224 g173 g201 g172 ) kp224 .i64 44 (.slice 2 i64) (.slice 2 i64) (.slice 44 (.slice 2 i64)) [(7, ls224_7 g173 g201 g172 F), (12, ls224_12 g173 g201 g172 F)] (bodyOf Tryz.f224) [.tmp 6] x = fn224 g173 g201 g172 F x := by
  obtain ⟨x0, x1, x2, _⟩ := x
  kernel_rfl
theorem ok224 (g173 : G173) (g201 : G201) (g172 : G172) (hK : KOK Tryz.prog (ct224 g173 g201 g172 )) (cf : G224) (h : ∀ x y, cf x = some y → ∃ F, fn224 g173 g201 g172 F x = some y) : KOne Tryz.prog 224 ⟨[.v i64, .v (.slice 44 (.slice 2 i64)), .v (.slice 2 i64)], [(.slice 44 (.slice 2 i64))], true, false, 2, cf⟩ :=
  fnX_one (c := bodyOf Tryz.f224) mixed tt_ok hK Tryz.func224 (by kernel_rfl) (by kernel_rfl) (Nat.le_of_ble_eq_true (by kernel_rfl)) (by decide) fun x y hxy => by
    obtain ⟨F, hF⟩ := h x y hxy
    exact ⟨[(7, ls224_7 g173 g201 g172 F), (12, ls224_12 g173 g201 g172 F)], LTOK_by (l := [loopOf Tryz.f224 7, loopOf Tryz.f224 12]) (by kernel_rfl) ⟨ls_at (by kernel_rfl) (ok224_7 g173 g201 g172 F hK), ⟨ls_at (by kernel_rfl) (ok224_12 g173 g201 g172 F hK), trivial⟩⟩, (ev224 g173 g201 g172 F x).trans hF⟩
abbrev R226 : Type := Ress [i64]
abbrev G226 : Type := Args [.v (.slice 2 i64), .v (.slice 2 i64)] → Option R226
abbrev kp226 : List (Nat × List Nat) := [(0, [0, 1]), (1, [4])]
abbrev ct226 (g172 : G172) : CTab := [(172, ⟨[.v (.slice 2 i64)], [i64], false, false, 0, g172⟩)]
def fn226 (g172 : G172) (F : Nat) (x : Args [.v (.slice 2 i64), .v (.slice 2 i64)]) : Option R226 :=
  match x with
  | (x0, x1, _) => (match (g172 (x0, ())) with | some r5 => (match (g172 (x1, ())) with | some r6 => (some ((w6 (r5.1 - r6.1)), ())) | none => none) | none => none)
theorem ev226 (g172 : G172) (F : Nat) (x : Args [.v (.slice 2 i64), .v (.slice 2 i64)]) : fnK TT (ct226 g172 ) kp226 [i64] [] (bodyOf Tryz.f226) [.tmp 4] [.v (.slice 2 i64), .v (.slice 2 i64)] false false x = fn226 g172 F x := by
  obtain ⟨x0, x1, _⟩ := x
  kernel_rfl
theorem ok226 (g172 : G172) (hK : KOK Tryz.prog (ct226 g172 )) (cf : G226) (h : ∀ x y, cf x = some y → ∃ F, fn226 g172 F x = some y) : KOne Tryz.prog 226 ⟨[.v (.slice 2 i64), .v (.slice 2 i64)], [i64], false, false, 0, cf⟩ :=
  fn_one rfl (c := bodyOf Tryz.f226) mixed tt_ok hK Tryz.func226 (by kernel_rfl) (by kernel_rfl) (Nat.le_of_ble_eq_true (by kernel_rfl)) (by decide) fun x y hxy => by
    obtain ⟨F, hF⟩ := h x y hxy
    exact ⟨[], LTOK_by (l := []) (by kernel_rfl) trivial, (ev226 g172 F x).trans hF⟩
abbrev R176 : Type := Ress [(.slice 44 (.slice 2 i64))]
abbrev G176 : Type := Args [.v i64, .v (.slice 44 (.slice 2 i64))] → Option R176
abbrev kp176 : List (Nat × List Nat) := [(0, [1, 0]), (1, [1, 5, 0]), (2, [11, 5, 0, 9, 10]), (3, [12, 5, 11, 0, 9, 10]), (4, [5, 7, 11, 0, 9, 10]), (5, [11, 5, 0, 9, 10]), (6, [11, 5, 0, 9, 10]), (7, [5]), (8, [4])]
abbrev ct176 (g225 : G225) (g224 : G224) : CTab := [(225, ⟨[.v (.slice 44 (.slice 2 i64)), .fn 226], [(.slice 44 (.slice 2 i64))], false, false, 1, g225⟩), (224, ⟨[.v i64, .v (.slice 44 (.slice 2 i64)), .v (.slice 2 i64)], [(.slice 44 (.slice 2 i64))], true, false, 2, g224⟩)]
abbrev kr176 : Env → Option R176 := endK TT [.tmp 4] [(.slice 44 (.slice 2 i64))] true false
abbrev sh176_3 : Shape := [(0, vv i64), (5, vr 44 (.slice 2 i64) 81 false), (9, .val false [.fz (.slice 44 (.slice 2 i64)) 0 true]), (10, vv i64), (11, vv i64)]
def st176_3 (g225 : G225) (g224 : G224) (F : Nat) (s : ShVal sh176_3) (k kx : ShVal sh176_3 → Option R176) : Option R176 :=
  match s with
  | ((t0, _), (t5, _), (t9, _), (t10, _), (t11, _), _) => (bif decide (t11 < t10) then (bif ib t11 (Int.ofNat (List.length t9)) then (match (g224 (t0, (t5, ((List.getD t9 (tn t11) []), ())))) with | some r15 => k ((t0, ()), ((r15.1, ()), ((t9, ()), ((t10, ()), (((w6 (t11 + (1 : Int))), ()), ()))))) | none => none) else none) else kx ((t0, ()), ((t5, ()), ((t9, ()), ((t10, ()), ((t11, ()), ()))))))
def ru176_3 (g225 : G225) (g224 : G224) (F : Nat) (s : ShVal sh176_3) (kx : ShVal sh176_3 → Option R176) : Option R176 := iter (fun s k => st176_3 g225 g224 F s k kx) F s
abbrev ls176_3 (g225 : G225) (g224 : G224) (F : Nat) : LS R176 := ⟨sh176_3, 0, ru176_3 g225 g224 F⟩
def fn176 (g225 : G225) (g224 : G224) (F : Nat) (x : Args [.v i64, .v (.slice 44 (.slice 2 i64))]) : Option R176 :=
  match x with
  | (x0, x1, _) => (bif decide ((List.length x1) ≤ 9223372036854775807) then (ru176_3 g225 g224 F ((x0, ()), (([], ()), ((x1, ()), (((Int.ofNat (List.length x1)), ()), (((0 : Int), ()), ()))))) (fun s' => match s' with | ((t0, _), (t5, _), (t9, _), (t10, _), (t11, _), _) => (match (g225 (t5, ((), ()))) with | some r13 => (some ((bif ((Nat.beq 44 44) && ((Nat.beq 2 2) && true)) then r13.1 else []), ())) | none => none))) else none)
theorem ev176_3 (g225 : G225) (g224 : G224) (F : Nat) (s : ShVal sh176_3) (k kx : ShVal sh176_3 → Option R176) : evL TT (ct176 g225 g224 ) kp176 [] (loopOf Tryz.f176 3) (envOf sh176_3 s) (fitK sh176_3 k) (fun j e => bif Nat.beq j 0 then fitK sh176_3 kx e else none) kr176 = st176_3 g225 g224 F s k kx := by
  obtain ⟨⟨t0, _⟩, ⟨t5, _⟩, ⟨t9, _⟩, ⟨t10, _⟩, ⟨t11, _⟩, _⟩ := s
  kernel_rfl
theorem ok176_3 (g225 : G225) (g224 : G224) (F : Nat) (hK : KOK Tryz.prog (ct176 g225 g224 )) : LSOK Tryz.prog ⟨23, false, undef⟩ (ls176_3 g225 g224 F) (loopOf Tryz.f176 3) kr176 :=
  loop_ok (st176_3 g225 g224 F) mixed tt_ok hK (by kernel_rfl) (LTOK_by (l := []) (by kernel_rfl) trivial) (ev176_3 g225 g224 F)
theorem ev176 (g225 : G225) (g224 : G224) (F : Nat) (x : Args [.v i64, .v (.slice 44 (.slice 2 i64))]) : fnK TT (ct176 g225 g224 ) kp176 [(.slice 44 (.slice 2 i64))] [(3, ls176_3 g225 g224 F)] (bodyOf Tryz.f176) [.tmp 4] [.v i64, .v (.slice 44 (.slice 2 i64))] true false x = fn176 g225 g224 F x := by
  obtain ⟨x0, x1, _⟩ := x
  kernel_rfl
theorem ok176 (g225 : G225) (g224 : G224) (hK : KOK Tryz.prog (ct176 g225 g224 )) (cf : G176) (h : ∀ x y, cf x = some y → ∃ F, fn176 g225 g224 F x = some y) : KOne Tryz.prog 176 ⟨[.v i64, .v (.slice 44 (.slice 2 i64))], [(.slice 44 (.slice 2 i64))], true, false, 0, cf⟩ :=
  fn_one rfl (c := bodyOf Tryz.f176) mixed tt_ok hK Tryz.func176 (by kernel_rfl) (by kernel_rfl) (Nat.le_of_ble_eq_true (by kernel_rfl)) (by decide) fun x y hxy => by
    obtain ⟨F, hF⟩ := h x y hxy
    exact ⟨[(3, ls176_3 g225 g224 F)], LTOK_by (l := [loopOf Tryz.f176 3]) (by kernel_rfl) ⟨ls_at (by kernel_rfl) (ok176_3 g225 g224 F hK), trivial⟩, (ev176 g225 g224 F x).trans hF⟩
def cf178 : G222 := fn222 0
theorem k178 : KOne Tryz.prog 222 ⟨[.v i64], [.bool], false, false, 0, cf178⟩ := ok222 .nil cf178 fun x y h => ⟨0, h⟩
theorem g178_ok (a : Int) : cf178 (a, ()) = some (!decide (a = 0), ()) := rfl
def c177 (l : List Int) : Option (Int × Unit) := if l.length ≤ 1000000 then some (ldI l, ()) else none
def cf177 : G221 := fun x => c177 x.1
theorem k177 : KOne Tryz.prog 221 ⟨[.v (.slice 2 i64), .fn 222], [i64], false, false, 0, cf177⟩ := ok221 _ (.cons k178 .nil) cf177 fun x y h => by
  obtain ⟨l, _, _⟩ := x
  simp only [cf177, c177] at h
  split at h
  · rename_i hc
    injection h with h; subst h
    have hle := ld_le l
    refine ⟨l.length + 1, ?_⟩
    simp (disch := omega) only [fn221, ru221_2, dln_t, cond_true, ofn]
    refine iter_run (ld l) _ (fun i => ((l, ()), ((), (((l.length : Int), ()), ((i : Int), ()), ())))) (by omega) (fun i hi k => ?_) (fun k => ?_)
    · have h0 : l.getD i 0 = 0 := ld_zero l i hi
      simp (disch := omega) only [st221_2, ofn, dlt_t, ib_t, tn_cast, cond_true, h0, g178_ok, deq_t, Bool.not_true, cond_false, w6_id]
      rfl
    · by_cases q : ld l = l.length
      · simp (disch := omega) only [st221_2, dlt_f, cond_false, ldI, if_pos q]
      · have hne : l.getD (ld l) 0 ≠ 0 := ld_ne l (by omega)
        have g : cf178 (l.getD (ld l) 0, ()) = some (true, ()) := by rw [g178_ok, deq_f hne]; rfl
        simp (disch := omega) only [st221_2, ofn, dlt_t, ib_t, tn_cast, cond_true, g, ldI, if_neg q]
  · cases h
def cf157 : G172 := fn172 cf177 0
theorem k157 : KOne Tryz.prog 172 ⟨[.v (.slice 2 i64)], [i64], false, false, 0, cf157⟩ := ok172 _ (.cons k177 .nil) cf157 fun x y h => ⟨0, h⟩
theorem g157_ok {l : List Int} (h : l.length ≤ 1000000) : cf157 (l, ()) = some (ldI l, ()) := by
  have : cf177 (l, (), ()) = some (ldI l, ()) := if_pos h
  simp only [cf157, fn172, this]
theorem g91_ok {l : List Int} (h : l.length ≤ 1000000) : cf91 (l, ()) = some (l, ()) := if_pos h
theorem run79 {p x : Int} (hp : 2 ≤ p ∧ p ≤ 13) (hx : 0 ≤ x ∧ x < p) {F0 : Nat} : ∀ (f F : Nat) (k : Int), 1 ≤ k → p - k < f → f < F →
    iter (fun s k => st201_2 F0 s k (fun s' => match s' with | ((t0, _), (t1, _), (t5, _), _) => (some ((0 : Int), ())))) F ((x, ()), ((p, ()), ((k, ()), ()))) = some (invA p (x % p) f k, ())
  | 0, F, k, h1, h2, h3 => by
    obtain ⟨F, rfl⟩ : ∃ f, F = f + 1 := ⟨F - 1, by omega⟩
    simp (disch := omega) only [iter, st201_2, dlt_f, cond_false, invA]
  | f + 1, F, k, h1, h2, h3 => by
    obtain ⟨F, rfl⟩ : ∃ f, F = f + 1 := ⟨F - 1, by omega⟩
    have r : x % p = x := Int.emod_eq_of_lt hx.1 hx.2
    by_cases q : k < p
    · have s := sq_rng (p := p) (by omega) hx.1 hx.2 (show 0 ≤ k by omega) q
      have e : Int.tmod (w6 (x * k)) p = k * (x % p) % p := by rw [w6_id (by omega) (by omega), Int.tmod_eq_emod_of_nonneg s.1, r, Int.mul_comm]
      have ih := fun k h1 h2 => run79 hp hx (F0 := F0) f F k h1 h2 (by omega)
      simp only [iter]
      generalize iter _ F = G at ih ⊢
      simp (disch := omega) only [st201_2, dlt_t, cond_true, deq_f, Bool.not_false, e]
      by_cases z : k * (x % p) % p = 1
      · rw [decide_eq_true z]; simp only [cond_true, invA, if_pos q, if_pos z]
      · rw [decide_eq_false z]
        simp (disch := omega) only [cond_false, w6_id]
        rw [ih (k + 1) (by omega) (by omega)]
        simp only [invA, if_pos q, if_neg z]
    · simp (disch := omega) only [iter, st201_2, dlt_f, cond_false, invA, if_neg q]
def c79 (x p : Int) : Option (Int × Unit) := if (2 ≤ p ∧ p ≤ 13) ∧ (0 ≤ x ∧ x < p) then some (inv p x, ()) else none
def cf79 : G201 := fun x => c79 x.1 x.2.1
theorem k79 : KOne Tryz.prog 201 ⟨[.v i64, .v i64], [i64], false, false, 0, cf79⟩ := ok201 .nil cf79 fun x y h => by
  obtain ⟨a, p, _⟩ := x
  simp only [cf79, c79] at h
  split at h
  · rename_i hc
    injection h with h; subst h
    exact ⟨20, run79 hc.1 hc.2 13 20 1 (by omega) (by omega) (by omega)⟩
  · cases h
theorem g79_ok {x p : Int} (hp : 2 ≤ p ∧ p ≤ 13) (hx : 0 ≤ x ∧ x < p) : cf79 (x, p, ()) = some (inv p x, ()) := if_pos ⟨hp, hx⟩
theorem less_el {p n x a : Int} (hp : 2 ≤ p ∧ p ≤ 13) (hx : 0 ≤ x ∧ x < p) (hn : 0 ≤ n ∧ n < p) (ha : 0 ≤ a ∧ a < p) : Int.tmod (w6 (x + w6 (w6 (p - n) * a))) p = (x - n * a) % p := by
  have h1 : w6 (p - n) = p - n := w6_id (by omega) (by omega)
  have s := mul_rng (a := p - n) (b := a) (c := 14) (d := 14) (by omega) (by omega) ha.1 (by omega)
  rw [h1, w6_id (x := (p - n) * a) (by omega) (by omega), w6_id (by omega) (by omega), Int.tmod_eq_emod_of_nonneg (by omega)]
  have : x + (p - n) * a = x - n * a + p * a := by rw [Int.sub_mul]; omega
  rw [this, Int.add_mul_emod_self_left]
theorem less_in {p n : Int} {m : Nat} {r o : List Int} (hp : 2 ≤ p ∧ p ≤ 13) (hn : 0 ≤ n ∧ n < p) (h1 : Can p m r) (h2 : Can p m o) (hm : m ≤ 1000000) {F0 F : Nat} (hF : m < F) {out : List (List Int)} {a b : Int} {kx : ShVal sh173_8 → Option R173} :
    iter (fun s k => st173_8 cf91 cf157 F0 s k kx) F ((p, ()), ((r, ()), ((n, ()), ((out, ()), ((a, ()), ((b, ()), ((o, ()), (((m : Int), ()), (((0 : Int), ()), ()))))))))) =
      kx ((p, ()), ((subm p n r o, ()), ((n, ()), ((out, ()), ((a, ()), ((b, ()), ((o, ()), (((m : Int), ()), (((m : Int), ()), ()))))))))) := by
  have l1 := h1.len
  have l2 := h2.len
  have l3 : (subm p n r o).length = r.length := subm_len (by omega)
  have key := iter_run (step := fun s k => st173_8 cf91 cf157 F0 s k kx) (r := kx ((p, ()), ((subm p n r o, ()), ((n, ()), ((out, ()), ((a, ()), ((b, ()), ((o, ()), (((m : Int), ()), (((m : Int), ()), ()))))))))))
    m F (fun i => ((p, ()), (((subm p n r o).take i ++ r.drop i, ()), ((n, ()), ((out, ()), ((a, ()), ((b, ()), ((o, ()), (((m : Int), ()), (((i : Int), ()), ())))))))))) hF (fun i hi k => ?_) (fun k => ?_)
  · simpa using key
  · have z1 := split_len (i := i) l3 (by omega)
    have g1 := split_get (i := i) l3 (by omega)
    have s1 := split_set (i := i) l3 (by omega)
    have e := less_el hp (h1.rng i) hn (h2.rng i)
    rw [← el_subm (by omega)] at e
    rw [← s1]
    generalize (subm p n r o).take i ++ r.drop i = L at *
    have go : o.getD i 0 = el o i := rfl
    have wi : w6 ((i : Int) + 1) = ((i + 1 : Nat) : Int) := by rw [w6_id (by omega) (by omega)]; rfl
    simp (disch := omega) only [st173_8, ofn, dlt_t, cond_true, ib_t, tn_cast, deq_f, Bool.not_false, g1, go, e, wi]
  · rw [show (subm p n r o).take m ++ r.drop m = subm p n r o by rw [← l1, List.drop_length, List.append_nil, ← l3, List.take_length]]
    simp (disch := omega) only [st173_8, dlt_f, cond_false]
theorem run156 {p : Int} {m : Nat} {out : List (List Int)} {r : List Int} (hp : 2 ≤ p ∧ p ≤ 13) (hc : ∀ o ∈ out, Can p m o ∧ ld o < m) (hr : Can p m r) (hm : m ≤ 1000000) (ho : out.length ≤ 1000000) : fn173 cf91 cf157 (out.length + m + 1) (p, out, r, ()) = some (rest p out r, ()) := by
  simp only [fn173, ru173_3]
  rw [g91_ok (by rw [hr.len]; exact hm)]
  simp (disch := omega) only [dln_t, cond_true, ofn]
  have key := iter_run (step := fun s k => st173_3 cf91 cf157 (out.length + m + 1) s k (fun s' => match s' with | ((t0, _), (t2, _), (t14, _), (t15, _), (t16, _), _) => (some (t2, ())))) (r := some (rest p out r, ())) out.length (out.length + m + 1) (fun i => ((p, ()), ((rest p (out.take i) r, ()), ((out, ()), (((out.length : Int), ()), (((i : Int), ()), ())))))) (by omega) (fun i hi kk => ?_) (fun kk => ?_)
  · simpa [rest] using key
  · have ho1 : out.getD i [] = out[i] := by simp [List.getD_eq_getElem?_getD, List.getElem?_eq_getElem hi]
    have hmem : out[i] ∈ out := List.getElem_mem hi
    have co := (hc _ hmem).1
    have lo := (hc _ hmem).2
    have cr : Can p m (rest p (out.take i) r) := rest_can (by omega) (fun o h => (hc o (List.mem_of_mem_take h)).1) hr
    rw [show List.take (i + 1) out = List.take i out ++ [out[i]] from take_snoc hi, rest_snoc]
    generalize rest p (List.take i out) r = own at *
    generalize out[i] = o at *
    have g1 := g157_ok (l := o) (by rw [co.len]; exact hm)
    rw [ldI_lt co.len lo] at g1
    have lw := cr.len
    have lo2 := co.len
    have z := cr.rng (ld o)
    by_cases q : el own (ld o) = 0
    · have q' : own.getD (ld o) 0 = 0 := q
      rw [q, subm_zero cr co.len]
      simp (disch := omega) only [st173_3, cond_true, ofn, dlt_t, ib_t, tn_cast, ho1, g1, q', decide_true, Bool.not_true, cond_false, w6_id]
      rfl
    · have q' : own.getD (ld o) 0 ≠ 0 := q
      have li := less_in hp z cr co hm (F0 := out.length + m + 1) (F := out.length + m + 1) (by omega) (out := out) (a := (out.length : Int)) (b := (i : Int)) (kx := fun s' => match s' with | ((t0, _), (t2, _), (t9, _), (t14, _), (t15, _), (t16, _), (t27, _), (t28, _), (t29, _), _) => kk ((t0, ()), ((t2, ()), ((t14, ()), ((t15, ()), (((w6 (t16 + (1 : Int))), ()), ()))))))
      have ge : own.getD (ld o) 0 = el own (ld o) := rfl
      simp (disch := first | omega | exact q') only [st173_3, cond_true, ofn, dlt_t, ib_t, tn_cast, ho1, g1, deq_f, Bool.not_false, dln_t, lo2, ru173_8]
      rw [ge, li]
      simp (disch := omega) only [w6_id]
      rfl
  · rw [List.take_length]
    simp (disch := omega) only [st173_3, dlt_f, cond_false]
open Classical in
noncomputable def c156 (p : Int) (out : List (List Int)) (r : List Int) : Option (List Int × Unit) := if (2 ≤ p ∧ p ≤ 13) ∧ (∀ o ∈ out, Can p r.length o ∧ ld o < r.length) ∧ Can p r.length r ∧ r.length ≤ 1000000 ∧ out.length ≤ 1000000 then some (rest p out r, ()) else none
noncomputable def cf156 : G173 := fun x => c156 x.1 x.2.1 x.2.2.1
theorem k156 : KOne Tryz.prog 173 ⟨[.v i64, .v (.slice 44 (.slice 2 i64)), .v (.slice 2 i64)], [.slice 2 i64], true, false, 0, cf156⟩ := ok173 _ _ (.cons k91 (.cons k157 .nil)) cf156 fun x y h => by
  obtain ⟨p, out, r, _⟩ := x
  simp only [cf156, c156] at h
  split at h
  · rename_i hc
    injection h with h; subst h
    exact ⟨_, run156 hc.1 hc.2.1 hc.2.2.1 hc.2.2.2.1 hc.2.2.2.2⟩
  · cases h
theorem g156_ok {p : Int} {m : Nat} {out : List (List Int)} {r : List Int} (hp : 2 ≤ p ∧ p ≤ 13) (hc : ∀ o ∈ out, Can p m o ∧ ld o < m) (hr : Can p m r) (hm : m ≤ 1000000) (ho : out.length ≤ 1000000) : cf156 (p, out, r, ()) = some (rest p out r, ()) :=
  if_pos ⟨hp, by rw [hr.len]; exact hc, by rw [hr.len]; exact hr, by rw [hr.len]; exact hm, ho⟩
theorem scale_in {p c : Int} {m : Nat} {own : List Int} (hp : 2 ≤ p ∧ p ≤ 13) (hc : 0 ≤ c ∧ c < p) (h1 : Can p m own) (hm : m ≤ 1000000) {g156 : G173} {g79 : G201} {g157 : G172} {F0 F : Nat} (hF : m < F) {out : List (List Int)} {kx : ShVal sh224_7 → Option R224} :
    iter (fun s k => st224_7 g156 g79 g157 F0 s k kx) F ((p, ()), ((out, ()), ((own, ()), ((c, ()), (((m : Int), ()), (((0 : Int), ()), ())))))) =
      kx ((p, ()), ((out, ()), ((scl p c own, ()), ((c, ()), (((m : Int), ()), (((m : Int), ()), ())))))) := by
  have hl : (scl p c own).length = own.length := scl_len
  have lw := h1.len
  have key := iter_run (step := fun s k => st224_7 g156 g79 g157 F0 s k kx) (r := kx ((p, ()), ((out, ()), ((scl p c own, ()), ((c, ()), (((m : Int), ()), (((m : Int), ()), ())))))))
    m F (fun j => ((p, ()), ((out, ()), (((scl p c own).take j ++ own.drop j, ()), ((c, ()), (((m : Int), ()), (((j : Int), ()), ()))))))) hF (fun j hj k => ?_) (fun k => ?_)
  · simpa using key
  · have l1 := split_len (i := j) hl (by omega)
    have g1 := split_get (i := j) hl (by omega)
    have s1 := split_set (i := j) hl (by omega)
    have z := h1.rng j
    have z2 := sq_rng (p := p) (by omega) z.1 z.2 hc.1 hc.2
    have e : Int.tmod (w6 (el own j * c)) p = el (scl p c own) j := by rw [w6_id (by omega) (by omega), Int.tmod_eq_emod_of_nonneg z2.1, el_scl]
    rw [← s1]
    generalize (scl p c own).take j ++ own.drop j = L at *
    have wi : w6 ((j : Int) + 1) = ((j + 1 : Nat) : Int) := by rw [w6_id (by omega) (by omega)]; rfl
    simp (disch := omega) only [st224_7, cond_true, ofn, dlt_t, ib_t, tn_cast, deq_f, Bool.not_false, g1, e, wi]
  · rw [show (scl p c own).take m ++ own.drop m = scl p c own by rw [← lw, List.drop_length, List.append_nil, ← hl, List.take_length]]
    simp (disch := omega) only [st224_7, dlt_f, cond_false]
theorem split_getL {a b : List (List Int)} {i : Nat} (h : a.length = b.length) (hi : i < a.length) : (a.take i ++ b.drop i).getD i [] = b[i]'(by omega) := by
  simp only [List.getD_eq_getElem?_getD]
  rw [List.getElem?_append_right (by simp; omega), List.length_take, Nat.min_eq_left (by omega), List.getElem?_drop]
  simp [List.getElem?_eq_getElem (show i < b.length by omega)]
theorem split_setL {a b : List (List Int)} {i : Nat} (h : a.length = b.length) (hi : i < a.length) : (a.take i ++ b.drop i).set i a[i] = a.take (i + 1) ++ b.drop (i + 1) := by
  rw [take_snoc hi, List.set_append_right _ _ (by simp; omega)]
  rw [List.length_take, Nat.min_eq_left (by omega), Nat.sub_self, List.append_assoc]
  congr 1
  rw [List.drop_eq_getElem_cons (show i < b.length by omega)]
  rfl
theorem red_step {p : Int} {own o x : List Int} {L : List (List Int)} {n j : Nat} (hn : n ≤ 1000000) (hj : j < n) (l1 : L.length = n) (g1 : L.getD j [] = o) (g2 : cf156 (p, [own], o, ()) = some (x, ())) {F0 : Nat} {k kx : ShVal sh224_12 → Option R224} :
    st224_12 cf156 cf79 cf157 F0 ((p, ()), ((L, ()), ((own, ()), ((L, ()), (((n : Int), ()), (((j : Int), ()), ())))))) k kx = k ((p, ()), ((L.set j x, ()), ((own, ()), ((L.set j x, ()), (((n : Int), ()), ((((j + 1 : Nat) : Int), ()), ())))))) := by
  have wi : w6 ((j : Int) + 1) = ((j + 1 : Nat) : Int) := by rw [w6_id (by omega) (by omega)]; rfl
  simp (disch := omega) only [st224_12, cond_true, ofn, dlt_t, ib_t, tn_cast, g1, g2, wi]
theorem red_in {p : Int} {m at_ : Nat} {own : List Int} {out : List (List Int)} (hp : 2 ≤ p ∧ p ≤ 13) (ho : Can p m own) (hl : ld own = at_) (ht : at_ < m) (hc : ∀ o ∈ out, Can p m o) (hm : m ≤ 1000000) (hn : out.length ≤ 1000000) {F0 F : Nat} (hF : out.length < F) {kx : ShVal sh224_12 → Option R224} :
    iter (fun s k => st224_12 cf156 cf79 cf157 F0 s k kx) F ((p, ()), ((out, ()), ((own, ()), ((out, ()), (((out.length : Int), ()), (((0 : Int), ()), ())))))) =
      kx ((p, ()), ((out.map (red p own at_), ()), ((own, ()), ((out.map (red p own at_), ()), (((out.length : Int), ()), (((out.length : Int), ()), ())))))) := by
  have hlm : (out.map (red p own at_)).length = out.length := by simp
  have key := iter_run (step := fun s k => st224_12 cf156 cf79 cf157 F0 s k kx) (r := kx ((p, ()), ((out.map (red p own at_), ()), ((own, ()), ((out.map (red p own at_), ()), (((out.length : Int), ()), (((out.length : Int), ()), ())))))))
    out.length F (fun j => ((p, ()), (((out.map (red p own at_)).take j ++ out.drop j, ()), ((own, ()), (((out.map (red p own at_)).take j ++ out.drop j, ()), (((out.length : Int), ()), (((j : Int), ()), ()))))))) hF (fun j hj k => ?_) (fun k => ?_)
  · simpa using key
  · have l1 : ((out.map (red p own at_)).take j ++ out.drop j).length = out.length := by simp; omega
    have g1 := split_getL (i := j) hlm (by omega)
    have s1 := split_setL (i := j) hlm (by omega)
    have co := hc out[j] (List.getElem_mem hj)
    have g2 : cf156 (p, [own], out[j], ()) = some (red p own at_ out[j], ()) := by
      have := g156_ok (p := p) (out := [own]) (r := out[j]) hp (fun o h => by rw [List.mem_singleton.1 h]; exact ⟨ho, by rw [hl]; exact ht⟩) co hm (by simp)
      rw [this]
      simp only [rest, red, hl]
    have em : (out.map (red p own at_))[j]'(by simpa using hj) = red p own at_ out[j] := by simp
    rw [em] at s1
    rw [← s1]
    exact red_step (by omega) hj l1 g1 g2
  · rw [show (out.map (red p own at_)).take out.length ++ out.drop out.length = out.map (red p own at_) by rw [List.drop_length, List.append_nil, ← hlm, List.take_length]]
    simp (disch := omega) only [st224_12, dlt_f, cond_false]
theorem run172 {p : Int} {m : Nat} {out b : List (List Int)} {r : List Int} (hP : isP p = true) (hb : out.Perm b) (rr : RR p m b) (hr : Can p m r) (hm : m ≤ 1000000) (hn : out.length ≤ 500000) : fn224 cf156 cf79 cf157 (m + out.length + 1) (p, out, r, ()) = some (takeL p out r, ()) := by
  have hp := isP_pos hP
  have hc : ∀ o ∈ out, Can p m o ∧ ld o < m := fun o ho => ⟨rr.can o (hb.mem_iff.1 ho), rr.lt o (hb.mem_iff.1 ho)⟩
  have g1 := g156_ok (p := p) (out := out) (r := r) (by omega) hc hr hm (by omega)
  have cr : Can p m (rest p out r) := rest_can (by omega) (fun o h => (hc o h).1) hr
  have lr := cr.len
  simp only [fn224, g1]
  rw [g157_ok (by omega)]
  simp only
  unfold takeL
  by_cases q : ld (rest p out r) = (rest p out r).length
  · rw [if_pos q]
    simp (disch := omega) only [ldI, if_pos q, dlt_t, cond_true]
  · rw [if_neg q]
    have hle := ld_le (rest p out r)
    have w := own_of hP rr hr (by rw [← rest_perm (by omega) hb rr hr]; exact q)
    rw [← rest_perm (by omega) hb rr hr] at w
    have z := cr.rng (ld (rest p out r))
    have hne := ld_ne (rest p out r) (by omega)
    have hmod : el (rest p out r) (ld (rest p out r)) % p ≠ 0 := by rw [cr.mod]; exact hne
    obtain ⟨i1, i2⟩ := inv_ok hP hmod
    have g2 := g79_ok (p := p) (x := el (rest p out r) (ld (rest p out r))) (by omega) z
    have ge : (rest p out r).getD (ld (rest p out r)) 0 = el (rest p out r) (ld (rest p out r)) := rfl
    have e0 : ldI (rest p out r) = (ld (rest p out r) : Int) := ldI_of (by omega)
    simp (disch := omega) only [e0, dlt_f, cond_false, ib_t, ofn, tn_cast, cond_true, ge, g2, dln_t, lr, ru224_7]
    rw [scale_in (by omega) (by omega) cr hm (by omega)]
    simp (disch := omega) only [dln_t, cond_true, ofn, ru224_12]
    rw [red_in (by omega) w.can w.led w.lt (fun o ho => (hc o ho).1) hm (by omega) (by omega)]
    have ll : ((out.map (red p (scl p (inv p (el (rest p out r) (ld (rest p out r)))) (rest p out r)) (ld (rest p out r)))).length) = out.length := by simp
    simp (disch := omega) only [grow_t, ll, List.length_singleton, cond_true]
noncomputable def c172 (p : Int) (out : List (List Int)) (r : List Int) : Option (List (List Int) × Unit) := by
  classical exact if isP p = true ∧ (∃ b, out.Perm b ∧ RR p r.length b) ∧ Can p r.length r ∧ r.length ≤ 1000000 ∧ out.length ≤ 500000 then some (takeL p out r, ()) else none
noncomputable def cf172 : G224 := fun x => c172 x.1 x.2.1 x.2.2.1
theorem k172 : KOne Tryz.prog 224 ⟨[.v i64, .v (.slice 44 (.slice 2 i64)), .v (.slice 2 i64)], [.slice 44 (.slice 2 i64)], true, false, 2, cf172⟩ := ok224 _ _ _ (.cons k156 (.cons k79 (.cons k157 .nil))) cf172 fun x y h => by
  obtain ⟨p, out, r, _⟩ := x
  simp only [cf172, c172] at h
  split at h
  · rename_i hc
    injection h with h; subst h
    obtain ⟨h1, ⟨b, h2, h3⟩, h4, h5, h6⟩ := hc
    exact ⟨_, run172 h1 h2 h3 h4 h5 h6⟩
  · cases h
theorem g172_ok {p : Int} {m : Nat} {out b : List (List Int)} {r : List Int} (hP : isP p = true) (hb : out.Perm b) (rr : RR p m b) (hr : Can p m r) (hm : m ≤ 1000000) (hn : out.length ≤ 500000) : cf172 (p, out, r, ()) = some (takeL p out r, ()) :=
  if_pos ⟨hP, ⟨b, hb, by rw [hr.len]; exact rr⟩, by rw [hr.len]; exact hr, by rw [hr.len]; exact hm, hn⟩
def c174 (a b : List Int) : Option (Int × Unit) := if a.length ≤ 1000000 ∧ b.length ≤ 1000000 then some (ldI a - ldI b, ()) else none
def cf174 : G226 := fun x => c174 x.1 x.2.1
theorem ldI_rng {a : List Int} : -1 ≤ ldI a ∧ ldI a ≤ a.length := by
  have := ld_le a
  unfold ldI; split <;> omega
theorem k174 : KOne Tryz.prog 226 ⟨[.v (.slice 2 i64), .v (.slice 2 i64)], [i64], false, false, 0, cf174⟩ := ok226 _ (.cons k157 .nil) cf174 fun x y h => by
  obtain ⟨a, b, _⟩ := x
  simp only [cf174, c174] at h
  split at h
  · rename_i hc
    injection h with h; subst h
    have r1 := ldI_rng (a := a)
    have r2 := ldI_rng (a := b)
    refine ⟨0, ?_⟩
    simp only [fn226, g157_ok hc.1, g157_ok hc.2]
    rw [w6_id (by omega) (by omega)]
  · cases h
noncomputable def cf173 : G225 := by
  classical exact fun x => if x.1.length ≤ 1000000 ∧ (∀ r ∈ x.1, r.length ≤ 1000000) ∧ (x.1.map ldI).Nodup then some (sortK ldI x.1, ()) else none
theorem k173 : KOne Tryz.prog 225 ⟨[.v (.slice 44 (.slice 2 i64)), .fn 226], [.slice 44 (.slice 2 i64)], false, false, 1, cf173⟩ := by
  refine ⟨fun q => (by cases q), fun _ => ?_, fun q => (by cases q), Tryz.f225, Tryz.func225, by decide, rfl⟩
  have eg : ∀ args w, (callFunc 226 args).run Tryz.prog w = .ok (.enter 226 args) w := fun args w => by
    have := Tryz.func226
    simp only [callFunc, Sem.run_bind, run_program, Result.andThen_ok, this]
    rw [if_neg (by decide), if_neg (by decide)]; rfl
  exact sortRows_ok (ρ := Tryz.l225_ren) (good := fun r : List Int => r.length ≤ 1000000) (cf := fun a b : List Int => ldI a - ldI b) (key := ldI) (u := .slice 2 i64) Tryz.l225 rfl rfl (k174.ok rfl) (fun a b ha hb => if_pos ⟨ha, hb⟩) (fun a b _ _ => by omega) eg fun x y h => by
    simp only [cf173] at h
    split at h
    · rename_i hc
      injection h with h; subst h
      exact ⟨hc.1, hc.2.1, hc.2.2, rfl⟩
    · cases h
theorem g173_ok {l : List (List Int)} (h1 : l.length ≤ 1000000) (h2 : ∀ r ∈ l, r.length ≤ 1000000) (h3 : (l.map ldI).Nodup) : cf173 (l, (), ()) = some (sortK ldI l, ()) := if_pos ⟨h1, h2, h3⟩
theorem run145 {p : Int} {m : Nat} {rows : List (List Int)} (hP : isP p = true) (hr : ∀ r ∈ rows, Can p m r) (hm : m ≤ 1000000) (hn : rows.length ≤ 400000) : fn176 cf173 cf172 (rows.length + 1) (p, rows, ()) = some (ech p rows, ()) := by
  simp only [fn176, ru176_3]
  simp (disch := omega) only [dln_t, cond_true, ofn]
  have hp := isP_pos hP
  have key := iter_run (step := fun s k => st176_3 cf173 cf172 (rows.length + 1) s k (fun s' => match s' with | ((t0, _), (t5, _), (t9, _), (t10, _), (t11, _), _) => (match (cf173 (t5, ((), ()))) with | some r13 => (some ((bif ((Nat.beq 24 24) && ((Nat.beq 2 2) && true)) then r13.1 else []), ())) | none => none))) (r := some (ech p rows, ())) rows.length (rows.length + 1) (fun i => ((p, ()), (((rows.take i).foldl (takeL p) [], ()), ((rows, ()), (((rows.length : Int), ()), (((i : Int), ()), ())))))) (by omega) (fun i hi k => ?_) (fun k => ?_)
  · exact key
  · have ho1 : rows.getD i [] = rows[i] := by simp [List.getD_eq_getElem?_getD, List.getElem?_eq_getElem hi]
    have hcut : ∀ r ∈ rows.take i, Can p m r := fun r h => hr r (List.mem_of_mem_take h)
    have hpm : ((rows.take i).foldl (takeL p) []).Perm (ech p (rows.take i)) := fold_perm hP (.refl _) .nil hcut
    have hlen : ((rows.take i).foldl (takeL p) []).length ≤ i := by have := takes_len (p := p) (rows := rows.take i) (out := []); simp at this; omega
    have g := g172_ok hP hpm (ech_RR hP hcut) (hr rows[i] (List.getElem_mem hi)) hm (by omega)
    rw [show List.take (i + 1) rows = List.take i rows ++ [rows[i]] from take_snoc hi, List.foldl_append]
    simp only [List.foldl_cons, List.foldl_nil]
    generalize (rows.take i).foldl (takeL p) [] = L at *
    have wi : w6 ((i : Int) + 1) = ((i + 1 : Nat) : Int) := by rw [w6_id (by omega) (by omega)]; rfl
    simp (disch := omega) only [st176_3, cond_true, ofn, dlt_t, ib_t, tn_cast, ho1, g, wi]
  · rw [List.take_length]
    obtain ⟨e1, e2⟩ := sort_ech hP hr
    have hlen : (rows.foldl (takeL p) []).length ≤ rows.length := by have := takes_len (p := p) (rows := rows) (out := []); simpa using this
    have g := g173_ok (l := rows.foldl (takeL p) []) (by omega) (fun r h => by rw [(take_mem hP hr r h).1.len]; exact hm) e2
    rw [e1] at g
    simp (disch := omega) only [st176_3, dlt_f, cond_false, g]
    rfl
noncomputable def c145 (p : Int) (rows : List (List Int)) : Option (List (List Int) × Unit) := by
  classical exact if isP p = true ∧ (∃ m, m ≤ 1000000 ∧ ∀ r ∈ rows, Can p m r) ∧ rows.length ≤ 400000 then some (ech p rows, ()) else none
noncomputable def cf145 : G176 := fun x => c145 x.1 x.2.1
theorem k145 : KOne Tryz.prog 176 ⟨[.v i64, .v (.slice 44 (.slice 2 i64))], [.slice 44 (.slice 2 i64)], true, false, 0, cf145⟩ := ok176 _ _ (.cons k173 (.cons k172 .nil)) cf145 fun x y h => by
  obtain ⟨p, rows, _⟩ := x
  simp only [cf145, c145] at h
  split at h
  · rename_i hc
    injection h with h; subst h
    obtain ⟨h1, ⟨m, h2, h3⟩, h4⟩ := hc
    exact ⟨_, run145 h1 h3 h2 h4⟩
  · cases h
theorem g145_ok {p : Int} {m : Nat} {rows : List (List Int)} (hP : isP p = true) (hr : ∀ r ∈ rows, Can p m r) (hm : m ≤ 1000000) (hn : rows.length ≤ 400000) : cf145 (p, rows, ()) = some (ech p rows, ()) := if_pos ⟨hP, ⟨m, hm, hr⟩, hn⟩
abbrev R89 : Type := Ress [(.slice 2 i64)]
abbrev G89 : Type := Args [.v poly, .v i64] → Option R89
abbrev kp89 : List (Nat × List Nat) := [(0, [1, 2]), (1, [5, 2, 6]), (2, [7, 5, 2, 6]), (3, [16, 6, 7, 5, 2]), (5, [7, 5, 2, 6]), (4, [7, 5, 2, 6]), (6, [4])]
abbrev ct89 (g161 : G161) (g163 : G163) : CTab := [(161, ⟨[.v i64, .v i64], [(.slice 107 ex)], true, false, 0, g161⟩), (163, ⟨[.v poly, .v ex], [i64], false, false, 0, g163⟩)]
abbrev kr89 : Env → Option R89 := endK TT [.tmp 4] [(.slice 2 i64)] true false
abbrev sh89_3 : Shape := [(2, .box false [.fz i64 0 false, .fz i64 0 false, .fz (.slice 135 term) 0 true]), (5, vr 107 ex 81 false), (6, vr 2 i64 97 false), (7, vv i64)]
def st89_3 (g161 : G161) (g163 : G163) (F : Nat) (s : ShVal sh89_3) (k kx : ShVal sh89_3 → Option R89) : Option R89 :=
  match s with
  | ((t2_0, t2_1, t2_2, _), (t5, _), (t6, _), (t7, _), _) => (bif decide ((List.length t5) ≤ 9223372036854775807) then (bif decide (t7 < (Int.ofNat (List.length t5))) then (bif ib t7 (Int.ofNat (List.length t5)) then (match (g163 ((t2_0, (t2_1, (t2_2, ()))), ((List.getD t5 (tn t7) (Ty.dflt (.arr 3 (.int .u8)))), ()))) with | some r16 => (bif (growOk (List.length t6) (List.length (r16.1 :: []))) then k ((t2_0, (t2_1, (t2_2, ()))), ((t5, ()), (((t6 ++ (r16.1 :: [])), ()), (((w6 (t7 + (1 : Int))), ()), ())))) else none) | none => none) else none) else kx ((t2_0, (t2_1, (t2_2, ()))), ((t5, ()), ((t6, ()), ((t7, ()), ()))))) else none)
def ru89_3 (g161 : G161) (g163 : G163) (F : Nat) (s : ShVal sh89_3) (kx : ShVal sh89_3 → Option R89) : Option R89 := iter (fun s k => st89_3 g161 g163 F s k kx) F s
abbrev ls89_3 (g161 : G161) (g163 : G163) (F : Nat) : LS R89 := ⟨sh89_3, 0, ru89_3 g161 g163 F⟩
def fn89 (g161 : G161) (g163 : G163) (F : Nat) (x : Args [.v poly, .v i64]) : Option R89 :=
  match x with
  | (x0, x1, _) => (match (g161 (x0.2.1, (x1, ()))) with | some r6 => (ru89_3 g161 g163 F ((x0.1, (x0.2.1, (x0.2.2.1, ()))), ((r6.1, ()), (([], ()), (((0 : Int), ()), ())))) (fun s' => match s' with | ((t2_0, t2_1, t2_2, _), (t5, _), (t6, _), (t7, _), _) => (some (t6, ())))) | none => none)
theorem ev89_3 (g161 : G161) (g163 : G163) (F : Nat) (s : ShVal sh89_3) (k kx : ShVal sh89_3 → Option R89) : evL TT (ct89 g161 g163 ) kp89 [] (loopOf Tryz.f89 3) (envOf sh89_3 s) (fitK sh89_3 k) (fun j e => bif Nat.beq j 0 then fitK sh89_3 kx e else none) kr89 = st89_3 g161 g163 F s k kx := by
  obtain ⟨⟨t2_0, t2_1, t2_2, _⟩, ⟨t5, _⟩, ⟨t6, _⟩, ⟨t7, _⟩, _⟩ := s
  kernel_rfl
theorem ok89_3 (g161 : G161) (g163 : G163) (F : Nat) (hK : KOK Tryz.prog (ct89 g161 g163 )) : LSOK Tryz.prog ⟨29, false, undef⟩ (ls89_3 g161 g163 F) (loopOf Tryz.f89 3) kr89 :=
  loop_ok (st89_3 g161 g163 F) mixed tt_ok hK (by kernel_rfl) (LTOK_by (l := []) (by kernel_rfl) trivial) (ev89_3 g161 g163 F)
theorem ev89 (g161 : G161) (g163 : G163) (F : Nat) (x : Args [.v poly, .v i64]) : fnK TT (ct89 g161 g163 ) kp89 [(.slice 2 i64)] [(3, ls89_3 g161 g163 F)] (bodyOf Tryz.f89) [.tmp 4] [.v poly, .v i64] true false x = fn89 g161 g163 F x := by
  obtain ⟨x0, x1, _⟩ := x
  kernel_rfl
theorem ok89 (g161 : G161) (g163 : G163) (hK : KOK Tryz.prog (ct89 g161 g163 )) (cf : G89) (h : ∀ x y, cf x = some y → ∃ F, fn89 g161 g163 F x = some y) : KOne Tryz.prog 89 ⟨[.v poly, .v i64], [(.slice 2 i64)], true, false, 0, cf⟩ :=
  fn_one rfl (c := bodyOf Tryz.f89) mixed tt_ok hK Tryz.func89 (by kernel_rfl) (by kernel_rfl) (Nat.le_of_ble_eq_true (by kernel_rfl)) (by decide) fun x y hxy => by
    obtain ⟨F, hF⟩ := h x y hxy
    exact ⟨[(3, ls89_3 g161 g163 F)], LTOK_by (l := [loopOf Tryz.f89 3]) (by kernel_rfl) ⟨ls_at (by kernel_rfl) (ok89_3 g161 g163 F hK), trivial⟩, (ev89 g161 g163 F x).trans hF⟩
abbrev R177 : Type := Ress [i64]
abbrev G177 : Type := Args [.v poly, .v ex] → Option R177
abbrev kp177 : List (Nat × List Nat) := [(0, [2, 3]), (1, [10, 3, 8, 9]), (2, [11, 9, 8, 3, 10]), (3, [9, 8, 3, 10, 6]), (4, [17, 9, 8, 3, 10, 6]), (5, [4]), (6, [10, 3, 8, 9]), (7, [4])]
abbrev ct177 : CTab := []
abbrev kr177 : Env → Option R177 := endK TT [.tmp 4] [i64] false false
abbrev sh177_2 : Shape := [(3, bb ex), (8, .val false [.fz (.slice 135 term) 0 true]), (9, vv i64), (10, vv i64)]
def st177_2 (F : Nat) (s : ShVal sh177_2) (k kx : ShVal sh177_2 → Option R177) : Option R177 :=
  match s with
  | ((t3, _), (t8, _), (t9, _), (t10, _), _) => (bif decide (t10 < t9) then (bif ib t10 (Int.ofNat (List.length t8)) then (bif (Ty.eqd (.arr 3 (.int .u8)) (List.getD t8 (tn t10) (Ty.dflt (.pair (.arr 3 (.int .u8)) (.pair (.int .i64) .unit)))).1 t3) then (some ((List.getD t8 (tn t10) (Ty.dflt (.pair (.arr 3 (.int .u8)) (.pair (.int .i64) .unit)))).2.1, ())) else k ((t3, ()), ((t8, ()), ((t9, ()), (((w6 (t10 + (1 : Int))), ()), ()))))) else none) else kx ((t3, ()), ((t8, ()), ((t9, ()), ((t10, ()), ())))))
def ru177_2 (F : Nat) (s : ShVal sh177_2) (kx : ShVal sh177_2 → Option R177) : Option R177 := iter (fun s k => st177_2 F s k kx) F s
abbrev ls177_2 (F : Nat) : LS R177 := ⟨sh177_2, 0, ru177_2 F⟩
def fn177 (F : Nat) (x : Args [.v poly, .v ex]) : Option R177 :=
  match x with
  | (x0, x1, _) => (bif decide ((List.length x0.2.2.1) ≤ 9223372036854775807) then (ru177_2 F ((x1, ()), ((x0.2.2.1, ()), (((Int.ofNat (List.length x0.2.2.1)), ()), (((0 : Int), ()), ())))) (fun s' => match s' with | ((t3, _), (t8, _), (t9, _), (t10, _), _) => (some ((0 : Int), ())))) else none)
theorem ev177_2 (F : Nat) (s : ShVal sh177_2) (k kx : ShVal sh177_2 → Option R177) : evL TT (ct177 ) kp177 [] (loopOf Tryz.f177 2) (envOf sh177_2 s) (fitK sh177_2 k) (fun j e => bif Nat.beq j 0 then fitK sh177_2 kx e else none) kr177 = st177_2 F s k kx := by
  obtain ⟨⟨t3, _⟩, ⟨t8, _⟩, ⟨t9, _⟩, ⟨t10, _⟩, _⟩ := s
  kernel_rfl
theorem ok177_2 (F : Nat) (hK : KOK Tryz.prog (ct177 )) : LSOK Tryz.prog ⟨21, false, undef⟩ (ls177_2 F) (loopOf Tryz.f177 2) kr177 :=
  loop_ok (st177_2 F) mixed tt_ok hK (by kernel_rfl) (LTOK_by (l := []) (by kernel_rfl) trivial) (ev177_2 F)
theorem ev177 (F : Nat) (x : Args [.v poly, .v ex]) : fnK TT (ct177 ) kp177 [i64] [(2, ls177_2 F)] (bodyOf Tryz.f177) [.tmp 4] [.v poly, .v ex] false false x = fn177 F x := by
  obtain ⟨x0, x1, _⟩ := x
  kernel_rfl
theorem ok177 (hK : KOK Tryz.prog (ct177 )) (cf : G177) (h : ∀ x y, cf x = some y → ∃ F, fn177 F x = some y) : KOne Tryz.prog 177 ⟨[.v poly, .v ex], [i64], false, false, 0, cf⟩ :=
  fn_one rfl (c := bodyOf Tryz.f177) mixed tt_ok hK Tryz.func177 (by kernel_rfl) (by kernel_rfl) (Nat.le_of_ble_eq_true (by kernel_rfl)) (by decide) fun x y hxy => by
    obtain ⟨F, hF⟩ := h x y hxy
    exact ⟨[(2, ls177_2 F)], LTOK_by (l := [loopOf Tryz.f177 2]) (by kernel_rfl) ⟨ls_at (by kernel_rfl) (ok177_2 F hK), trivial⟩, (ev177 F x).trans hF⟩
abbrev R98 : Type := Ress [(.slice 2 i64)]
abbrev G98 : Type := Args [.v poly, .v i64] → Option R98
abbrev kp98 : List (Nat × List Nat) := [(0, [1, 2]), (1, [5, 2]), (2, [5, 2, 6]), (3, [18, 2, 6, 16, 17]), (4, [19, 18, 2, 6, 16, 17]), (5, [7, 8, 18, 2, 6, 16, 17]), (6, [18, 2, 6, 16, 17]), (7, [18, 2, 6, 16, 17]), (8, [4])]
abbrev ct98 (g174 : G174) (g177 : G177) : CTab := [(174, ⟨[.v i64, .v i64], [(.slice 107 ex)], true, false, 0, g174⟩), (177, ⟨[.v poly, .v ex], [i64], false, false, 0, g177⟩)]
abbrev kr98 : Env → Option R98 := endK TT [.tmp 4] [(.slice 2 i64)] true false
abbrev sh98_4 : Shape := [(2, .box false [.fz i64 0 false, .fz i64 0 false, .fz (.slice 135 term) 0 true]), (6, vr 2 i64 97 false), (16, vr 107 ex 257 false), (17, vv i64), (18, vv i64)]
def st98_4 (g174 : G174) (g177 : G177) (F : Nat) (s : ShVal sh98_4) (k kx : ShVal sh98_4 → Option R98) : Option R98 :=
  match s with
  | ((t2_0, t2_1, t2_2, _), (t6, _), (t16, _), (t17, _), (t18, _), _) => (bif decide (t18 < t17) then (bif ib t18 (Int.ofNat (List.length t16)) then (match (g177 ((t2_0, (t2_1, (t2_2, ()))), ((List.getD t16 (tn t18) (Ty.dflt (.arr 3 (.int .u8)))), ()))) with | some r19 => (bif ib t18 (Int.ofNat (List.length t6)) then k ((t2_0, (t2_1, (t2_2, ()))), (((List.set t6 (tn t18) r19.1), ()), ((t16, ()), ((t17, ()), (((w6 (t18 + (1 : Int))), ()), ()))))) else none) | none => none) else none) else kx ((t2_0, (t2_1, (t2_2, ()))), ((t6, ()), ((t16, ()), ((t17, ()), ((t18, ()), ()))))))
def ru98_4 (g174 : G174) (g177 : G177) (F : Nat) (s : ShVal sh98_4) (kx : ShVal sh98_4 → Option R98) : Option R98 := iter (fun s k => st98_4 g174 g177 F s k kx) F s
abbrev ls98_4 (g174 : G174) (g177 : G177) (F : Nat) : LS R98 := ⟨sh98_4, 0, ru98_4 g174 g177 F⟩
def fn98 (g174 : G174) (g177 : G177) (F : Nat) (x : Args [.v poly, .v i64]) : Option R98 :=
  match x with
  | (x0, x1, _) => (match (g174 (x0.2.1, (x1, ()))) with | some r6 => (bif decide ((List.length r6.1) ≤ 9223372036854775807) then (bif ((decide ((0 : Int) ≤ (Int.ofNat (List.length r6.1))) && decide ((Int.ofNat (List.length r6.1)) ≤ (1099511627776 : Int))) && decide ((Int.ofNat (List.length r6.1)) = (Int.ofNat (List.length r6.1)))) then (bif decide ((List.length r6.1) ≤ 9223372036854775807) then (ru98_4 g174 g177 F ((x0.1, (x0.2.1, (x0.2.2.1, ()))), (((List.replicate (tn (Int.ofNat (List.length r6.1))) (0 : Int)), ()), ((r6.1, ()), (((Int.ofNat (List.length r6.1)), ()), (((0 : Int), ()), ()))))) (fun s' => match s' with | ((t2_0, t2_1, t2_2, _), (t6, _), (t16, _), (t17, _), (t18, _), _) => (some (t6, ())))) else none) else none) else none) | none => none)
theorem ev98_4 (g174 : G174) (g177 : G177) (F : Nat) (s : ShVal sh98_4) (k kx : ShVal sh98_4 → Option R98) : evL TT (ct98 g174 g177 ) kp98 [] (loopOf Tryz.f98 4) (envOf sh98_4 s) (fitK sh98_4 k) (fun j e => bif Nat.beq j 0 then fitK sh98_4 kx e else none) kr98 = st98_4 g174 g177 F s k kx := by
  obtain ⟨⟨t2_0, t2_1, t2_2, _⟩, ⟨t6, _⟩, ⟨t16, _⟩, ⟨t17, _⟩, ⟨t18, _⟩, _⟩ := s
  kernel_rfl
theorem ok98_4 (g174 : G174) (g177 : G177) (F : Nat) (hK : KOK Tryz.prog (ct98 g174 g177 )) : LSOK Tryz.prog ⟨31, false, undef⟩ (ls98_4 g174 g177 F) (loopOf Tryz.f98 4) kr98 :=
  loop_ok (st98_4 g174 g177 F) mixed tt_ok hK (by kernel_rfl) (LTOK_by (l := []) (by kernel_rfl) trivial) (ev98_4 g174 g177 F)
theorem ev98 (g174 : G174) (g177 : G177) (F : Nat) (x : Args [.v poly, .v i64]) : fnK TT (ct98 g174 g177 ) kp98 [(.slice 2 i64)] [(4, ls98_4 g174 g177 F)] (bodyOf Tryz.f98) [.tmp 4] [.v poly, .v i64] true false x = fn98 g174 g177 F x := by
  obtain ⟨x0, x1, _⟩ := x
  kernel_rfl
theorem ok98 (g174 : G174) (g177 : G177) (hK : KOK Tryz.prog (ct98 g174 g177 )) (cf : G98) (h : ∀ x y, cf x = some y → ∃ F, fn98 g174 g177 F x = some y) : KOne Tryz.prog 98 ⟨[.v poly, .v i64], [(.slice 2 i64)], true, false, 0, cf⟩ :=
  fn_one rfl (c := bodyOf Tryz.f98) mixed tt_ok hK Tryz.func98 (by kernel_rfl) (by kernel_rfl) (Nat.le_of_ble_eq_true (by kernel_rfl)) (by decide) fun x y hxy => by
    obtain ⟨F, hF⟩ := h x y hxy
    exact ⟨[(4, ls98_4 g174 g177 F)], LTOK_by (l := [loopOf Tryz.f98 4]) (by kernel_rfl) ⟨ls_at (by kernel_rfl) (ok98_4 g174 g177 F hK), trivial⟩, (ev98 g174 g177 F x).trans hF⟩
abbrev R86 : Type := Ress [(.slice 44 (.slice 2 i64))]
abbrev G86 : Type := Args [.v (.slice 34 poly), .v i64] → Option R86
abbrev kp86 : List (Nat × List Nat) := [(0, [1, 0]), (1, [1, 5, 0]), (2, [6, 1, 5, 0]), (3, [15, 6, 1, 5, 0]), (5, [24, 6, 1, 5, 0]), (6, [1, 5, 7, 6, 0]), (7, [8, 1, 5, 7, 6, 0]), (8, [41, 5, 8, 1, 7, 6, 0]), (10, [5, 9, 8, 1, 7, 6, 0]), (11, [8, 1, 5, 7, 6, 0]), (9, [8, 1, 5, 7, 6, 0]), (4, [6, 1, 5, 0]), (12, [4])]
abbrev ct86 (g161 : G161) (g89 : G89) (g121 : G121) (g120 : G120) (g84 : G84) : CTab := [(161, ⟨[.v i64, .v i64], [(.slice 107 ex)], true, false, 0, g161⟩), (89, ⟨[.v poly, .v i64], [(.slice 2 i64)], true, false, 0, g89⟩), (121, ⟨[.v poly, .v poly], [poly, .bool], true, false, 0, g121⟩), (120, ⟨[.v i64, .v i64, .v ex, .v i64], [poly], true, false, 0, g120⟩), (84, ⟨[.v poly], [i64], false, false, 0, g84⟩)]
abbrev kr86 : Env → Option R86 := endK TT [.tmp 4] [(.slice 44 (.slice 2 i64))] true false
abbrev sh86_8 : Shape := [(0, .val false [.fz (.slice 34 poly) 0 true]), (1, vv i64), (5, vr 44 (.slice 2 i64) 81 false), (6, vv i64), (7, vr 107 ex 113 false), (8, vv i64)]
def st86_8 (g161 : G161) (g89 : G89) (g121 : G121) (g120 : G120) (g84 : G84) (F : Nat) (s : ShVal sh86_8) (k kx : ShVal sh86_8 → Option R86) : Option R86 :=
  match s with
  | ((t0, _), (t1, _), (t5, _), (t6, _), (t7, _), (t8, _), _) => (bif decide ((List.length t7) ≤ 9223372036854775807) then (bif decide (t8 < (Int.ofNat (List.length t7))) then (bif ib t6 (Int.ofNat (List.length t0)) then (bif ib t6 (Int.ofNat (List.length t0)) then (bif ib t6 (Int.ofNat (List.length t0)) then (bif ib t8 (Int.ofNat (List.length t7)) then (match (g120 ((List.getD t0 (tn t6) (Ty.dflt (.pair (.int .i64) (.pair (.int .i64) (.pair (.slice 135 (.pair (.arr 3 (.int .u8)) (.pair (.int .i64) .unit))) .unit))))).1, ((List.getD t0 (tn t6) (Ty.dflt (.pair (.int .i64) (.pair (.int .i64) (.pair (.slice 135 (.pair (.arr 3 (.int .u8)) (.pair (.int .i64) .unit))) .unit))))).2.1, ((List.getD t7 (tn t8) (Ty.dflt (.arr 3 (.int .u8)))), ((1 : Int), ()))))) with | some r29 => (match (g121 ((List.getD t0 (tn t6) (Ty.dflt (.pair (.int .i64) (.pair (.int .i64) (.pair (.slice 135 (.pair (.arr 3 (.int .u8)) (.pair (.int .i64) .unit))) .unit))))), ((r29.1.1, (r29.1.2.1, (r29.1.2.2.1, ()))), ()))) with | some r30 => (match (g89 ((r30.1.1, (r30.1.2.1, (r30.1.2.2.1, ()))), (t1, ()))) with | some r32 => (bif (growOk (List.length t5) (List.length (r32.1 :: []))) then k ((t0, ()), ((t1, ()), (((t5 ++ (r32.1 :: [])), ()), ((t6, ()), ((t7, ()), (((w6 (t8 + (1 : Int))), ()), ())))))) else none) | none => none) | none => none) | none => none) else none) else none) else none) else none) else kx ((t0, ()), ((t1, ()), ((t5, ()), ((t6, ()), ((t7, ()), ((t8, ()), ()))))))) else none)
def ru86_8 (g161 : G161) (g89 : G89) (g121 : G121) (g120 : G120) (g84 : G84) (F : Nat) (s : ShVal sh86_8) (kx : ShVal sh86_8 → Option R86) : Option R86 := iter (fun s k => st86_8 g161 g89 g121 g120 g84 F s k kx) F s
abbrev ls86_8 (g161 : G161) (g89 : G89) (g121 : G121) (g120 : G120) (g84 : G84) (F : Nat) : LS R86 := ⟨sh86_8, 2, ru86_8 g161 g89 g121 g120 g84 F⟩
abbrev sh86_3 : Shape := [(0, .val false [.fz (.slice 34 poly) 0 true]), (1, vv i64), (5, vr 44 (.slice 2 i64) 81 false), (6, vv i64)]
def st86_3 (g161 : G161) (g89 : G89) (g121 : G121) (g120 : G120) (g84 : G84) (F : Nat) (s : ShVal sh86_3) (k kx : ShVal sh86_3 → Option R86) : Option R86 :=
  match s with
  | ((t0, _), (t1, _), (t5, _), (t6, _), _) => (bif decide ((List.length t0) ≤ 9223372036854775807) then (bif decide (t6 < (Int.ofNat (List.length t0))) then (bif ib t6 (Int.ofNat (List.length t0)) then (match (g84 ((List.getD t0 (tn t6) (Ty.dflt (.pair (.int .i64) (.pair (.int .i64) (.pair (.slice 135 (.pair (.arr 3 (.int .u8)) (.pair (.int .i64) .unit))) .unit))))), ())) with | some r16 => (bif decide (t1 < r16.1) then k ((t0, ()), ((t1, ()), ((t5, ()), (((w6 (t6 + (1 : Int))), ()), ())))) else (bif ib t6 (Int.ofNat (List.length t0)) then (bif ib t6 (Int.ofNat (List.length t0)) then (match (g84 ((List.getD t0 (tn t6) (Ty.dflt (.pair (.int .i64) (.pair (.int .i64) (.pair (.slice 135 (.pair (.arr 3 (.int .u8)) (.pair (.int .i64) .unit))) .unit))))), ())) with | some r18 => (match (g161 ((List.getD t0 (tn t6) (Ty.dflt (.pair (.int .i64) (.pair (.int .i64) (.pair (.slice 135 (.pair (.arr 3 (.int .u8)) (.pair (.int .i64) .unit))) .unit))))).2.1, ((w6 (t1 - r18.1)), ()))) with | some r19 => (ru86_8 g161 g89 g121 g120 g84 F ((t0, ()), ((t1, ()), ((t5, ()), ((t6, ()), ((r19.1, ()), (((0 : Int), ()), ())))))) (fun s' => match s' with | ((t0, _), (t1, _), (t5, _), (t6, _), (t7, _), (t8, _), _) => k ((t0, ()), ((t1, ()), ((t5, ()), (((w6 (t6 + (1 : Int))), ()), ())))))) | none => none) | none => none) else none) else none)) | none => none) else none) else kx ((t0, ()), ((t1, ()), ((t5, ()), ((t6, ()), ()))))) else none)
def ru86_3 (g161 : G161) (g89 : G89) (g121 : G121) (g120 : G120) (g84 : G84) (F : Nat) (s : ShVal sh86_3) (kx : ShVal sh86_3 → Option R86) : Option R86 := iter (fun s k => st86_3 g161 g89 g121 g120 g84 F s k kx) F s
abbrev ls86_3 (g161 : G161) (g89 : G89) (g121 : G121) (g120 : G120) (g84 : G84) (F : Nat) : LS R86 := ⟨sh86_3, 0, ru86_3 g161 g89 g121 g120 g84 F⟩
def fn86 (g161 : G161) (g89 : G89) (g121 : G121) (g120 : G120) (g84 : G84) (F : Nat) (x : Args [.v (.slice 34 poly), .v i64]) : Option R86 :=
  match x with
  | (x0, x1, _) => (ru86_3 g161 g89 g121 g120 g84 F ((x0, ()), ((x1, ()), (([], ()), (((0 : Int), ()), ())))) (fun s' => match s' with | ((t0, _), (t1, _), (t5, _), (t6, _), _) => (some (t5, ()))))
theorem ev86_8 (g161 : G161) (g89 : G89) (g121 : G121) (g120 : G120) (g84 : G84) (F : Nat) (s : ShVal sh86_8) (k kx : ShVal sh86_8 → Option R86) : evL TT (ct86 g161 g89 g121 g120 g84 ) kp86 [] (loopOf Tryz.f86 8) (envOf sh86_8 s) (fitK sh86_8 k) (fun j e => bif Nat.beq j 2 then fitK sh86_8 kx e else none) kr86 = st86_8 g161 g89 g121 g120 g84 F s k kx := by
  obtain ⟨⟨t0, _⟩, ⟨t1, _⟩, ⟨t5, _⟩, ⟨t6, _⟩, ⟨t7, _⟩, ⟨t8, _⟩, _⟩ := s
  kernel_rfl
theorem ok86_8 (g161 : G161) (g89 : G89) (g121 : G121) (g120 : G120) (g84 : G84) (F : Nat) (hK : KOK Tryz.prog (ct86 g161 g89 g121 g120 g84 )) : LSOK Tryz.prog ⟨74, false, undef⟩ (ls86_8 g161 g89 g121 g120 g84 F) (loopOf Tryz.f86 8) kr86 :=
  loop_ok (st86_8 g161 g89 g121 g120 g84 F) mixed tt_ok hK (by kernel_rfl) (LTOK_by (l := []) (by kernel_rfl) trivial) (ev86_8 g161 g89 g121 g120 g84 F)
theorem ev86_3 (g161 : G161) (g89 : G89) (g121 : G121) (g120 : G120) (g84 : G84) (F : Nat) (s : ShVal sh86_3) (k kx : ShVal sh86_3 → Option R86) : evL TT (ct86 g161 g89 g121 g120 g84 ) kp86 [(8, ls86_8 g161 g89 g121 g120 g84 F)] (loopOf Tryz.f86 3) (envOf sh86_3 s) (fitK sh86_3 k) (fun j e => bif Nat.beq j 0 then fitK sh86_3 kx e else none) kr86 = st86_3 g161 g89 g121 g120 g84 F s k kx := by
  obtain ⟨⟨t0, _⟩, ⟨t1, _⟩, ⟨t5, _⟩, ⟨t6, _⟩, _⟩ := s
  kernel_rfl
theorem ok86_3 (g161 : G161) (g89 : G89) (g121 : G121) (g120 : G120) (g84 : G84) (F : Nat) (hK : KOK Tryz.prog (ct86 g161 g89 g121 g120 g84 )) : LSOK Tryz.prog ⟨74, false, undef⟩ (ls86_3 g161 g89 g121 g120 g84 F) (loopOf Tryz.f86 3) kr86 :=
  loop_ok (st86_3 g161 g89 g121 g120 g84 F) mixed tt_ok hK (by kernel_rfl) (LTOK_by (l := [loopOf Tryz.f86 8]) (by kernel_rfl) ⟨ls_at (by kernel_rfl) (ok86_8 g161 g89 g121 g120 g84 F hK), trivial⟩) (ev86_3 g161 g89 g121 g120 g84 F)
theorem ev86 (g161 : G161) (g89 : G89) (g121 : G121) (g120 : G120) (g84 : G84) (F : Nat) (x : Args [.v (.slice 34 poly), .v i64]) : fnK TT (ct86 g161 g89 g121 g120 g84 ) kp86 [(.slice 44 (.slice 2 i64))] [(3, ls86_3 g161 g89 g121 g120 g84 F)] (bodyOf Tryz.f86) [.tmp 4] [.v (.slice 34 poly), .v i64] true false x = fn86 g161 g89 g121 g120 g84 F x := by
  obtain ⟨x0, x1, _⟩ := x
  kernel_rfl
theorem ok86 (g161 : G161) (g89 : G89) (g121 : G121) (g120 : G120) (g84 : G84) (hK : KOK Tryz.prog (ct86 g161 g89 g121 g120 g84 )) (cf : G86) (h : ∀ x y, cf x = some y → ∃ F, fn86 g161 g89 g121 g120 g84 F x = some y) : KOne Tryz.prog 86 ⟨[.v (.slice 34 poly), .v i64], [(.slice 44 (.slice 2 i64))], true, false, 0, cf⟩ :=
  fn_one rfl (c := bodyOf Tryz.f86) mixed tt_ok hK Tryz.func86 (by kernel_rfl) (by kernel_rfl) (Nat.le_of_ble_eq_true (by kernel_rfl)) (by decide) fun x y hxy => by
    obtain ⟨F, hF⟩ := h x y hxy
    exact ⟨[(3, ls86_3 g161 g89 g121 g120 g84 F)], LTOK_by (l := [loopOf Tryz.f86 3]) (by kernel_rfl) ⟨ls_at (by kernel_rfl) (ok86_3 g161 g89 g121 g120 g84 F hK), trivial⟩, (ev86 g161 g89 g121 g120 g84 F x).trans hF⟩
abbrev R97 : Type := Ress [(.slice 44 (.slice 2 i64))]
abbrev G97 : Type := Args [.v (.slice 34 poly), .v i64] → Option R97
abbrev kp97 : List (Nat × List Nat) := [(0, [1, 0]), (1, [1, 5, 0]), (2, [13, 1, 5, 11, 0, 12]), (3, [14, 13, 1, 5, 11, 0, 12]), (4, [7, 13, 1, 5, 11, 0, 12]), (5, [20, 7, 13, 1, 5, 11, 0, 12]), (6, [29, 1, 7, 5, 27, 13, 11, 0, 12, 28]), (7, [30, 5, 29, 1, 7, 27, 13, 11, 0, 12, 28]), (8, [5, 9, 29, 1, 7, 27, 13, 11, 0, 12, 28]), (9, [29, 1, 7, 5, 27, 13, 11, 0, 12, 28]), (10, [29, 1, 7, 5, 27, 13, 11, 0, 12, 28]), (11, [13, 1, 5, 11, 0, 12]), (12, [50, 5, 0]), (13, [4]), (14, [4])]
abbrev ct97 (g176 : G176) (g174 : G174) (g175 : G175) (g127 : G127) (g98 : G98) (g95 : G95) : CTab := [(176, ⟨[.v i64, .v (.slice 44 (.slice 2 i64))], [(.slice 44 (.slice 2 i64))], true, false, 0, g176⟩), (174, ⟨[.v i64, .v i64], [(.slice 107 ex)], true, false, 0, g174⟩), (175, ⟨[.v i64, .v i64, .v ex, .v i64], [poly], true, false, 0, g175⟩), (127, ⟨[.v poly, .v poly], [poly], true, false, 0, g127⟩), (98, ⟨[.v poly, .v i64], [(.slice 2 i64)], true, false, 0, g98⟩), (95, ⟨[.v poly], [i64], false, false, 0, g95⟩)]
abbrev kr97 : Env → Option R97 := endK TT [.tmp 4] [(.slice 44 (.slice 2 i64))] true false
abbrev sh97_7 : Shape := [(0, .val false [.fz (.slice 34 poly) 0 true]), (1, vv i64), (5, vr 44 (.slice 2 i64) 81 false), (7, .box false [.fz i64 0 false, .fz i64 0 false, .fz (.slice 135 term) 0 true]), (11, .val false [.fz (.slice 34 poly) 0 true]), (12, vv i64), (13, vv i64), (27, vr 107 ex 433 false), (28, vv i64), (29, vv i64)]
def st97_7 (g176 : G176) (g174 : G174) (g175 : G175) (g127 : G127) (g98 : G98) (g95 : G95) (F : Nat) (s : ShVal sh97_7) (k kx : ShVal sh97_7 → Option R97) : Option R97 :=
  match s with
  | ((t0, _), (t1, _), (t5, _), (t7_0, t7_1, t7_2, _), (t11, _), (t12, _), (t13, _), (t27, _), (t28, _), (t29, _), _) => (bif decide (t29 < t28) then (bif ib t29 (Int.ofNat (List.length t27)) then (match (g175 (t7_0, (t7_1, ((List.getD t27 (tn t29) (Ty.dflt (.arr 3 (.int .u8)))), ((1 : Int), ()))))) with | some r39 => (match (g127 ((t7_0, (t7_1, (t7_2, ()))), ((r39.1.1, (r39.1.2.1, (r39.1.2.2.1, ()))), ()))) with | some r40 => (match (g98 ((r40.1.1, (r40.1.2.1, (r40.1.2.2.1, ()))), (t1, ()))) with | some r41 => (bif (growOk (List.length t5) (List.length (r41.1 :: []))) then k ((t0, ()), ((t1, ()), (((t5 ++ (r41.1 :: [])), ()), ((t7_0, (t7_1, (t7_2, ()))), ((t11, ()), ((t12, ()), ((t13, ()), ((t27, ()), ((t28, ()), (((w6 (t29 + (1 : Int))), ()), ())))))))))) else none) | none => none) | none => none) | none => none) else none) else kx ((t0, ()), ((t1, ()), ((t5, ()), ((t7_0, (t7_1, (t7_2, ()))), ((t11, ()), ((t12, ()), ((t13, ()), ((t27, ()), ((t28, ()), ((t29, ()), ())))))))))))
def ru97_7 (g176 : G176) (g174 : G174) (g175 : G175) (g127 : G127) (g98 : G98) (g95 : G95) (F : Nat) (s : ShVal sh97_7) (kx : ShVal sh97_7 → Option R97) : Option R97 := iter (fun s k => st97_7 g176 g174 g175 g127 g98 g95 F s k kx) F s
abbrev ls97_7 (g176 : G176) (g174 : G174) (g175 : G175) (g127 : G127) (g98 : G98) (g95 : G95) (F : Nat) : LS R97 := ⟨sh97_7, 2, ru97_7 g176 g174 g175 g127 g98 g95 F⟩
abbrev sh97_3 : Shape := [(0, .val false [.fz (.slice 34 poly) 0 true]), (1, vv i64), (5, vr 44 (.slice 2 i64) 81 false), (11, .val false [.fz (.slice 34 poly) 0 true]), (12, vv i64), (13, vv i64)]
def st97_3 (g176 : G176) (g174 : G174) (g175 : G175) (g127 : G127) (g98 : G98) (g95 : G95) (F : Nat) (s : ShVal sh97_3) (k kx : ShVal sh97_3 → Option R97) : Option R97 :=
  match s with
  | ((t0, _), (t1, _), (t5, _), (t11, _), (t12, _), (t13, _), _) => (bif decide (t13 < t12) then (bif ib t13 (Int.ofNat (List.length t11)) then (match (g95 (((List.getD t11 (tn t13) (Ty.dflt (.pair (.int .i64) (.pair (.int .i64) (.pair (.slice 135 (.pair (.arr 3 (.int .u8)) (.pair (.int .i64) .unit))) .unit))))).1, ((List.getD t11 (tn t13) (Ty.dflt (.pair (.int .i64) (.pair (.int .i64) (.pair (.slice 135 (.pair (.arr 3 (.int .u8)) (.pair (.int .i64) .unit))) .unit))))).2.1, ((List.getD t11 (tn t13) (Ty.dflt (.pair (.int .i64) (.pair (.int .i64) (.pair (.slice 135 (.pair (.arr 3 (.int .u8)) (.pair (.int .i64) .unit))) .unit))))).2.2.1, ()))), ())) with | some r20 => (bif decide (t1 < r20.1) then k ((t0, ()), ((t1, ()), ((t5, ()), ((t11, ()), ((t12, ()), (((w6 (t13 + (1 : Int))), ()), ())))))) else (match (g95 (((List.getD t11 (tn t13) (Ty.dflt (.pair (.int .i64) (.pair (.int .i64) (.pair (.slice 135 (.pair (.arr 3 (.int .u8)) (.pair (.int .i64) .unit))) .unit))))).1, ((List.getD t11 (tn t13) (Ty.dflt (.pair (.int .i64) (.pair (.int .i64) (.pair (.slice 135 (.pair (.arr 3 (.int .u8)) (.pair (.int .i64) .unit))) .unit))))).2.1, ((List.getD t11 (tn t13) (Ty.dflt (.pair (.int .i64) (.pair (.int .i64) (.pair (.slice 135 (.pair (.arr 3 (.int .u8)) (.pair (.int .i64) .unit))) .unit))))).2.2.1, ()))), ())) with | some r22 => (match (g174 ((List.getD t11 (tn t13) (Ty.dflt (.pair (.int .i64) (.pair (.int .i64) (.pair (.slice 135 (.pair (.arr 3 (.int .u8)) (.pair (.int .i64) .unit))) .unit))))).2.1, ((w6 (t1 - r22.1)), ()))) with | some r23 => (bif decide ((List.length r23.1) ≤ 9223372036854775807) then (ru97_7 g176 g174 g175 g127 g98 g95 F ((t0, ()), ((t1, ()), ((t5, ()), (((List.getD t11 (tn t13) (Ty.dflt (.pair (.int .i64) (.pair (.int .i64) (.pair (.slice 135 (.pair (.arr 3 (.int .u8)) (.pair (.int .i64) .unit))) .unit))))).1, ((List.getD t11 (tn t13) (Ty.dflt (.pair (.int .i64) (.pair (.int .i64) (.pair (.slice 135 (.pair (.arr 3 (.int .u8)) (.pair (.int .i64) .unit))) .unit))))).2.1, ((List.getD t11 (tn t13) (Ty.dflt (.pair (.int .i64) (.pair (.int .i64) (.pair (.slice 135 (.pair (.arr 3 (.int .u8)) (.pair (.int .i64) .unit))) .unit))))).2.2.1, ()))), ((t11, ()), ((t12, ()), ((t13, ()), ((r23.1, ()), (((Int.ofNat (List.length r23.1)), ()), (((0 : Int), ()), ())))))))))) (fun s' => match s' with | ((t0, _), (t1, _), (t5, _), (t7_0, t7_1, t7_2, _), (t11, _), (t12, _), (t13, _), (t27, _), (t28, _), (t29, _), _) => k ((t0, ()), ((t1, ()), ((t5, ()), ((t11, ()), ((t12, ()), (((w6 (t13 + (1 : Int))), ()), ())))))))) else none) | none => none) | none => none)) | none => none) else none) else kx ((t0, ()), ((t1, ()), ((t5, ()), ((t11, ()), ((t12, ()), ((t13, ()), ())))))))
def ru97_3 (g176 : G176) (g174 : G174) (g175 : G175) (g127 : G127) (g98 : G98) (g95 : G95) (F : Nat) (s : ShVal sh97_3) (kx : ShVal sh97_3 → Option R97) : Option R97 := iter (fun s k => st97_3 g176 g174 g175 g127 g98 g95 F s k kx) F s
abbrev ls97_3 (g176 : G176) (g174 : G174) (g175 : G175) (g127 : G127) (g98 : G98) (g95 : G95) (F : Nat) : LS R97 := ⟨sh97_3, 0, ru97_3 g176 g174 g175 g127 g98 g95 F⟩
def fn97 (g176 : G176) (g174 : G174) (g175 : G175) (g127 : G127) (g98 : G98) (g95 : G95) (F : Nat) (x : Args [.v (.slice 34 poly), .v i64]) : Option R97 :=
  match x with
  | (x0, x1, _) => (bif decide ((List.length x0) ≤ 9223372036854775807) then (ru97_3 g176 g174 g175 g127 g98 g95 F ((x0, ()), ((x1, ()), (([], ()), ((x0, ()), (((Int.ofNat (List.length x0)), ()), (((0 : Int), ()), ())))))) (fun s' => match s' with | ((t0, _), (t1, _), (t5, _), (t11, _), (t12, _), (t13, _), _) => (bif decide ((List.length t5) ≤ 9223372036854775807) then (bif decide ((Int.ofNat (List.length t5)) = (0 : Int)) then (some ([], ())) else (bif ib (0 : Int) (Int.ofNat (List.length t0)) then (match (g176 ((List.getD t0 (tn (0 : Int)) (Ty.dflt (.pair (.int .i64) (.pair (.int .i64) (.pair (.slice 135 (.pair (.arr 3 (.int .u8)) (.pair (.int .i64) .unit))) .unit))))).1, (t5, ()))) with | some r19 => (some (r19.1, ())) | none => none) else none)) else none))) else none)
theorem ev97_7 (g176 : G176) (g174 : G174) (g175 : G175) (g127 : G127) (g98 : G98) (g95 : G95) (F : Nat) (s : ShVal sh97_7) (k kx : ShVal sh97_7 → Option R97) : evL TT (ct97 g176 g174 g175 g127 g98 g95 ) kp97 [] (loopOf Tryz.f97 7) (envOf sh97_7 s) (fitK sh97_7 k) (fun j e => bif Nat.beq j 2 then fitK sh97_7 kx e else none) kr97 = st97_7 g176 g174 g175 g127 g98 g95 F s k kx := by
  obtain ⟨⟨t0, _⟩, ⟨t1, _⟩, ⟨t5, _⟩, ⟨t7_0, t7_1, t7_2, _⟩, ⟨t11, _⟩, ⟨t12, _⟩, ⟨t13, _⟩, ⟨t27, _⟩, ⟨t28, _⟩, ⟨t29, _⟩, _⟩ := s
  kernel_rfl
theorem ok97_7 (g176 : G176) (g174 : G174) (g175 : G175) (g127 : G127) (g98 : G98) (g95 : G95) (F : Nat) (hK : KOK Tryz.prog (ct97 g176 g174 g175 g127 g98 g95 )) : LSOK Tryz.prog ⟨57, false, undef⟩ (ls97_7 g176 g174 g175 g127 g98 g95 F) (loopOf Tryz.f97 7) kr97 :=
  loop_ok (st97_7 g176 g174 g175 g127 g98 g95 F) mixed tt_ok hK (by kernel_rfl) (LTOK_by (l := []) (by kernel_rfl) trivial) (ev97_7 g176 g174 g175 g127 g98 g95 F)
theorem ev97_3 (g176 : G176) (g174 : G174) (g175 : G175) (g127 : G127) (g98 : G98) (g95 : G95) (F : Nat) (s : ShVal sh97_3) (k kx : ShVal sh97_3 → Option R97) : evL TT (ct97 g176 g174 g175 g127 g98 g95 ) kp97 [(7, ls97_7 g176 g174 g175 g127 g98 g95 F)] (loopOf Tryz.f97 3) (envOf sh97_3 s) (fitK sh97_3 k) (fun j e => bif Nat.beq j 0 then fitK sh97_3 kx e else none) kr97 = st97_3 g176 g174 g175 g127 g98 g95 F s k kx := by
  obtain ⟨⟨t0, _⟩, ⟨t1, _⟩, ⟨t5, _⟩, ⟨t11, _⟩, ⟨t12, _⟩, ⟨t13, _⟩, _⟩ := s
  kernel_rfl
theorem ok97_3 (g176 : G176) (g174 : G174) (g175 : G175) (g127 : G127) (g98 : G98) (g95 : G95) (F : Nat) (hK : KOK Tryz.prog (ct97 g176 g174 g175 g127 g98 g95 )) : LSOK Tryz.prog ⟨57, false, undef⟩ (ls97_3 g176 g174 g175 g127 g98 g95 F) (loopOf Tryz.f97 3) kr97 :=
  loop_ok (st97_3 g176 g174 g175 g127 g98 g95 F) mixed tt_ok hK (by kernel_rfl) (LTOK_by (l := [loopOf Tryz.f97 7]) (by kernel_rfl) ⟨ls_at (by kernel_rfl) (ok97_7 g176 g174 g175 g127 g98 g95 F hK), trivial⟩) (ev97_3 g176 g174 g175 g127 g98 g95 F)
theorem ev97 (g176 : G176) (g174 : G174) (g175 : G175) (g127 : G127) (g98 : G98) (g95 : G95) (F : Nat) (x : Args [.v (.slice 34 poly), .v i64]) : fnK TT (ct97 g176 g174 g175 g127 g98 g95 ) kp97 [(.slice 44 (.slice 2 i64))] [(3, ls97_3 g176 g174 g175 g127 g98 g95 F)] (bodyOf Tryz.f97) [.tmp 4] [.v (.slice 34 poly), .v i64] true false x = fn97 g176 g174 g175 g127 g98 g95 F x := by
  obtain ⟨x0, x1, _⟩ := x
  kernel_rfl
theorem ok97 (g176 : G176) (g174 : G174) (g175 : G175) (g127 : G127) (g98 : G98) (g95 : G95) (hK : KOK Tryz.prog (ct97 g176 g174 g175 g127 g98 g95 )) (cf : G97) (h : ∀ x y, cf x = some y → ∃ F, fn97 g176 g174 g175 g127 g98 g95 F x = some y) : KOne Tryz.prog 97 ⟨[.v (.slice 34 poly), .v i64], [(.slice 44 (.slice 2 i64))], true, false, 0, cf⟩ :=
  fn_one rfl (c := bodyOf Tryz.f97) mixed tt_ok hK Tryz.func97 (by kernel_rfl) (by kernel_rfl) (Nat.le_of_ble_eq_true (by kernel_rfl)) (by decide) fun x y hxy => by
    obtain ⟨F, hF⟩ := h x y hxy
    exact ⟨[(3, ls97_3 g176 g174 g175 g127 g98 g95 F)], LTOK_by (l := [loopOf Tryz.f97 3]) (by kernel_rfl) ⟨ls_at (by kernel_rfl) (ok97_3 g176 g174 g175 g127 g98 g95 F hK), trivial⟩, (ev97 g176 g174 g175 g127 g98 g95 F x).trans hF⟩
abbrev R96 : Type := Ress [.bool]
abbrev G96 : Type := Args [.v i64, .v (.slice 44 (.slice 2 i64)), .v (.slice 2 i64)] → Option R96
abbrev kp96 : List (Nat × List Nat) := [(0, [0, 1, 2]), (1, [6])]
abbrev ct96 (g173 : G173) (g172 : G172) : CTab := [(173, ⟨[.v i64, .v (.slice 44 (.slice 2 i64)), .v (.slice 2 i64)], [(.slice 2 i64)], true, false, 0, g173⟩), (172, ⟨[.v (.slice 2 i64)], [i64], false, false, 0, g172⟩)]
def fn96 (g173 : G173) (g172 : G172) (F : Nat) (x : Args [.v i64, .v (.slice 44 (.slice 2 i64)), .v (.slice 2 i64)]) : Option R96 :=
  match x with
  | (x0, x1, x2, _) => (match (g173 (x0, (x1, (x2, ())))) with | some r7 => (match (g172 (r7.1, ())) with | some r8 => (some (decide (r8.1 < (0 : Int)), ())) | none => none) | none => none)
theorem ev96 (g173 : G173) (g172 : G172) (F : Nat) (x : Args [.v i64, .v (.slice 44 (.slice 2 i64)), .v (.slice 2 i64)]) : fnK TT (ct96 g173 g172 ) kp96 [.bool] [] (bodyOf Tryz.f96) [.tmp 6] [.v i64, .v (.slice 44 (.slice 2 i64)), .v (.slice 2 i64)] false false x = fn96 g173 g172 F x := by
  obtain ⟨x0, x1, x2, _⟩ := x
  kernel_rfl
theorem ok96 (g173 : G173) (g172 : G172) (hK : KOK Tryz.prog (ct96 g173 g172 )) (cf : G96) (h : ∀ x y, cf x = some y → ∃ F, fn96 g173 g172 F x = some y) : KOne Tryz.prog 96 ⟨[.v i64, .v (.slice 44 (.slice 2 i64)), .v (.slice 2 i64)], [.bool], false, false, 0, cf⟩ :=
  fn_one rfl (c := bodyOf Tryz.f96) mixed tt_ok hK Tryz.func96 (by kernel_rfl) (by kernel_rfl) (Nat.le_of_ble_eq_true (by kernel_rfl)) (by decide) fun x y hxy => by
    obtain ⟨F, hF⟩ := h x y hxy
    exact ⟨[], LTOK_by (l := []) (by kernel_rfl) trivial, (ev96 g173 g172 F x).trans hF⟩
abbrev R25 : Type := Ress [.bool, i64]
abbrev G25 : Type := Args [.v (.slice 34 poly), .v poly] → Option R25
abbrev kp25 : List (Nat × List Nat) := [(0, [0, 3]), (1, [11, 0, 3]), (2, [5, 4]), (3, [3, 0, 6]), (4, [15, 3, 0, 6]), (5, [5, 4]), (6, [37, 0, 3]), (7, [5, 4]), (8, [7, 3, 0]), (9, [41, 7, 3, 0]), (10, [5, 4]), (11, [8, 3, 7]), (12, [5, 4])]
abbrev ct25 (g81 : G81) (g83 : G83) (g89 : G89) (g88 : G88) (g87 : G87) (g85 : G85) (g86 : G86) (g84 : G84) (g82 : G82) : CTab := [(81, ⟨[.v poly], [.bool], false, false, 0, g81⟩), (83, ⟨[.v poly], [.bool], false, false, 0, g83⟩), (89, ⟨[.v poly, .v i64], [(.slice 2 i64)], true, false, 0, g89⟩), (88, ⟨[.v i64, .v (.slice 44 (.slice 2 i64)), .v (.slice 2 i64)], [(.slice 2 i64)], true, false, 0, g88⟩), (87, ⟨[.v (.slice 2 i64)], [i64], false, false, 0, g87⟩), (85, ⟨[.v i64, .v (.slice 44 (.slice 2 i64))], [(.slice 44 (.slice 2 i64))], false, false, 0, g85⟩), (86, ⟨[.v (.slice 34 poly), .v i64], [(.slice 44 (.slice 2 i64))], true, false, 0, g86⟩), (84, ⟨[.v poly], [i64], false, false, 0, g84⟩), (82, ⟨[.v (.slice 34 poly), .v i64], [i64], false, false, 0, g82⟩)]
def fn25 (g81 : G81) (g83 : G83) (g89 : G89) (g88 : G88) (g87 : G87) (g85 : G85) (g86 : G86) (g84 : G84) (g82 : G82) (F : Nat) (x : Args [.v (.slice 34 poly), .v poly]) : Option R25 :=
  match x with
  | (x0, x1, _) => (match (g81 ((x1.1, (x1.2.1, (x1.2.2.1, ()))), ())) with | some r13 => (bif (!r13.1) then (some (false, ((1 : Int), ()))) else (match (g82 (x0, ((0 : Int), ()))) with | some r15 => (bif (!decide (r15.1 = (0 : Int))) then (some (false, (r15.1, ()))) else (bif ib (0 : Int) (Int.ofNat (List.length x0)) then (bif (!decide (x1.1 = (List.getD x0 (tn (0 : Int)) (Ty.dflt (.pair (.int .i64) (.pair (.int .i64) (.pair (.slice 135 (.pair (.arr 3 (.int .u8)) (.pair (.int .i64) .unit))) .unit))))).1)) then (some (false, ((2 : Int), ()))) else (bif ib (0 : Int) (Int.ofNat (List.length x0)) then (bif (bif false then true else (!decide (x1.2.1 = (List.getD x0 (tn (0 : Int)) (Ty.dflt (.pair (.int .i64) (.pair (.int .i64) (.pair (.slice 135 (.pair (.arr 3 (.int .u8)) (.pair (.int .i64) .unit))) .unit))))).2.1))) then (some (false, ((2 : Int), ()))) else (match (g83 ((x1.1, (x1.2.1, (x1.2.2.1, ()))), ())) with | some r18 => (bif (bif false then true else (!r18.1)) then (some (false, ((2 : Int), ()))) else (match (g84 ((x1.1, (x1.2.1, (x1.2.2.1, ()))), ())) with | some r20 => (bif decide (r20.1 < (0 : Int)) then (some (true, ((0 : Int), ()))) else (match (g86 (x0, (r20.1, ()))) with | some r23 => (match (g85 (x1.1, (r23.1, ()))) with | some r24 => (match (g89 ((x1.1, (x1.2.1, (x1.2.2.1, ()))), (r20.1, ()))) with | some r26 => (match (g88 (x1.1, (r24.1, (r26.1, ())))) with | some r27 => (match (g87 (r27.1, ())) with | some r28 => (some (decide (r28.1 < (0 : Int)), ((0 : Int), ()))) | none => none) | none => none) | none => none) | none => none) | none => none)) | none => none)) | none => none)) else none)) else none)) | none => none)) | none => none)
theorem ev25 (g81 : G81) (g83 : G83) (g89 : G89) (g88 : G88) (g87 : G87) (g85 : G85) (g86 : G86) (g84 : G84) (g82 : G82) (F : Nat) (x : Args [.v (.slice 34 poly), .v poly]) : fnK TT (ct25 g81 g83 g89 g88 g87 g85 g86 g84 g82 ) kp25 [.bool, i64] [] (bodyOf Tryz.f25) [.tmp 4, .tmp 5] [.v (.slice 34 poly), .v poly] false false x = fn25 g81 g83 g89 g88 g87 g85 g86 g84 g82 F x := by
  obtain ⟨x0, x1, _⟩ := x
  kernel_rfl
theorem ok25 (g81 : G81) (g83 : G83) (g89 : G89) (g88 : G88) (g87 : G87) (g85 : G85) (g86 : G86) (g84 : G84) (g82 : G82) (hK : KOK Tryz.prog (ct25 g81 g83 g89 g88 g87 g85 g86 g84 g82 )) (cf : G25) (h : ∀ x y, cf x = some y → ∃ F, fn25 g81 g83 g89 g88 g87 g85 g86 g84 g82 F x = some y) : KOne Tryz.prog 25 ⟨[.v (.slice 34 poly), .v poly], [.bool, i64], false, false, 0, cf⟩ :=
  fn_one rfl (c := bodyOf Tryz.f25) mixed tt_ok hK Tryz.func25 (by kernel_rfl) (by kernel_rfl) (Nat.le_of_ble_eq_true (by kernel_rfl)) (by decide) fun x y hxy => by
    obtain ⟨F, hF⟩ := h x y hxy
    exact ⟨[], LTOK_by (l := []) (by kernel_rfl) trivial, (ev25 g81 g83 g89 g88 g87 g85 g86 g84 g82 F x).trans hF⟩
abbrev R28 : Type := Ress [.bool, i64]
abbrev G28 : Type := Args [.v (.slice 34 poly), .v poly] → Option R28
abbrev kp28 : List (Nat × List Nat) := [(0, [3, 0]), (1, [10, 3, 0]), (2, [5, 4]), (3, [0, 3, 6]), (4, [14, 0, 3, 6]), (5, [5, 4]), (6, [26, 3, 0]), (7, [5, 4]), (8, [0, 3, 7]), (9, [5, 4])]
abbrev ct28 (g91 : G91) (g93 : G93) (g94 : G94) (g97 : G97) (g98 : G98) (g96 : G96) (g95 : G95) (g92 : G92) : CTab := [(91, ⟨[.v poly], [.bool], false, false, 0, g91⟩), (93, ⟨[.v poly], [.bool], false, false, 0, g93⟩), (94, ⟨[.v poly, .v poly], [.bool], false, false, 0, g94⟩), (97, ⟨[.v (.slice 34 poly), .v i64], [(.slice 44 (.slice 2 i64))], true, false, 0, g97⟩), (98, ⟨[.v poly, .v i64], [(.slice 2 i64)], true, false, 0, g98⟩), (96, ⟨[.v i64, .v (.slice 44 (.slice 2 i64)), .v (.slice 2 i64)], [.bool], false, false, 0, g96⟩), (95, ⟨[.v poly], [i64], false, false, 0, g95⟩), (92, ⟨[.v (.slice 34 poly)], [i64], false, false, 0, g92⟩)]
def fn28 (g91 : G91) (g93 : G93) (g94 : G94) (g97 : G97) (g98 : G98) (g96 : G96) (g95 : G95) (g92 : G92) (F : Nat) (x : Args [.v (.slice 34 poly), .v poly]) : Option R28 :=
  match x with
  | (x0, x1, _) => (match (g91 ((x1.1, (x1.2.1, (x1.2.2.1, ()))), ())) with | some r12 => (bif (!r12.1) then (some (false, ((1 : Int), ()))) else (match (g92 (x0, ())) with | some r14 => (bif (!decide (r14.1 = (0 : Int))) then (some (false, (r14.1, ()))) else (match (g93 ((x1.1, (x1.2.1, (x1.2.2.1, ()))), ())) with | some r17 => (bif (!r17.1) then (some (false, ((2 : Int), ()))) else (bif ib (0 : Int) (Int.ofNat (List.length x0)) then (match (g94 ((x1.1, (x1.2.1, (x1.2.2.1, ()))), ((List.getD x0 (tn (0 : Int)) (Ty.dflt (.pair (.int .i64) (.pair (.int .i64) (.pair (.slice 135 (.pair (.arr 3 (.int .u8)) (.pair (.int .i64) .unit))) .unit))))), ()))) with | some r18 => (bif (bif false then true else (!r18.1)) then (some (false, ((2 : Int), ()))) else (match (g95 ((x1.1, (x1.2.1, (x1.2.2.1, ()))), ())) with | some r20 => (bif decide (r20.1 < (0 : Int)) then (some (true, ((0 : Int), ()))) else (match (g97 (x0, (r20.1, ()))) with | some r22 => (match (g98 ((x1.1, (x1.2.1, (x1.2.2.1, ()))), (r20.1, ()))) with | some r23 => (match (g96 (x1.1, (r22.1, (r23.1, ())))) with | some r24 => (some ((bif false then true else r24.1), ((0 : Int), ()))) | none => none) | none => none) | none => none)) | none => none)) | none => none) else none)) | none => none)) | none => none)) | none => none)
theorem ev28 (g91 : G91) (g93 : G93) (g94 : G94) (g97 : G97) (g98 : G98) (g96 : G96) (g95 : G95) (g92 : G92) (F : Nat) (x : Args [.v (.slice 34 poly), .v poly]) : fnK TT (ct28 g91 g93 g94 g97 g98 g96 g95 g92 ) kp28 [.bool, i64] [] (bodyOf Tryz.f28) [.tmp 4, .tmp 5] [.v (.slice 34 poly), .v poly] false false x = fn28 g91 g93 g94 g97 g98 g96 g95 g92 F x := by
  obtain ⟨x0, x1, _⟩ := x
  kernel_rfl
theorem ok28 (g91 : G91) (g93 : G93) (g94 : G94) (g97 : G97) (g98 : G98) (g96 : G96) (g95 : G95) (g92 : G92) (hK : KOK Tryz.prog (ct28 g91 g93 g94 g97 g98 g96 g95 g92 )) (cf : G28) (h : ∀ x y, cf x = some y → ∃ F, fn28 g91 g93 g94 g97 g98 g96 g95 g92 F x = some y) : KOne Tryz.prog 28 ⟨[.v (.slice 34 poly), .v poly], [.bool, i64], false, false, 0, cf⟩ :=
  fn_one rfl (c := bodyOf Tryz.f28) mixed tt_ok hK Tryz.func28 (by kernel_rfl) (by kernel_rfl) (Nat.le_of_ble_eq_true (by kernel_rfl)) (by decide) fun x y hxy => by
    obtain ⟨F, hF⟩ := h x y hxy
    exact ⟨[], LTOK_by (l := []) (by kernel_rfl) trivial, (ev28 g91 g93 g94 g97 g98 g96 g95 g92 F x).trans hF⟩
noncomputable def mons (d n : Int) : List ex.den := match cf88 (d, n, ()) with | some x => x.1 | none => []
theorem mons_is {d n : Int} (hd : 1 ≤ d ∧ d ≤ 3) (hn : 0 ≤ n ∧ n ≤ 12) : cf88 (d, n, ()) = some (mons d n, ()) ∧ cf84 (d, n, ()) = some (mons d n, ()) ∧ (mons d n).Pairwise (fun a b => keyX a < keyX b) ∧ (∀ e ∈ mons d n, okX e) ∧ (mons d n).length ≤ 100 := by
  obtain ⟨m, h1, h2, h3, h4, h5⟩ := mons_ok hd hn
  have : mons d n = m := by unfold mons; rw [h1]
  rw [this]; exact ⟨h1, h2, h3, h4, h5⟩
def monsL (d n : Nat) : List ex.den := (List.range (n + 1)).flatMap fun i => (List.range (i + 1)).flatMap fun j => if (2 ≤ d ∨ i - j = 0) ∧ (3 ≤ d ∨ j = 0) then [(((n - i : Nat) : Int), ((i - j : Nat) : Int), (j : Int), ())] else []
theorem chkL : ((List.range 3).all fun d => (List.range 13).all fun n => match fn174 100 ((d : Int) + 1, (n : Int), ()) with | some x => eqX x.1 (monsL (d + 1) n) | none => false) = true := by kernel_rfl
def vrs (d : Int) (e : ex.den) : Prop := (2 ≤ d ∨ x1 e = 0) ∧ (3 ≤ d ∨ x2 e = 0)
theorem mons_mem {d n : Int} (hd : 1 ≤ d ∧ d ≤ 3) (hn : 0 ≤ n ∧ n ≤ 12) {e : ex.den} : e ∈ mons d n ↔ okX e ∧ degX e = n ∧ vrs d e := by
  have key := chkL
  rw [List.all_eq_true] at key
  have key := key (d.toNat - 1) (by simp; omega)
  rw [List.all_eq_true] at key
  have key := key n.toNat (by simp; omega)
  rw [show (((d.toNat - 1 : Nat) : Int) + 1) = d by omega, show ((n.toNat : Nat) : Int) = n by omega] at key
  have h1 : fn174 100 (d, n, ()) = some (mons d n, ()) := (mons_is hd hn).1
  rw [h1] at key
  have key := eqX_eq key
  change mons d n = monsL (d.toNat - 1 + 1) n.toNat at key
  rw [key]
  unfold monsL
  simp only [List.mem_flatMap, List.mem_range]
  constructor
  · rintro ⟨i, hi, j, hj, he⟩
    split at he
    · rename_i hc
      rw [List.mem_singleton] at he; subst he
      refine ⟨⟨?_, ?_, ?_⟩, ?_, ?_, ?_⟩
      · show 0 ≤ ((n.toNat - i : Nat) : Int) ∧ ((n.toNat - i : Nat) : Int) ≤ 255; omega
      · show 0 ≤ ((i - j : Nat) : Int) ∧ ((i - j : Nat) : Int) ≤ 255; omega
      · show 0 ≤ (j : Int) ∧ (j : Int) ≤ 255; omega
      · show ((n.toNat - i : Nat) : Int) + ((i - j : Nat) : Int) + (j : Int) = n; omega
      · show 2 ≤ d ∨ ((i - j : Nat) : Int) = 0
        rcases hc.1 with q | q
        · exact .inl (by omega)
        · exact .inr (by omega)
      · show 3 ≤ d ∨ (j : Int) = 0
        rcases hc.2 with q | q
        · exact .inl (by omega)
        · exact .inr (by omega)
    · cases he
  · rintro ⟨ho, hg, v1, v2⟩
    obtain ⟨a, b, c, _⟩ := e
    change Int at a; change Int at b; change Int at c
    obtain ⟨⟨a0, a1⟩, ⟨b0, b1⟩, ⟨c0, c1⟩⟩ := ho
    change (0 : Int) ≤ a at a0; change (0 : Int) ≤ b at b0; change (0 : Int) ≤ c at c0
    change a + b + c = n at hg
    change 2 ≤ d ∨ b = 0 at v1
    change 3 ≤ d ∨ c = 0 at v2
    refine ⟨n.toNat - a.toNat, by omega, c.toNat, by omega, ?_⟩
    have hcond : (2 ≤ d.toNat - 1 + 1 ∨ n.toNat - a.toNat - c.toNat = 0) ∧ (3 ≤ d.toNat - 1 + 1 ∨ c.toNat = 0) := by
      refine ⟨?_, ?_⟩
      · rcases v1 with q | q
        · exact .inl (by omega)
        · exact .inr (by omega)
      · rcases v2 with q | q
        · exact .inl (by omega)
        · exact .inr (by omega)
    rw [if_pos hcond, List.mem_singleton]
    have e1 : ((n.toNat - (n.toNat - a.toNat) : Nat) : Int) = a := by omega
    have e2 : ((n.toNat - a.toNat - c.toNat : Nat) : Int) = b := by omega
    have e3 : (c.toNat : Int) = c := by omega
    rw [e1, e2, e3]
theorem mons_deg {d n : Int} (hd : 1 ≤ d ∧ d ≤ 3) (hn : 0 ≤ n ∧ n ≤ 12) : ∀ e ∈ mons d n, degX e = n := fun e he => ((mons_mem hd hn).1 he).2.1
noncomputable def rwP (d n : Int) (ts : List term.den) : List Int := (mons d n).map (coT ts)
theorem rwP_len {d n : Int} {ts : List term.den} : (rwP d n ts).length = (mons d n).length := by simp [rwP]
theorem el_map {α : Type} {f : α → Int} {l : List α} (i : Nat) : el (l.map f) i = if h : i < l.length then f l[i] else 0 := by
  unfold el
  rw [List.getD_eq_getElem?_getD]
  split
  · rename_i h; rw [List.getElem?_map, List.getElem?_eq_getElem h]; rfl
  · rename_i h; rw [List.getElem?_eq_none (by simp; omega)]; rfl
theorem rwP_can {p d n : Int} {ts : List term.den} (hp : 0 < p) (h : CanT p ts) : Can p (mons d n).length (rwP d n ts) := by
  refine ⟨rwP_len, fun i => ?_⟩
  unfold rwP
  rw [el_map]
  split
  · exact coT_rng hp h
  · omega
theorem mapTake {α β : Type} {f : α → β} {l : List α} {i : Nat} (h : i < l.length) : (l.take (i + 1)).map f = (l.take i).map f ++ [f l[i]] := by rw [take_snoc h, List.map_append]; rfl
theorem flatTake {α β : Type} {f : α → List β} {l : List α} {i : Nat} (h : i < l.length) : (l.take (i + 1)).flatMap f = (l.take i).flatMap f ++ f l[i] := by rw [take_snoc h, List.flatMap_append]; simp
theorem getD_at {α : Type} {l : List α} {i : Nat} {d : α} (h : i < l.length) : l.getD i d = l[i] := by rw [List.getD_eq_getElem?_getD, List.getElem?_eq_getElem h]; rfl
noncomputable def cf362 : G89 := by
  classical exact fun x => if ((1 : Int) ≤ x.1.2.1 ∧ x.1.2.1 ≤ (3 : Int)) ∧ ((0 : Int) ≤ x.2.1 ∧ x.2.1 ≤ (12 : Int)) ∧ (tms x.1).length ≤ 1000000 then some (rwP x.1.2.1 x.2.1 (tms x.1), ()) else none
theorem k362 : KOne Tryz.prog 89 ⟨[.v poly, .v i64], [.slice 2 i64], true, false, 0, cf362⟩ := ok89 _ _ (.cons k84 (.cons k146 .nil)) cf362 fun x y h => by
  obtain ⟨⟨p, d, ts, u⟩, n, _⟩ := x
  change List term.den at ts
  change Int at d
  change Int at n
  simp only [cf362] at h
  split at h
  · rename_i hc
    injection h with h; subst h
    obtain ⟨h1, h2, h3⟩ := hc
    have h1 : 1 ≤ d ∧ d ≤ 3 := h1
    have h2 : 0 ≤ n ∧ n ≤ 12 := h2
    have h3 : ts.length ≤ 1000000 := h3
    obtain ⟨m1, m2, _, _, m5⟩ := mons_is h1 h2
    refine ⟨200, ?_⟩
    simp only [fn89]
    rw [m2]
    simp only [ru89_3]
    refine (iter_run (mons d n).length 200 (fun i => ((p, d, ts, ()), ((mons d n, ()), ((((mons d n).take i).map (coT ts), ()), (((i : Int), ()), ()))))) (by omega) (fun i hi k => ?_) (fun k => ?_)).trans rfl
    · simp only [st89_3]
      simp (disch := omega) only [dln_t, cond_true, ofn, dlt_t, ib_t, tn_cast, w6_id]
      have g : cf146 ((p, d, ts, ()), (mons d n).getD i (Ty.dflt (.arr 3 (.int .u8))), ()) = some (coT ts (mons d n)[i], ()) := by
        rw [getD_at hi]; exact if_pos h3
      rw [g]
      simp only
      rw [grow_t (by simp; omega), cond_true, mapTake hi]
      rfl
    · simp only [st89_3]
      simp (disch := omega) only [dln_t, cond_true, ofn, dlt_f, cond_false, List.take_length]
      rfl
  · cases h
theorem g362_ok {p d n : Int} {ts : List term.den} (hd : 1 ≤ d ∧ d ≤ 3) (hn : 0 ≤ n ∧ n ≤ 12) (hl : ts.length ≤ 1000000) : cf362 ((p, d, ts, ()), n, ()) = some (rwP d n ts, ()) := if_pos ⟨hd, hn, hl⟩
theorem run400 {e : ex.den} {ts : List term.den} (hl : ts.length ≤ 1000000) {F0 : Nat} : ∀ (r pre : List term.den) (F : Nat), r.length < F → pre ++ r = ts →
    iter (fun s k => st177_2 F0 s k (fun s' => match s' with | ((t3, _), (t8, _), (t9, _), (t10, _), _) => (some ((0 : Int), ())))) F ((e, ()), ((ts, ()), (((ts.length : Int), ()), (((pre.length : Int), ()), ())))) = some (coT r e, ())
  | [], pre, F, hF, he => by
    obtain ⟨F, rfl⟩ : ∃ f, F = f + 1 := ⟨F - 1, by simp at hF; omega⟩
    rw [List.append_nil] at he; subst he
    simp only [iter, st177_2]
    rw [dlt_f (by omega), cond_false]; rfl
  | t :: r, pre, F, hF, he => by
    obtain ⟨F, rfl⟩ : ∃ f, F = f + 1 := ⟨F - 1, by simp at hF; omega⟩
    have l1 : pre.length < ts.length := by rw [← he]; simp
    have g1 : ∀ dd, ts.getD pre.length dd = t := fun dd => by rw [← he]; exact getD_pre
    simp only [iter, st177_2]
    simp (disch := omega) only [cond_true, ofn, dlt_t, ib_t, tn_cast, w6_id, g1]
    rw [eqd_exB]
    simp only [coT]
    by_cases q : t.1 = e
    · rw [decide_eq_true q, if_pos q]; rfl
    · rw [decide_eq_false q, if_neg q, cond_false]
      have ih := run400 (e := e) hl (F0 := F0) r (pre ++ [t]) F (by simp at hF; omega) (by simpa using he)
      simp only [List.length_append, List.length_singleton] at ih
      exact ih
def cf400 : G177 := fun x => if (show List term.den from x.1.2.2.1).length ≤ 1000000 then some (coT x.1.2.2.1 x.2.1, ()) else none
theorem k400 : KOne Tryz.prog 177 ⟨[.v poly, .v ex], [i64], false, false, 0, cf400⟩ := ok177 .nil cf400 fun x y h => by
  obtain ⟨⟨p, d, ts, u⟩, e, _⟩ := x
  change List term.den at ts
  simp only [cf400] at h
  split at h
  · rename_i hc
    injection h with h; subst h
    have hc : ts.length ≤ 1000000 := hc
    refine ⟨ts.length + 1, ?_⟩
    simp only [fn177, ofn, ru177_2]
    rw [dln_t (by omega), cond_true]
    exact run400 hc ts [] (ts.length + 1) (by omega) rfl
  · cases h
noncomputable def cf365 : G98 := by
  classical exact fun x => if ((1 : Int) ≤ x.1.2.1 ∧ x.1.2.1 ≤ (3 : Int)) ∧ ((0 : Int) ≤ x.2.1 ∧ x.2.1 ≤ (12 : Int)) ∧ (tms x.1).length ≤ 1000000 then some (rwP x.1.2.1 x.2.1 (tms x.1), ()) else none
theorem mapSet {α : Type} {f : α → Int} {l : List α} {i : Nat} (h : i < l.length) : ((l.take i).map f ++ List.replicate (l.length - i) (0 : Int)).set i (f l[i]) = (l.take (i + 1)).map f ++ List.replicate (l.length - (i + 1)) 0 := by
  rw [mapTake h]
  have hl : ((l.take i).map f).length = i := by simp; omega
  rw [List.set_append_right _ _ (by omega), hl, Nat.sub_self, show l.length - i = (l.length - (i + 1)) + 1 by omega, List.replicate_succ]
  simp
theorem k365 : KOne Tryz.prog 98 ⟨[.v poly, .v i64], [.slice 2 i64], true, false, 0, cf365⟩ := ok98 _ _ (.cons k88 (.cons k400 .nil)) cf365 fun x y h => by
  obtain ⟨⟨p, d, ts, u⟩, n, _⟩ := x
  change List term.den at ts
  change Int at d
  change Int at n
  simp only [cf365] at h
  split at h
  · rename_i hc
    injection h with h; subst h
    obtain ⟨h1, h2, h3⟩ := hc
    have h1 : 1 ≤ d ∧ d ≤ 3 := h1
    have h2 : 0 ≤ n ∧ n ≤ 12 := h2
    have h3 : ts.length ≤ 1000000 := h3
    obtain ⟨m1, m2, _, _, m5⟩ := mons_is h1 h2
    refine ⟨200, ?_⟩
    simp only [fn98]
    rw [m1]
    simp only [ofn]
    rw [dln_t (show (mons d n).length ≤ 9223372036854775807 by omega), cond_true, dle_t (show (0 : Int) ≤ (mons d n).length by omega), dle_t (show ((mons d n).length : Int) ≤ 1099511627776 by omega)]
    simp only [Bool.and_self, decide_true, cond_true, tn_cast, ru98_4]
    refine (iter_run (step := fun s k => st98_4 cf88 cf400 200 s k _) (mons d n).length 200 (fun i => ((p, d, ts, ()), ((((mons d n).take i).map (coT ts) ++ List.replicate ((mons d n).length - i) (0 : Int), ()), ((mons d n, ()), ((((mons d n).length : Int), ()), (((i : Int), ()), ())))))) (by omega) (fun i hi k => ?_) (fun k => ?_)).trans rfl
    · have hs := mapSet (f := coT ts) hi
      have hl : (((mons d n).take i).map (coT ts) ++ List.replicate ((mons d n).length - i) (0 : Int)).length = (mons d n).length := by simp; omega
      generalize ((mons d n).take i).map (coT ts) ++ List.replicate ((mons d n).length - i) (0 : Int) = A at hs hl ⊢
      simp only [st98_4]
      simp (disch := omega) only [cond_true, ofn, dlt_t, ib_t, tn_cast, w6_id, hl]
      have g : cf400 ((p, d, ts, ()), (mons d n).getD i (Ty.dflt (.arr 3 (.int .u8))), ()) = some (coT ts (mons d n)[i], ()) := by
        rw [getD_at hi]; exact if_pos h3
      rw [g]
      simp only
      rw [hs]; rfl
    · simp only [st98_4]
      simp (disch := omega) only [ofn, dlt_f, cond_false, List.take_length, Nat.sub_self]
      simp only [List.replicate_zero, List.append_nil]
      rfl
  · cases h
theorem g365_ok {p d n : Int} {ts : List term.den} (hd : 1 ≤ d ∧ d ≤ 3) (hn : 0 ≤ n ∧ n ≤ 12) (hl : ts.length ≤ 1000000) : cf365 ((p, d, ts, ()), n, ()) = some (rwP d n ts, ()) := if_pos ⟨hd, hn, hl⟩
structure FineP (p d : Int) (x : Po) : Prop where
  p1 : (show Int from x.1) = p
  d1 : (show Int from x.2.1) = d
  can : CanT p (tms x)
  deg : DegLe 12 (tms x)
  vars : ∀ t ∈ tms x, expsB d t.1 = true
  even : evB (tms x) = true
theorem FineP.eq {p d : Int} {x : Po} (h : FineP p d x) : x = (p, d, tms x, ()) := by
  obtain ⟨a, b, c, u⟩ := x
  have h1 : a = p := h.p1
  have h2 : b = d := h.d1
  subst h1; subst h2; rfl
theorem FineP.len {p d : Int} {x : Po} (h : FineP p d x) : (tms x).length ≤ 68921 := can_len h.can h.deg (by omega)
theorem FineP.ts {p d : Int} {x : Po} (h : FineP p d x) : okTs (tms x) := okTs_of h.can h.deg (by omega)
theorem FineP.degI {p d : Int} {x : Po} (h : FineP p d x) : -1 ≤ degI (tms x) ∧ degI (tms x) ≤ 12 := degI_rng h.can h.deg (by omega)
theorem vT_vars {p d : Int} : ∀ {ts : List term.den} {q : Option ex.den}, vT p d q ts = true → ∀ t ∈ ts, expsB d t.1 = true
  | [], _, _ => by simp
  | s :: r, q, h => by
    simp only [vT, Bool.and_eq_true] at h
    intro t ht
    rcases List.mem_cons.1 ht with rfl | ht
    · exact h.1.1.1
    · exact vT_vars h.2 t ht
theorem fine_of {x : Po} (ho : okT2 (tms x)) (hv : vP x = true) (he : evB (tms x) = true) : isP x.1 = true ∧ ((1 : Int) ≤ x.2.1 ∧ x.2.1 ≤ (3 : Int)) ∧ FineP x.1 x.2.1 x := by
  obtain ⟨h1, h2, h3, h4⟩ := vP_can ho hv
  simp only [vP, Bool.and_eq_true] at hv
  exact ⟨h1, h2, rfl, rfl, h3, h4, vT_vars hv.2, he⟩
structure LOk (L : List Po) (p d : Int) : Prop where
  hP : isP p = true
  hd : 1 ≤ d ∧ d ≤ 3
  len : 1 ≤ L.length ∧ L.length ≤ 8
  each : ∀ x ∈ L, FineP p d x ∧ 1 ≤ degI (tms x)
  p0 : (show Int from (L.getD 0 DPo).1) = p
  d0 : (show Int from (L.getD 0 DPo).2.1) = d
theorem lc_ok {L : List Po} (hs : smallV L) (h : lc L = 0) : ∃ p d, LOk L p d := by
  unfold lc at h
  cases hv : L.all vP with
  | false => rw [hv] at h; simp at h
  | true =>
    rw [hv, cond_true] at h
    by_cases c0 : (L.length : Int) = 0
    · rw [deq_t c0] at h; simp at h
    · rw [deq_f c0, cond_false] at h
      cases hg : (L.all (gd (L.getD 0 DPo)) && decide ((L.length : Int) ≤ 8)) with
      | false => rw [hg] at h; simp at h
      | true =>
        simp only [Bool.and_eq_true, decide_eq_true_eq] at hg
        have h0 : L.getD 0 DPo ∈ L := memG (by omega)
        have f := fun x (hx : x ∈ L) => by
          have g := List.all_eq_true.1 hg.1 x hx
          simp only [gd, alB, Bool.and_eq_true, decide_eq_true_eq, Bool.not_eq_true', decide_eq_false_iff_not] at g
          exact g
        obtain ⟨q1, q2, q3⟩ := fine_of (hs.2 _ h0) (List.all_eq_true.1 hv _ h0) (f _ h0).2
        refine ⟨(L.getD 0 DPo).1, (L.getD 0 DPo).2.1, q1, q2, ⟨by omega, by omega⟩, fun x hx => ?_, rfl, rfl⟩
        have g := f x hx
        obtain ⟨_, _, z3⟩ := fine_of (hs.2 x hx) (List.all_eq_true.1 hv x hx) g.2
        exact ⟨⟨g.1.1.1, g.1.1.2, by have := z3.can; rwa [show x.1 = (L.getD 0 DPo).1 from g.1.1.1] at this, z3.deg, by have := z3.vars; rwa [show x.2.1 = (L.getD 0 DPo).2.1 from g.1.1.2] at this, g.2⟩, by omega⟩
theorem oneP_1 {p : Int} (hp : 2 ≤ p) {e : ex.den} (he : okX e) : oneP p e 1 = [(e, 1, ())] := by
  unfold oneP putP
  have : (1 + coT [] e) % p = 1 := by simp only [coT]; rw [Int.add_zero]; exact Int.emod_eq_of_lt (by omega) (by omega)
  rw [this, show decide ((1 : Int) = 0) = false from rfl]
  rfl
theorem one_can {p : Int} (hp : 2 ≤ p) {e : ex.den} (he : okX e) : CanT p [(e, 1, ())] := ⟨List.pairwise_singleton _ _, fun t ht => by
  rw [List.mem_singleton] at ht; subst ht; exact ⟨he, by show (0 : Int) < 1; omega, by show (1 : Int) < p; omega⟩⟩
theorem degI_one {e : ex.den} {x : Int} : degI [(e, x, ())] = degX e := rfl
theorem deg_one {d : Int} {e : ex.den} {x : Int} (h : degX e ≤ d) : DegLe d [(e, x, ())] := fun t ht => by rw [List.mem_singleton] at ht; subst ht; exact h
noncomputable def mulR (p d n : Int) (x : Po) : List (List Int) := if n < degI (tms x) then [] else (mons d (n - degI (tms x))).map fun e => rwP d n (timesP p (tms x) [(e, 1, ())])
noncomputable def mulL (p d n : Int) (L : List Po) : List (List Int) := L.flatMap (mulR p d n)
theorem mul_one {p d n : Int} {x : Po} (hp : 2 ≤ p ∧ p ≤ 13) (hn : 0 ≤ n ∧ n ≤ 12) (hd : 1 ≤ d ∧ d ≤ 3) (fx : FineP p d x) (h1 : 0 ≤ degI (tms x)) (hle : degI (tms x) ≤ n) {e : ex.den} (he : e ∈ mons d (n - degI (tms x))) :
    okX e ∧ degX e = n - degI (tms x) ∧ CanT p [(e, 1, ())] ∧ CanT p (timesP p (tms x) [(e, 1, ())]) ∧ DegLe 12 (timesP p (tms x) [(e, 1, ())]) := by
  obtain ⟨_, _, _, m4, _⟩ := mons_is hd (n := n - degI (tms x)) ⟨by omega, by omega⟩
  have ho := m4 e he
  have hdg := mons_deg hd (n := n - degI (tms x)) ⟨by omega, by omega⟩ e he
  have c1 := one_can hp.1 ho
  have fd := fx.degI
  have := timesP_can (p := p) (a := tms x) (b := [(e, 1, ())]) (by omega) (small fx.can fx.deg (by omega)) (small c1 (deg_one (d := 12) (by omega)) (by omega))
  refine ⟨ho, hdg, c1, this.1, ?_⟩
  have hd2 : DegLe (degI (tms x)) (tms x) := can_deg fx.can
  exact (timesP_deg (d := degI (tms x)) (e := n - degI (tms x)) (by omega) fx.can c1 hd2 (deg_one (by omega)) (by omega) (by omega)).mono (by omega)
theorem mulR_len {p d n : Int} {x : Po} (hn : 0 ≤ n ∧ n ≤ 12) (hd : 1 ≤ d ∧ d ≤ 3) (h1 : 0 ≤ degI (tms x)) : (mulR p d n x).length ≤ 100 := by
  unfold mulR
  split
  · simp
  · rw [List.length_map]; exact (mons_is hd (n := n - degI (tms x)) ⟨by omega, by omega⟩).2.2.2.2
theorem flat_len {α β : Type} {f : α → List β} {m : Nat} : ∀ {l : List α}, (∀ x ∈ l, (f x).length ≤ m) → (l.flatMap f).length ≤ l.length * m
  | [], _ => by simp
  | x :: l, h => by
    have ih := flat_len (f := f) (l := l) fun y hy => h y (.tail _ hy)
    have hx := h x (.head _)
    rw [List.flatMap_cons, List.length_append, List.length_cons, Nat.succ_mul]; omega
theorem mulR_can {p d n : Int} {x : Po} (hp : 2 ≤ p ∧ p ≤ 13) (hn : 0 ≤ n ∧ n ≤ 12) (hd : 1 ≤ d ∧ d ≤ 3) (fx : FineP p d x) (h1 : 0 ≤ degI (tms x)) : ∀ r ∈ mulR p d n x, Can p (mons d n).length r := by
  intro r hr
  unfold mulR at hr
  split at hr
  · cases hr
  · obtain ⟨e, he, rfl⟩ := List.mem_map.1 hr
    exact rwP_can (by omega) (mul_one hp hn hd fx h1 (by omega) he).2.2.2.1
theorem mulL_can {p d n : Int} {L : List Po} (hp : 2 ≤ p ∧ p ≤ 13) (hn : 0 ≤ n ∧ n ≤ 12) (hd : 1 ≤ d ∧ d ≤ 3) (hL : ∀ x ∈ L, FineP p d x ∧ 0 ≤ degI (tms x)) : ∀ r ∈ mulL p d n L, Can p (mons d n).length r := fun r hr => by
  obtain ⟨x, hx, hr⟩ := List.mem_flatMap.1 hr
  exact mulR_can hp hn hd (hL x hx).1 (hL x hx).2 r hr
structure okMl (p d n : Int) (L : List Po) : Prop where
  hP : isP p = true
  hn : 0 ≤ n ∧ n ≤ 12
  hd : 1 ≤ d ∧ d ≤ 3
  hl : L.length ≤ 1000
  each : ∀ x ∈ L, FineP p d x ∧ 0 ≤ degI (tms x)
theorem okMl.rows {p d n : Int} {L : List Po} (h : okMl p d n L) : (mulL p d n L).length ≤ 100000 := by
  have := flat_len (f := mulR p d n) (m := 100) (l := L) fun x hx => mulR_len h.hn h.hd (h.each x hx).2
  have := h.hl
  unfold mulL; omega
theorem okMl.take {p d n : Int} {L : List Po} (h : okMl p d n L) (i : Nat) : ((L.take i).flatMap (mulR p d n)).length ≤ 100000 := by
  have := flat_len (f := mulR p d n) (m := 100) (l := L.take i) fun x hx => mulR_len h.hn h.hd (h.each x (List.mem_of_mem_take hx)).2
  have := h.hl
  have : (L.take i).length ≤ L.length := by simp; omega
  omega
theorem in361 {p d n : Int} {L : List Po} (h : okMl p d n L) {i : Nat} (hi : i < L.length) (hle : degI (tms L[i]) ≤ n) {acc : List (List Int)} (ha : acc.length ≤ 100000) {F0 : Nat} {kx : ShVal sh86_8 → Option R86} (F : Nat) (hF : 200 < F) :
    iter (fun s k => st86_8 cf84 cf362 cf99 cf96 cf115 F0 s k kx) F ((L, ()), ((n, ()), ((acc, ()), (((i : Int), ()), ((mons d (n - degI (tms L[i])), ()), (((0 : Int), ()), ())))))) =
      kx ((L, ()), ((n, ()), ((acc ++ mulR p d n L[i], ()), (((i : Int), ()), ((mons d (n - degI (tms L[i])), ()), ((((mons d (n - degI (tms L[i]))).length : Int), ()), ())))))) := by
  have hp := isP_pos h.hP
  have hn := h.hn
  obtain ⟨fx, h1⟩ := h.each L[i] (List.getElem_mem hi)
  obtain ⟨_, _, _, _, m5⟩ := mons_is h.hd (n := n - degI (tms L[i])) ⟨by omega, by omega⟩
  have hll := h.hl
  generalize hM : mons d (n - degI (tms L[i])) = M at m5 ⊢
  have e0 : acc = acc ++ (M.take 0).map fun e => rwP d n (timesP p (tms L[i]) [(e, 1, ())]) := by simp
  have eN : mulR p d n L[i] = (M.take M.length).map fun e => rwP d n (timesP p (tms L[i]) [(e, 1, ())]) := by unfold mulR; rw [if_neg (by omega), List.take_length, hM]
  rw [eN]
  have key := iter_run (step := fun s k => st86_8 cf84 cf362 cf99 cf96 cf115 F0 s k kx) (r := kx ((L, ()), ((n, ()), ((acc ++ (M.take M.length).map fun e => rwP d n (timesP p (tms L[i]) [(e, 1, ())]), ()), (((i : Int), ()), ((M, ()), (((M.length : Int), ()), ())))))))
    M.length F (fun j => ((L, ()), ((n, ()), ((acc ++ (M.take j).map fun e => rwP d n (timesP p (tms L[i]) [(e, 1, ())]), ()), (((i : Int), ()), ((M, ()), (((j : Int), ()), ()))))))) (by omega) (fun j hj k => ?_) (fun k => ?_)
  · rw [← e0] at key
    exact key
  · have hmem : M[j] ∈ mons d (n - degI (tms L[i])) := by rw [hM]; exact List.getElem_mem hj
    obtain ⟨o1, o2, o3, o4, o5⟩ := mul_one hp hn h.hd fx h1 hle hmem
    simp only [st86_8]
    simp (disch := omega) only [dln_t, cond_true, ofn, dlt_t, ib_t, tn_cast, w6_id]
    have gx : ∀ dd, L.getD i dd = (p, d, tms L[i], ()) := fun dd => by rw [getD_at hi]; exact fx.eq
    have gm : ∀ dd, M.getD j dd = M[j] := fun dd => getD_at hj
    rw [gx, gm]
    have g1 : cf96 (p, d, M[j], (1 : Int), ()) = some ((p, d, [(M[j], 1, ())], ()), ()) := by rw [g96_ok ⟨by omega, by omega⟩ o1 ⟨by omega, by omega⟩, oneP_1 hp.1 o1]
    rw [g1]
    simp only
    have hfit : fits (tms L[i]) [(M[j], 1, ())] = true := by
      unfold fits
      rw [degI_one, o2, dle_t (show degI (tms L[i]) + (n - degI (tms L[i])) ≤ 12 by omega)]; simp
    have g2 : cf99 ((p, d, tms L[i], ()), (p, d, [(M[j], 1, ())], ()), ()) = some ((p, d, timesP p (tms L[i]) [(M[j], 1, ())], ()), true, ()) := by
      rw [g99_ok ⟨⟨by omega, by omega⟩, fx.can, o3, fx.deg, deg_one (by omega)⟩, hfit]
      unfold timesO; rw [hfit, cond_true]
    rw [g2]
    simp only
    have g3 := g362_ok (p := p) h.hd hn (ts := timesP p (tms L[i]) [(M[j], 1, ())]) (Nat.le_trans (can_len o4 o5 (by omega)) (by omega))
    rw [g3]
    simp only
    rw [grow_t (by simp; omega), cond_true, mapTake hj, List.append_assoc]
    rfl
  · simp only [st86_8]
    simp (disch := omega) only [dln_t, cond_true, ofn, dlt_f, cond_false]
theorem run361 {p d n : Int} {L : List Po} (h : okMl p d n L) {F : Nat} (hF : 2000 < F) : fn86 cf84 cf362 cf99 cf96 cf115 F (L, n, ()) = some (mulL p d n L, ()) := by
  have hp := isP_pos h.hP
  have hn := h.hn
  have hll := h.hl
  refine (iter_run (step := fun s k => st86_3 cf84 cf362 cf99 cf96 cf115 F s k (fun s' => match s' with | ((t0, _), (t1, _), (t5, _), (t6, _), _) => (some (t5, ())))) L.length F (fun i => ((L, ()), ((n, ()), (((L.take i).flatMap (mulR p d n), ()), (((i : Int), ()), ()))))) (by omega) (fun i hi k => ?_) (fun k => ?_)).trans rfl
  · obtain ⟨fx, h1⟩ := h.each L[i] (List.getElem_mem hi)
    have ha := h.take i
    simp only [st86_3, ru86_8]
    simp (disch := omega) only [dln_t, cond_true, ofn, dlt_t, ib_t, tn_cast, w6_id]
    have gx : ∀ dd, L.getD i dd = (p, d, tms L[i], ()) := fun dd => by rw [getD_at hi]; exact fx.eq
    rw [gx, g115_ok fx.ts]
    simp only
    have fd := fx.degI
    by_cases q : n < degI (tms L[i])
    · rw [dlt_t q, cond_true, flatTake hi, show mulR p d n L[i] = [] from if_pos q, List.append_nil]
      rfl
    · rw [dlt_f (by omega), cond_false, w6_id (x := n - degI (tms L[i])) (by omega) (by omega), (mons_is h.hd (n := n - degI (tms L[i])) ⟨by omega, by omega⟩).2.1]
      simp only
      rw [in361 h hi (by omega) ha F (by omega), flatTake hi]
      simp (disch := omega) only [w6_id]
      rfl
  · simp only [st86_3]
    simp (disch := omega) only [dln_t, cond_true, ofn, dlt_f, cond_false, List.take_length]
    rfl
theorem mulL_nil {p d n : Int} : mulL p d n [] = [] := List.flatMap_nil
theorem mulL_head {p d n : Int} {L : List Po} (h : okMl p d n L) : mulL (L.getD 0 DPo).1 (L.getD 0 DPo).2.1 n L = mulL p d n L := by
  cases L with
  | nil => rw [mulL_nil, mulL_nil]
  | cons x r =>
    have f := (h.each x (.head _)).1
    have e1 : (show Int from ((x :: r).getD 0 DPo).1) = p := f.p1
    have e2 : (show Int from ((x :: r).getD 0 DPo).2.1) = d := f.d1
    rw [show ((x :: r).getD 0 DPo).1 = p from e1, show ((x :: r).getD 0 DPo).2.1 = d from e2]
noncomputable def cf361 : G86 := by
  classical exact fun x => if ∃ p d, okMl p d x.2.1 x.1 then some (mulL (List.getD x.1 0 DPo).1 (List.getD x.1 0 DPo).2.1 x.2.1 x.1, ()) else none
theorem g361_ok {p d n : Int} {L : List Po} (h : okMl p d n L) : cf361 (L, n, ()) = some (mulL p d n L, ()) := (if_pos ⟨p, d, h⟩).trans (by rw [← mulL_head h])
theorem k361 : KOne Tryz.prog 86 ⟨[.v (.slice 34 poly), .v i64], [.slice 44 (.slice 2 i64)], true, false, 0, cf361⟩ := ok86 _ _ _ _ _ (.cons k84 (.cons k362 (.cons k99 (.cons k96 (.cons k115 .nil))))) cf361 fun x y h => by
  obtain ⟨L, n, _⟩ := x
  have hc : ∃ p d, okMl p d n L := by
    simp only [cf361] at h
    split at h
    · assumption
    · cases h
  obtain ⟨p, d, ho⟩ := hc
  have e : cf361 (L, n, ()) = some (mulL p d n L, ()) := g361_ok ho
  change cf361 (L, n, ()) = some y at h
  rw [e] at h
  injection h with h; subst h
  exact ⟨2001, run361 ho (by omega)⟩
theorem in364 {p d n : Int} {L : List Po} (h : okMl p d n L) {i : Nat} (hi : i < L.length) (hle : degI (tms L[i]) ≤ n) {acc : List (List Int)} (ha : acc.length ≤ 100000) {M : List ex.den} (hM : M = mons d (n - degI (tms L[i]))) {g145 : G176} {F0 : Nat} {kx : ShVal sh97_7 → Option R97} (F : Nat) (hF : 200 < F) :
    iter (fun s k => st97_7 g145 cf88 cf148 cf106 cf365 cf117 F0 s k kx) F ((L, ()), ((n, ()), ((acc, ()), ((p, (d, (tms L[i], ()))), ((L, ()), (((L.length : Int), ()), (((i : Int), ()), ((M, ()), (((M.length : Int), ()), (((0 : Int), ()), ())))))))))) =
      kx ((L, ()), ((n, ()), ((acc ++ mulR p d n L[i], ()), ((p, (d, (tms L[i], ()))), ((L, ()), (((L.length : Int), ()), (((i : Int), ()), ((M, ()), (((M.length : Int), ()), (((M.length : Int), ()), ())))))))))) := by
  have hp := isP_pos h.hP
  have hn := h.hn
  obtain ⟨fx, h1⟩ := h.each L[i] (List.getElem_mem hi)
  obtain ⟨_, _, _, _, m5⟩ := mons_is h.hd (n := n - degI (tms L[i])) ⟨by omega, by omega⟩
  rw [← hM] at m5
  have hll := h.hl
  have e0 : acc = acc ++ (M.take 0).map fun e => rwP d n (timesP p (tms L[i]) [(e, 1, ())]) := by simp
  have eN : mulR p d n L[i] = (M.take M.length).map fun e => rwP d n (timesP p (tms L[i]) [(e, 1, ())]) := by unfold mulR; rw [if_neg (by omega), List.take_length, hM]
  rw [eN]
  have key := iter_run (step := fun s k => st97_7 g145 cf88 cf148 cf106 cf365 cf117 F0 s k kx) (r := kx ((L, ()), ((n, ()), ((acc ++ (M.take M.length).map fun e => rwP d n (timesP p (tms L[i]) [(e, 1, ())]), ()), ((p, (d, (tms L[i], ()))), ((L, ()), (((L.length : Int), ()), (((i : Int), ()), ((M, ()), (((M.length : Int), ()), (((M.length : Int), ()), ())))))))))))
    M.length F (fun j => ((L, ()), ((n, ()), ((acc ++ (M.take j).map fun e => rwP d n (timesP p (tms L[i]) [(e, 1, ())]), ()), ((p, (d, (tms L[i], ()))), ((L, ()), (((L.length : Int), ()), (((i : Int), ()), ((M, ()), (((M.length : Int), ()), (((j : Int), ()), ()))))))))))) (by omega) (fun j hj k => ?_) (fun k => ?_)
  · rw [← e0] at key
    exact key
  · have hmem : M[j] ∈ mons d (n - degI (tms L[i])) := by rw [← hM]; exact List.getElem_mem hj
    obtain ⟨o1, o2, o3, o4, o5⟩ := mul_one hp hn h.hd fx h1 hle hmem
    simp only [st97_7]
    simp (disch := omega) only [cond_true, ofn, dlt_t, ib_t, tn_cast, w6_id]
    have gm : ∀ dd, M.getD j dd = M[j] := fun dd => getD_at hj
    rw [gm]
    have g1 : cf148 (p, d, M[j], (1 : Int), ()) = some ((p, d, [(M[j], 1, ())], ()), ()) := by rw [g148_ok ⟨by omega, by omega⟩ o1, oneP_1 hp.1 o1]
    rw [g1]
    simp only
    have g2 : cf106 ((p, d, tms L[i], ()), (p, d, [(M[j], 1, ())], ()), ()) = some ((p, d, timesP p (tms L[i]) [(M[j], 1, ())], ()), ()) := g106_ok ⟨⟨by omega, by omega⟩, fx.can, o3, fx.deg.mono (by omega), deg_one (by omega)⟩
    rw [g2]
    simp only
    have g3 := g365_ok (p := p) h.hd hn (ts := timesP p (tms L[i]) [(M[j], 1, ())]) (Nat.le_trans (can_len o4 o5 (by omega)) (by omega))
    rw [g3]
    simp only
    rw [grow_t (by simp; omega), cond_true, mapTake hj, List.append_assoc]
    rfl
  · simp only [st97_7]
    simp (disch := omega) only [ofn, dlt_f, cond_false]
theorem run364 {p d n : Int} {L : List Po} (h : okMl p d n L) {F : Nat} (hF : 2000 < F) : fn97 cf145 cf88 cf148 cf106 cf365 cf117 F (L, n, ()) = some (ech p (mulL p d n L), ()) := by
  have hp := isP_pos h.hP
  have hn := h.hn
  have hll := h.hl
  simp only [fn97, ofn]
  rw [dln_t (show L.length ≤ 9223372036854775807 by omega), cond_true]
  simp only [ru97_3]
  refine iter_run (step := fun s k => st97_3 cf145 cf88 cf148 cf106 cf365 cf117 F s k _) L.length F (fun i => ((L, ()), ((n, ()), (((L.take i).flatMap (mulR p d n), ()), ((L, ()), (((L.length : Int), ()), (((i : Int), ()), ()))))))) (by omega) (fun i hi k => ?_) (fun k => ?_)
  · obtain ⟨fx, h1⟩ := h.each L[i] (List.getElem_mem hi)
    have ha := h.take i
    simp only [st97_3, ru97_7]
    simp (disch := omega) only [dln_t, cond_true, ofn, dlt_t, ib_t, tn_cast, w6_id]
    have gx : ∀ dd, L.getD i dd = (p, d, tms L[i], ()) := fun dd => by rw [getD_at hi]; exact fx.eq
    rw [gx]
    simp only
    rw [g117_ok fx.ts]
    simp only
    have fd := fx.degI
    by_cases q : n < degI (tms L[i])
    · rw [dlt_t q, cond_true, flatTake hi, show mulR p d n L[i] = [] from if_pos q, List.append_nil]
      rfl
    · rw [dlt_f (by omega), cond_false, w6_id (x := n - degI (tms L[i])) (by omega) (by omega), (mons_is h.hd (n := n - degI (tms L[i])) ⟨by omega, by omega⟩).1]
      simp only
      have m5 := (mons_is h.hd (n := n - degI (tms L[i])) ⟨by omega, by omega⟩).2.2.2.2
      rw [dln_t (by omega), cond_true]
      rw [in364 h hi (by omega) ha rfl F (by omega), flatTake hi]
      simp (disch := omega) only [w6_id]
      rfl
  · simp only [st97_3]
    have hr := h.rows
    have hcan := mulL_can hp hn h.hd h.each
    rw [dlt_f (by omega), cond_false]
    simp only [List.take_length]
    rw [show List.flatMap (mulR p d n) L = mulL p d n L from rfl, dln_t (by omega), cond_true]
    by_cases q : ((mulL p d n L).length : Int) = 0
    · have : mulL p d n L = [] := List.eq_nil_of_length_eq_zero (by omega)
      rw [deq_t q, cond_true, this]; rfl
    · rw [deq_f q, cond_false]
      have hne : 0 < L.length := by
        rcases Nat.eq_zero_or_pos L.length with z | z
        · have := List.eq_nil_of_length_eq_zero z; subst this; exact absurd rfl q
        · exact z
      rw [ib_t (by omega) (by omega), cond_true]
      have hp0 : (show Int from (L.getD (tn 0) (Ty.dflt (.pair (.int .i64) (.pair (.int .i64) (.pair (.slice 135 (.pair (.arr 3 (.int .u8)) (.pair (.int .i64) .unit))) .unit))))).1) = p := by
        rw [show tn 0 = 0 from rfl, getD_at hne]; exact (h.each _ (List.getElem_mem hne)).1.p1
      have g := g145_ok (p := p) (m := (mons d n).length) (rows := mulL p d n L) h.hP hcan (by have := (mons_is h.hd hn).2.2.2.2; omega) (by omega)
      change (match cf145 ((show Int from (L.getD (tn 0) (Ty.dflt (.pair (.int .i64) (.pair (.int .i64) (.pair (.slice 135 (.pair (.arr 3 (.int .u8)) (.pair (.int .i64) .unit))) .unit))))).1), mulL p d n L, ()) with | some r19 => some (r19.1, ()) | none => none) = _
      rw [hp0, g]
theorem ech_nil {p : Int} : ech p [] = [] := rfl
noncomputable def cf364 : G97 := by
  classical exact fun x => if ∃ p d, okMl p d x.2.1 x.1 then some (ech (List.getD x.1 0 DPo).1 (mulL (List.getD x.1 0 DPo).1 (List.getD x.1 0 DPo).2.1 x.2.1 x.1), ()) else none
theorem g364_ok {p d n : Int} {L : List Po} (h : okMl p d n L) : cf364 (L, n, ()) = some (ech p (mulL p d n L), ()) := (if_pos ⟨p, d, h⟩).trans (by
  cases L with
  | nil => rw [mulL_nil, mulL_nil, ech_nil, ech_nil]
  | cons x r =>
    have f := (h.each x (.head _)).1
    have e1 : (show Int from ((x :: r).getD 0 DPo).1) = p := f.p1
    have e2 := mulL_head h
    rw [e2, show ((x :: r).getD 0 DPo).1 = p from e1])
theorem k364 : KOne Tryz.prog 97 ⟨[.v (.slice 34 poly), .v i64], [.slice 44 (.slice 2 i64)], true, false, 0, cf364⟩ := ok97 _ _ _ _ _ _ (.cons k145 (.cons k88 (.cons k148 (.cons k106 (.cons k365 (.cons k117 .nil)))))) cf364 fun x y h => by
  obtain ⟨L, n, _⟩ := x
  have hc : ∃ p d, okMl p d n L := by
    simp only [cf364] at h
    split at h
    · assumption
    · cases h
  obtain ⟨p, d, ho⟩ := hc
  have e : cf364 (L, n, ()) = some (ech p (mulL p d n L), ()) := g364_ok ho
  change cf364 (L, n, ()) = some y at h
  rw [e] at h
  injection h with h; subst h
  exact ⟨2001, run364 ho (by omega)⟩
theorem LOk.ml {L : List Po} {p d n : Int} (h : LOk L p d) (hn : 0 ≤ n ∧ n ≤ 12) : okMl p d n L := ⟨h.hP, hn, h.hd, by have := h.len; omega, fun x hx => ⟨(h.each x hx).1, by have := (h.each x hx).2; omega⟩⟩
theorem LOk.at0 {L : List Po} {p d : Int} (h : LOk L p d) (dd : Po) : L.getD (tn (0 : Int)) dd = (p, d, tms (L.getD 0 DPo), ()) := by
  have hl := h.len
  rw [show tn (0 : Int) = 0 from rfl, getD_at (by omega), getD_at (by omega)]
  exact (h.each _ (List.getElem_mem _)).1.eq
noncomputable def cf363 : G96 := fn96 cf156 cf157 0
theorem k363 : KOne Tryz.prog 96 ⟨[.v i64, .v (.slice 44 (.slice 2 i64)), .v (.slice 2 i64)], [.bool], false, false, 0, cf363⟩ := ok96 _ _ (.cons k156 (.cons k157 .nil)) cf363 fun x y h => ⟨0, h⟩
def inS (p : Int) (R : List (List Int)) (r : List Int) : Bool := decide (ldI (rest p R r) < 0)
theorem RR.cans {p : Int} {m : Nat} {R : List (List Int)} (h : RR p m R) : ∀ o ∈ R, Can p m o ∧ ld o < m := fun o ho => ⟨h.can o ho, h.lt o ho⟩
theorem g363_ok {p : Int} {m : Nat} {R : List (List Int)} {r : List Int} (hp : 2 ≤ p ∧ p ≤ 13) (rr : RR p m R) (hr : Can p m r) (hm : m ≤ 1000000) (hl : R.length ≤ 1000000) : cf363 (p, R, r, ()) = some (inS p R r, ()) := by
  simp only [cf363, fn96]
  rw [g156_ok hp rr.cans hr hm hl]
  simp only
  have hc := rest_can (by omega) (fun o ho => rr.can o ho) hr
  rw [g157_ok (l := rest p R r) (by rw [hc.len]; exact hm)]
  rfl
noncomputable def cf320 : G25 := fn25 cf119 cf167 cf362 cf152 cf153 cf108 cf361 cf115 cf64 0
theorem k320 : KOne Tryz.prog 25 ⟨[.v (.slice 34 poly), .v poly], [.bool, i64], false, false, 0, cf320⟩ := ok25 _ _ _ _ _ _ _ _ _ (.cons k119 (.cons k167 (.cons k362 (.cons k152 (.cons k153 (.cons k108 (.cons k361 (.cons k115 (.cons k64 .nil))))))))) cf320 fun x y h => ⟨0, h⟩
noncomputable def cf321 : G28 := fn28 cf160 cf169 cf123 cf364 cf365 cf363 cf117 cf67 0
theorem k321 : KOne Tryz.prog 28 ⟨[.v (.slice 34 poly), .v poly], [.bool, i64], false, false, 0, cf321⟩ := ok28 _ _ _ _ _ _ _ _ (.cons k160 (.cons k169 (.cons k123 (.cons k364 (.cons k365 (.cons k363 (.cons k117 (.cons k67 .nil)))))))) cf321 fun x y h => ⟨0, h⟩
theorem same320 {L : List Po} {f : Po} (hs : smallV L) (hf : okT2 (tms f)) : ∃ (b : Bool) (c : Int), cf320 (L, f, ()) = some (b, c, ()) ∧ cf321 (L, f, ()) = some (b, c, ()) := by
  obtain ⟨q, v, ts, u⟩ := f
  change Int at q; change Int at v; change List term.den at ts
  have e119 : cf119 ((q, v, ts, ()), ()) = some (vP (q, v, ts, u), ()) := if_pos hf
  have e160 : cf160 ((q, v, ts, ()), ()) = some (vP (q, v, ts, u), ()) := if_pos hf
  simp only [cf320, cf321, fn25, fn28]
  rw [e119, e160]
  simp only
  cases hv : vP (q, v, ts, u) with
  | false => exact ⟨_, _, rfl, rfl⟩
  | true =>
    have hts : okTs ts := ok_of (x := (q, v, ts, u)) hf hv
    simp only [Bool.not_true, cond_false]
    rw [g64_ok hs ⟨by omega, by omega⟩, g67_ok hs]
    simp only
    by_cases h : lc L = 0
    · obtain ⟨p, d, ho⟩ := lc_ok hs h
      have hl := ho.len
      rw [deq_t h, Bool.not_true, cond_false, cond_false, ofn, ib_t (by omega) (by omega)]
      simp only [cond_true]
      rw [ho.at0]
      simp only
      have e167 : cf167 ((q, v, ts, ()), ()) = some (evB ts, ()) := if_pos hts
      have e169 : cf169 ((q, v, ts, ()), ()) = some (evB ts, ()) := if_pos hts
      rw [e167, e169]
      simp only
      rw [show cf123 ((q, v, ts, ()), (p, d, tms (L.getD 0 DPo), ()), ()) = (bif decide (q = p) then some ((bif true then decide (v = d) else false), ()) else some (false, ())) from rfl]
      cases he : evB ts with
      | false =>
        simp only [Bool.not_false, Bool.not_true, cond_true, cond_false]
        cases decide (q = p) <;> cases decide (v = d) <;> exact ⟨_, _, rfl, rfl⟩
      | true =>
        simp only [Bool.not_true, cond_false]
        by_cases h1 : q = p
        · by_cases h2 : v = d
          · subst h1; subst h2
            simp only [decide_true, Bool.not_true, cond_false, cond_true]
            rw [g115_ok hts, g117_ok hts]
            simp only
            obtain ⟨_, _, fx⟩ := fine_of (x := (q, v, ts, u)) hf hv he
            have fd := fx.degI
            change -1 ≤ degI ts ∧ degI ts ≤ 12 at fd
            by_cases hn : degI ts < 0
            · rw [dlt_t hn]; exact ⟨_, _, rfl, rfl⟩
            · rw [dlt_f (by omega), cond_false, cond_false]
              have hm := ho.ml (n := degI ts) ⟨by omega, by omega⟩
              have hp := isP_pos ho.hP
              have hcan := mulL_can hp hm.hn hm.hd hm.each
              have m5 := (mons_is hm.hd hm.hn).2.2.2.2
              have hr := hm.rows
              have rr := ech_RR ho.hP hcan
              have rc := rwP_can (d := v) (n := degI ts) (by omega) fx.can
              change Can q _ (rwP v (degI ts) ts) at rc
              have hel := Nat.le_trans (ech_len (p := q) (rows := mulL q v (degI ts) L)) hr
              rw [g361_ok hm, g364_ok hm]
              simp only
              rw [g108_ok (m := (mons v (degI ts)).length) ho.hP hcan (by omega) (by omega), g362_ok hm.hd hm.hn hts.1, g365_ok hm.hd hm.hn hts.1]
              simp only
              rw [g152_ok hp rr rc (by omega) (by omega), g363_ok hp rr rc (by omega) (by omega)]
              simp only
              have hc := rest_can (by omega) (fun o ho => rr.can o ho) rc
              rw [g153_ok (by rw [hc.len]; omega)]
              exact ⟨_, _, rfl, rfl⟩
          · simp only [h1, decide_true, decide_eq_false h2, Bool.not_true, Bool.not_false, cond_false, cond_true]
            exact ⟨_, _, rfl, rfl⟩
        · simp only [decide_eq_false h1, Bool.not_true, Bool.not_false, cond_false, cond_true]
          exact ⟨_, _, rfl, rfl⟩
    · rw [deq_f h]; exact ⟨_, _, rfl, rfl⟩
theorem okP_of {f : Po} (h : okV lpoly f = true) : (tms f).length ≤ 9223372036854775807 ∧ ∀ t ∈ tms f, okX t.1 := by
  obtain ⟨p, d, l, u⟩ := f
  change List term.den at l
  simp only [okV, Bool.and_true, Bool.and_eq_true, decide_eq_true_eq] at h
  obtain ⟨_, _, t1, t2⟩ := h
  refine ⟨t1, fun t ht => ?_⟩
  have := List.all_eq_true.1 t2 t ht
  obtain ⟨⟨a, b, c, _⟩, v, _⟩ := t
  simp [okV, okV.okT, kwf, IntKind.min, IntKind.max, IntKind.bits, IntKind.signed] at this
  change Int at a; change Int at b; change Int at c
  show (0 ≤ a ∧ a ≤ 255) ∧ (0 ≤ b ∧ b ≤ 255) ∧ (0 ≤ c ∧ c ≤ 255)
  exact this.1
theorem okL_args {L : List Po} (h : okV (.slice 25 lpoly) L = true) : L.length ≤ 9223372036854775807 ∧ ∀ z ∈ L, (tms z).length ≤ 9223372036854775807 ∧ ∀ t ∈ tms z, okX t.1 := by
  simp only [okV, Bool.and_eq_true, decide_eq_true_eq] at h
  exact ⟨h.1, fun z hz => okP_of (List.all_eq_true.1 h.2 z hz)⟩
structure SmL (L : List Po) : Prop where
  sm : L.length ≤ 1048576 ∧ totT L ≤ 1048576
  sP : smallP L
  sV : smallV L
  c23 : cf23 (L, ()) = some (L, ())
  c26 : cf26 (L, L, ()) = some (true, ())
theorem smL_of {L : List Po} (h : ∀ z ∈ L, (tms z).length ≤ 9223372036854775807 ∧ ∀ t ∈ tms z, okX t.1) (hsz : 0 ≤ sz21 L) : SmL L := by
  have hsm := sz21_small hsz
  have hsP := smallP_of hsm
  exact ⟨hsm, hsP, ⟨hsP.1, fun z hz => ⟨hsP.2 z hz, (h z hz).2⟩⟩, g23_ok hsP, g26_ok hsP⟩
theorem sz21_le {L : List Po} : sz21 L ≤ 1048576 := by
  have go : ∀ (L : List Po) (k : Int), k ≤ 1048576 → szR k L ≤ 1048576 := fun L => by
    induction L with
    | nil => intro k h; exact h
    | cons x r ih =>
      intro k h
      simp only [szR]
      split
      · omega
      · exact ih _ (by omega)
  unfold sz21
  split
  · omega
  · exact go _ _ (by omega)
abbrev R3 : Type := Ress [.bool]
abbrev G3 : Type := Args [.v (.slice 25 lpoly), .v lpoly] → Option R3
abbrev kp3 : List (Nat × List Nat) := [(0, [3, 0]), (1, [5, 3, 0]), (2, [3, 0, 5]), (3, [16, 3, 0, 5]), (4, [4]), (5, [5, 0, 3]), (6, [21, 0, 3]), (7, [4]), (8, [6, 7, 3, 0]), (9, [6, 7, 3, 0, 8]), (10, [6, 7, 9, 3, 0, 8]), (11, [10, 6, 11, 7, 9, 3, 0, 8]), (12, [47, 9, 3, 0, 8]), (13, [4]), (14, [52, 3, 9]), (15, [4]), (16, [57]), (17, [4]), (18, [4])]
abbrev ct3 (g28 : G28) (g29 : G29) (g30 : G30) (g25 : G25) (g27 : G27) (g26 : G26) (g24 : G24) (g23 : G23) : CTab := [(28, ⟨[.v (.slice 34 poly), .v poly], [.bool, i64], false, false, 0, g28⟩), (29, ⟨[.v (.slice 34 poly), .v (.slice 34 poly)], [.bool], false, false, 0, g29⟩), (30, ⟨[.v poly, .v poly], [.bool], false, false, 0, g30⟩), (25, ⟨[.v (.slice 34 poly), .v poly], [.bool, i64], false, false, 0, g25⟩), (27, ⟨[.v lpoly], [poly], true, false, 0, g27⟩), (26, ⟨[.v (.slice 25 lpoly)], [(.slice 34 poly)], true, false, 0, g26⟩), (24, ⟨[.v lpoly, .v i64], [i64], false, false, 0, g24⟩), (23, ⟨[.v (.slice 25 lpoly), .v i64], [i64], false, false, 0, g23⟩)]
def fn3 (g28 : G28) (g29 : G29) (g30 : G30) (g25 : G25) (g27 : G27) (g26 : G26) (g24 : G24) (g23 : G23) (F : Nat) (x : Args [.v (.slice 25 lpoly), .v lpoly]) : Option R3 :=
  match x with
  | (x0, x1, _) => (match (g23 (x0, ((1048576 : Int), ()))) with | some r13 => (bif decide (r13.1 < (0 : Int)) then (some (true, ())) else (match (g24 ((x1.1, (x1.2.1, (x1.2.2.1, ()))), (r13.1, ()))) with | some r16 => (bif decide (r16.1 < (0 : Int)) then (some (true, ())) else (match (g26 (x0, ())) with | some r19 => (match (g27 ((x1.1, (x1.2.1, (x1.2.2.1, ()))), ())) with | some r20 => (match (g25 (r19.1, ((r20.1.1, (r20.1.2.1, (r20.1.2.2.1, ()))), ()))) with | some r21 => (match (g26 (x0, ())) with | some r23 => (match (g27 ((x1.1, (x1.2.1, (x1.2.2.1, ()))), ())) with | some r25 => (match (g28 (r23.1, ((r25.1.1, (r25.1.2.1, (r25.1.2.2.1, ()))), ()))) with | some r27 => (bif (!(r27.1 == r21.1)) then (some (false, ())) else (bif (bif false then true else (!decide (r27.2.1 = r21.2.1))) then (some (false, ())) else (match (g26 (x0, ())) with | some r30 => (match (g29 (r23.1, (r30.1, ()))) with | some r31 => (bif (!r31.1) then (some (false, ())) else (match (g27 ((x1.1, (x1.2.1, (x1.2.2.1, ()))), ())) with | some r33 => (match (g30 ((r25.1.1, (r25.1.2.1, (r25.1.2.2.1, ()))), ((r33.1.1, (r33.1.2.1, (r33.1.2.2.1, ()))), ()))) with | some r34 => (bif (!r34.1) then (some (false, ())) else (some (true, ()))) | none => none) | none => none)) | none => none) | none => none))) | none => none) | none => none) | none => none) | none => none) | none => none) | none => none)) | none => none)) | none => none)
theorem ev3 (g28 : G28) (g29 : G29) (g30 : G30) (g25 : G25) (g27 : G27) (g26 : G26) (g24 : G24) (g23 : G23) (F : Nat) (x : Args [.v (.slice 25 lpoly), .v lpoly]) : fnK TT (ct3 g28 g29 g30 g25 g27 g26 g24 g23 ) kp3 [.bool] [] (bodyOf Tryz.f3) [.tmp 4] [.v (.slice 25 lpoly), .v lpoly] false false x = fn3 g28 g29 g30 g25 g27 g26 g24 g23 F x := by
  obtain ⟨x0, x1, _⟩ := x
  kernel_rfl
theorem ok3 (g28 : G28) (g29 : G29) (g30 : G30) (g25 : G25) (g27 : G27) (g26 : G26) (g24 : G24) (g23 : G23) (hK : KOK Tryz.prog (ct3 g28 g29 g30 g25 g27 g26 g24 g23 )) (cf : G3) (h : ∀ x y, cf x = some y → ∃ F, fn3 g28 g29 g30 g25 g27 g26 g24 g23 F x = some y) : KOne Tryz.prog 3 ⟨[.v (.slice 25 lpoly), .v lpoly], [.bool], false, false, 0, cf⟩ :=
  fn_one rfl (c := bodyOf Tryz.f3) mixed tt_ok hK Tryz.func3 (by kernel_rfl) (by kernel_rfl) (Nat.le_of_ble_eq_true (by kernel_rfl)) (by decide) fun x y hxy => by
    obtain ⟨F, hF⟩ := h x y hxy
    exact ⟨[], LTOK_by (l := []) (by kernel_rfl) trivial, (ev3 g28 g29 g30 g25 g27 g26 g24 g23 F x).trans hF⟩
theorem g63_ok {p d k : Int} {ts : List term.den} (h1 : ts.length ≤ 9223372036854775807) (hk : 0 ≤ k ∧ k ≤ 1048576) : cf63 ((p, d, ts, ()), k, ()) = some (if k - (ts.length : Int) < 0 then -1 else k - (ts.length : Int), ()) := if_pos ⟨h1, hk.1, hk.2⟩
theorem law300_one : KOne Tryz.prog 3 ⟨[.v (.slice 25 lpoly), .v lpoly], [.bool], false, false, 0, fun x => bif okA [.v (.slice 25 lpoly), .v lpoly] x then some (true, ()) else none⟩ :=
  ok3 _ _ _ _ _ _ _ _ (.cons k321 (.cons k26 (.cons k39 (.cons k320 (.cons k66 (.cons k23 (.cons k63 (.cons k21 .nil)))))))) _ fun x y h => by
    obtain ⟨L, f, _⟩ := x
    change List Po at L
    change Po at f
    cases hx : okA [.v (.slice 25 lpoly), .v lpoly] (L, f, ()) with
    | false => simp only [hx, cond_false] at h; cases h
    | true =>
      simp only [hx, cond_true] at h
      injection h with h; subst h
      refine ⟨0, ?_⟩
      simp only [okA, Bool.and_true, Bool.and_eq_true] at hx
      obtain ⟨x1, x2⟩ := okL_args hx.1
      obtain ⟨f1, f2⟩ := okP_of hx.2
      obtain ⟨q, v, ts, u⟩ := f
      change List term.den at ts
      change ts.length ≤ 9223372036854775807 at f1
      simp only [fn3]
      rw [g21_ok x1 fun z hz => (x2 z hz).1]
      simp only
      by_cases hsz : sz21 L < 0
      · rw [dlt_t hsz, cond_true]
      · rw [dlt_f (by omega), cond_false]
        have s := smL_of x2 (by omega)
        have hle := sz21_le (L := L)
        rw [g63_ok f1 ⟨by omega, hle⟩]
        simp only
        by_cases q2 : sz21 L - (ts.length : Int) < 0
        · rw [if_pos q2]; rfl
        · rw [if_neg q2, dlt_f (by omega), cond_false]
          have hts : ts.length ≤ 1048576 := by omega
          have c66 : cf66 ((q, v, ts, ()), ()) = some ((q, v, ts, ()), ()) := if_pos (by show ts.length ≤ 2000000; omega)
          have c39 := g39b_ok (p := q) (v := v) (a := ts) (by omega)
          obtain ⟨b, c, e1, e2⟩ := same320 (f := (q, v, ts, ())) s.sV ⟨by show ts.length ≤ 2000000; omega, f2⟩
          simp (disch := omega) only [s.c23, c66, e1, e2, s.c26, c39, Bool.not_true, cond_false, deq_t, decide_true, beq_self_eq_true]
end Go.Proofs.YtmdpmnjnpnjppaaGreatEv
