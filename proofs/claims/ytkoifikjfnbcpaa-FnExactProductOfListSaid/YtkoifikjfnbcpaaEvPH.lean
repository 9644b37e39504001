/- A term put into a sorted list of terms. -/
import Derived.Test.YtkoifikjfnbcpaaEvPG
set_option linter.unusedVariables false
set_option linter.unusedSimpArgs false
namespace Go.Proofs.YtkoifikjfnbcpaaEv
open Go Go.RowKit Go.Proofs

def goP (e : ex.den) (c : Int) : Bool → List term.den → List term.den
  | d, [] => bif d then [] else [(e, c, ())]
  | d, t :: r => (bif !d && decide (keyX e < keyT3 t) then [(e, c, ())] else []) ++ ((if t.1 = e then [] else [t]) ++ goP e c (d || decide (keyX e < keyT3 t)) r)

theorem key_neq {e : ex.den} {t : term.den} (h : keyX e < keyT3 t) : t.1 ≠ e := fun q => by unfold keyT3 at h; rw [q] at h; omega
theorem goP_true {e : ex.den} {c : Int} : ∀ ts : List term.den, goP e c true ts = ts.filter fun t => decide (t.1 ≠ e)
  | [] => rfl
  | t :: r => by
    simp only [goP, Bool.not_true, Bool.false_and, cond_false, Bool.true_or, goP_true r, List.nil_append, List.filter_cons]
    by_cases q : t.1 = e <;> simp [q]
theorem goP_past {e : ex.den} {c : Int} : ∀ {ts : List term.den}, (∀ t ∈ ts, keyX e < keyT3 t) → goP e c false ts = (e, c, ()) :: ts
  | [], _ => rfl
  | t :: r, h => by
    have h1 := h t (.head _)
    have h2 : (t :: r).filter (fun t => decide (t.1 ≠ e)) = t :: r := List.filter_eq_self.2 fun s hs => by simpa using key_neq (h s hs)
    have h3 : r.filter (fun t => decide (t.1 ≠ e)) = r := List.filter_eq_self.2 fun s hs => by simpa using key_neq (h s (.tail _ hs))
    simp only [goP, Bool.not_false, Bool.true_and, Bool.false_or, decide_eq_true h1, cond_true, goP_true, h3, if_neg (key_neq h1)]
    rfl
theorem coT_filter {e : ex.den} : ∀ (ts : List term.den) (e' : ex.den), coT (ts.filter fun t => decide (t.1 ≠ e)) e' = if e' = e then 0 else coT ts e'
  | [], e' => by simp [coT]
  | t :: r, e' => by
    rw [List.filter_cons]
    by_cases q : t.1 = e
    · simp only [q, ne_eq, not_true_eq_false, decide_false, Bool.false_eq_true, if_false, coT_filter r e']
      by_cases z : e' = e
      · simp [z]
      · simp only [if_neg z, coT, q, if_neg (fun w => z w.symm : ¬ e = e')]
    · simp only [ne_eq, q, not_false_eq_true, decide_true, if_true, coT, coT_filter r e']
      by_cases z : t.1 = e'
      · rw [if_pos z, if_neg (fun w => q (z.trans w)), if_pos z]
      · rw [if_neg z, if_neg z]
theorem CanT.filter {p : Int} {ts : List term.den} (h : CanT p ts) (f : term.den → Bool) : CanT p (ts.filter f) := ⟨h.srt.sublist List.filter_sublist, fun t ht => h.ok t (List.mem_filter.1 ht).1⟩

theorem goP_false {p : Int} {e : ex.den} {c : Int} (he : okX e) (hc : 0 < c ∧ c < p) : ∀ {ts : List term.den}, CanT p ts → CanT p (goP e c false ts) ∧ (∀ e', coT (goP e c false ts) e' = if e' = e then c else coT ts e') ∧ ∀ s ∈ goP e c false ts, s = (e, c, ()) ∨ s ∈ ts
  | [], _ => ⟨⟨List.pairwise_singleton _ _, fun t ht => by
      have : t = (e, c, ()) := by simpa [goP] using ht
      subst this; exact ⟨he, hc⟩⟩, fun e' => by
      show coT [(e, c, ())] e' = _
      simp only [coT]
      by_cases z : e' = e
      · rw [if_pos z.symm, if_pos z]
      · rw [if_neg (fun w => z w.symm), if_neg z], fun s hs => .inl (by simpa [goP] using hs)⟩
  | t :: r, h => by
    have past : ∀ {l : List term.den}, CanT p l → (∀ s ∈ l, keyX e < keyT3 s) → CanT p ((e, c, ()) :: l) := fun hl hk => ⟨List.pairwise_cons.2 ⟨hk, hl.srt⟩, fun s hs => by
      rcases List.mem_cons.1 hs with rfl | hs
      · exact ⟨he, hc⟩
      · exact hl.ok s hs⟩
    have hr := (List.pairwise_cons.1 h.srt).1
    by_cases q : keyX e < keyT3 t
    · have all : ∀ s ∈ t :: r, keyX e < keyT3 s := fun s hs => by
        rcases List.mem_cons.1 hs with rfl | hs
        · exact q
        · exact Int.lt_trans q (hr s hs)
      rw [goP_past all]
      refine ⟨past h all, fun e' => ?_, fun s hs => ?_⟩
      · by_cases z : e' = e
        · rw [if_pos z]; show (if e = e' then c else _) = c; rw [if_pos z.symm]
        · rw [if_neg z]; show (if e = e' then c else _) = _; rw [if_neg (fun w => z w.symm)]
      · exact List.mem_cons.1 hs
    · have e0 : goP e c false (t :: r) = (if t.1 = e then [] else [t]) ++ goP e c false r := by
        simp only [goP, Bool.not_false, Bool.true_and, Bool.false_or, decide_eq_false q, cond_false, List.nil_append]
      rw [e0]
      by_cases z : t.1 = e
      · have all : ∀ s ∈ r, keyX e < keyT3 s := fun s hs => by have := hr s hs; unfold keyT3 at this ⊢; rw [z] at this; exact this
        rw [if_pos z, List.nil_append, goP_past all]
        refine ⟨past h.tail all, fun e' => ?_, fun s hs => ?_⟩
        · by_cases w : e' = e
          · rw [if_pos w]; show (if e = e' then c else _) = c; rw [if_pos w.symm]
          · rw [if_neg w]; show (if e = e' then c else coT r e') = coT (t :: r) e'
            rw [if_neg (fun q => w q.symm)]; simp only [coT, z]; rw [if_neg (fun q => w q.symm)]
        · rcases List.mem_cons.1 hs with rfl | hs
          · exact .inl rfl
          · exact .inr (.tail _ hs)
      · rw [if_neg z]
        obtain ⟨i1, i2, i3⟩ := goP_false he hc h.tail
        have kt : keyT3 t < keyX e := by
          rcases Int.lt_trichotomy (keyT3 t) (keyX e) with w | w | w
          · exact w
          · exact absurd (keyX_inj (h.ok t (.head _)).1 he w) z
          · exact absurd w q
        refine ⟨⟨List.pairwise_cons.2 ⟨fun s hs => ?_, i1.srt⟩, fun s hs => ?_⟩, fun e' => ?_, fun s hs => ?_⟩
        · rcases i3 s hs with rfl | hs
          · exact kt
          · exact hr s hs
        · rcases List.mem_cons.1 hs with rfl | hs
          · exact h.ok _ (.head _)
          · exact i1.ok s hs
        · show (if t.1 = e' then t.2.1 else coT (goP e c false r) e') = if e' = e then c else (if t.1 = e' then t.2.1 else coT r e')
          rw [i2 e']
          by_cases w : t.1 = e'
          · rw [if_pos w, if_pos w, if_neg (fun q => z (w.trans q))]
          · rw [if_neg w, if_neg w]
        · rcases List.mem_cons.1 hs with rfl | hs
          · exact .inr (.head _)
          · exact (i3 s hs).imp id (.tail _)

/-- A number more at an exponent. -/
def putP (p : Int) (ts : List term.den) (e : ex.den) (x : Int) : List term.den := goP e ((x + coT ts e) % p) (decide ((x + coT ts e) % p = 0)) ts
theorem putP_can {p : Int} {ts : List term.den} {e : ex.den} {x : Int} (hp : 0 < p) (h : CanT p ts) (he : okX e) : CanT p (putP p ts e x) ∧ ∀ e', coT (putP p ts e x) e' = if e' = e then (x + coT ts e) % p else coT ts e' := by
  have r1 := Int.emod_nonneg (x + coT ts e) (show p ≠ 0 by omega)
  have r2 := Int.emod_lt_of_pos (x + coT ts e) hp
  unfold putP
  by_cases q : (x + coT ts e) % p = 0
  · rw [decide_eq_true q, goP_true]
    exact ⟨h.filter _, fun e' => by rw [coT_filter, q]⟩
  · rw [decide_eq_false q]
    obtain ⟨a, b, _⟩ := goP_false he ⟨by omega, r2⟩ h
    exact ⟨a, b⟩

end Go.Proofs.YtkoifikjfnbcpaaEv
