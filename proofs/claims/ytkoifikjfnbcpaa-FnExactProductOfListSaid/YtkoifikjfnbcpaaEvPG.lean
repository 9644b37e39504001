/- Polynomials by their terms: a sorted list of terms with numbers from 1 to p - 1 is told by its numbers. -/
import Derived.Test.YtkoifikjfnbcpaaEvSuD
set_option linter.unusedVariables false
set_option linter.unusedSimpArgs false
namespace Go.Proofs.YtkoifikjfnbcpaaEv
open Go Go.RowKit Go.Proofs

instance decX : DecidableEq ex.den := inferInstanceAs (DecidableEq (Int × Int × Int × Unit))
/-- The number at an exponent. -/
def coT : List term.den → ex.den → Int
  | [], _ => 0
  | t :: r, e => if t.1 = e then t.2.1 else coT r e

structure CanT (p : Int) (ts : List term.den) : Prop where
  srt : ts.Pairwise fun a b => keyT3 a < keyT3 b
  ok : ∀ t ∈ ts, okX t.1 ∧ (0 : Int) < t.2.1 ∧ t.2.1 < p

theorem CanT.tail {p : Int} {t : term.den} {ts : List term.den} (h : CanT p (t :: ts)) : CanT p ts := ⟨(List.pairwise_cons.1 h.srt).2, fun s hs => h.ok s (.tail _ hs)⟩
theorem coT_none : ∀ {ts : List term.den} {e : ex.den}, (∀ t ∈ ts, t.1 ≠ e) → coT ts e = 0
  | [], _, _ => rfl
  | t :: r, e, h => by
    simp only [coT]; rw [if_neg (h t (.head _))]; exact coT_none fun s hs => h s (.tail _ hs)
theorem key_ne {p : Int} {ts : List term.den} {e : ex.den} (h : ∀ t ∈ ts, keyX e < keyT3 t) : ∀ t ∈ ts, t.1 ≠ e := fun t ht q => by
  have := h t ht
  unfold keyT3 at this; rw [q] at this; omega
theorem coT_head {p : Int} {t : term.den} {ts : List term.den} (h : CanT p (t :: ts)) : coT ts t.1 = 0 := coT_none (key_ne (p := p) fun s hs => (List.pairwise_cons.1 h.srt).1 s hs)
theorem coT_mem {p : Int} : ∀ {ts : List term.den} {t : term.den}, CanT p ts → t ∈ ts → coT ts t.1 = t.2.1
  | s :: r, t, h, ht => by
    simp only [coT]
    rcases List.mem_cons.1 ht with rfl | ht
    · rw [if_pos rfl]
    · have := (List.pairwise_cons.1 h.srt).1 t ht
      rw [if_neg (fun q => by unfold keyT3 at this; rw [q] at this; omega)]
      exact coT_mem h.tail ht
theorem can_unique {p : Int} : ∀ {a b : List term.den}, CanT p a → CanT p b → (∀ e, coT a e = coT b e) → a = b
  | [], [], _, _, _ => rfl
  | [], s :: b, _, hb, h => by
    have := h s.1
    have h2 := (hb.ok s (.head _)).2.1
    have h3 : coT (s :: b) s.1 = s.2.1 := coT_mem hb (.head _)
    rw [h3] at this
    have h4 : coT [] s.1 = 0 := rfl
    rw [h4] at this
    exact absurd (this ▸ h2) (by omega)
  | t :: a, [], ha, _, h => by
    have := h t.1
    have h2 := (ha.ok t (.head _)).2.1
    have h3 : coT (t :: a) t.1 = t.2.1 := coT_mem ha (.head _)
    rw [h3] at this
    have h4 : coT [] t.1 = 0 := rfl
    rw [h4] at this
    exact absurd (this ▸ h2) (by omega)
  | t :: a, s :: b, ha, hb, h => by
    have pt := (ha.ok t (.head _)).2.1
    have ps := (hb.ok s (.head _)).2.1
    have et : coT (t :: a) t.1 = t.2.1 := coT_mem ha (.head _)
    have es : coT (s :: b) s.1 = s.2.1 := coT_mem hb (.head _)
    rcases Int.lt_trichotomy (keyT3 t) (keyT3 s) with q | q | q
    · have : coT (s :: b) t.1 = 0 := coT_none (key_ne (p := p) fun x hx => by
        rcases List.mem_cons.1 hx with rfl | hx
        · exact q
        · exact Int.lt_trans q ((List.pairwise_cons.1 hb.srt).1 x hx))
      have h1 := h t.1
      rw [et, this] at h1
      exact absurd (h1 ▸ pt) (by omega)
    · have e1 : t.1 = s.1 := keyX_inj (ha.ok t (.head _)).1 (hb.ok s (.head _)).1 q
      have e2 : t.2.1 = s.2.1 := by
        have h1 := h t.1
        rw [et, e1, es] at h1; exact h1
      have e3 : t = s := by
        obtain ⟨t1, t2, t3⟩ := t
        obtain ⟨s1, s2, s3⟩ := s
        simp only at e1 e2
        subst e1; subst e2; rfl
      subst e3
      have := can_unique ha.tail hb.tail fun e => by
        by_cases q : t.1 = e
        · subst q; rw [coT_head ha, coT_head hb]
        · have h1 := h e
          simp only [coT, if_neg q] at h1; exact h1
      rw [this]
    · have : coT (t :: a) s.1 = 0 := coT_none (key_ne (p := p) fun x hx => by
        rcases List.mem_cons.1 hx with rfl | hx
        · exact q
        · exact Int.lt_trans q ((List.pairwise_cons.1 ha.srt).1 x hx))
      have h1 := h s.1
      rw [es, this] at h1
      exact absurd (h1 ▸ ps) (by omega)

theorem cN_md {p x : Int} (h1 : 0 < p) (h2 : p ≤ 1000000) : cN p x = x % p := by
  have a := Int.natAbs_tmod x p
  have b : x.natAbs % p.natAbs < p.natAbs := Nat.mod_lt _ (by omega)
  have c : -p < Int.tmod x p ∧ Int.tmod x p < p := by omega
  unfold cN
  rw [w6_i (by omega) (by omega), Int.tmod_eq_emod_of_nonneg (by omega), Int.add_emod_right]
  rcases Int.lt_or_le x 0 with q | q
  · rw [← Int.emod_emod_of_dvd _ (Int.dvd_refl p)]
    have : Int.tmod x p = x - p * Int.tdiv x p := by have := Int.mul_tdiv_add_tmod x p; omega
    rw [this, Int.sub_mul_emod_self_left, Int.emod_emod_of_dvd _ (Int.dvd_refl p)]
  · rw [Int.tmod_eq_emod_of_nonneg q, Int.emod_emod_of_dvd _ (Int.dvd_refl p)]

/-- What sum.poly gives, by its numbers. -/
theorem sumP_can {p v : Int} {m : List (ex.den × i64.den)} (h1 : 0 < p) (h2 : p ≤ 1000000) (hk : ∀ k ∈ lkeys m, okX k) : CanT p (sumP p v m).2.2.1 ∧ ∀ e, coT (sumP p v m).2.2.1 e = (show Int from mget ex i64 m e) % p := by
  have perm : (sortK keyT3 (termsOf p m (lkeys m))).Perm (termsOf p m (lkeys m)) := List.mergeSort_perm _ _
  have ok : ∀ t ∈ termsOf p m (lkeys m), okX t.1 := fun t ht => hk _ (term1_mem.1 ht).1
  have nd : ((termsOf p m (lkeys m)).map keyT3).Nodup := nodup_map_on (f := (·.1)) (fun a ha b hb (e : keyX a.1 = keyX b.1) => keyX_inj (ok a ha) (ok b hb) e) (terms_nodup lkeys_nodup)
  have srt : (sortK keyT3 (termsOf p m (lkeys m))).Pairwise fun a b => keyT3 a ≤ keyT3 b := by
    have := List.pairwise_mergeSort (le := fun a b : term.den => decide (keyT3 a ≤ keyT3 b)) (fun a b c h1 h2 => by simp at *; omega) (fun a b => by simp; omega) (termsOf p m (lkeys m))
    exact this.imp fun h => by simpa using h
  have nd2 : ((sortK keyT3 (termsOf p m (lkeys m))).map keyT3).Nodup := (perm.map keyT3).nodup_iff.2 nd
  have lt : (sortK keyT3 (termsOf p m (lkeys m))).Pairwise fun a b => keyT3 a < keyT3 b := by
    have := List.pairwise_map.1 nd2
    exact (srt.and this).imp fun h => by omega
  have can : CanT p (sortK keyT3 (termsOf p m (lkeys m))) := ⟨lt, fun t ht => by
    have q := perm.mem_iff.1 ht
    obtain ⟨q1, q2, q3⟩ := term1_mem.1 q
    refine ⟨ok t q, ?_⟩
    have e : t.2.1 = cN p (mget ex i64 m t.1) := by rw [q3]
    rw [cN_md h1 h2] at q2 e
    have r1 := Int.emod_nonneg (show Int from mget ex i64 m t.1) (show p ≠ 0 by omega)
    have r2 := Int.emod_lt_of_pos (show Int from mget ex i64 m t.1) h1
    have r3 : (show Int from mget ex i64 m t.1) % p ≠ 0 := q2
    have e' : (show Int from t.2.1) = (show Int from mget ex i64 m t.1) % p := e
    constructor
    · show (0 : Int) < (show Int from t.2.1); omega
    · show (show Int from t.2.1) < p; omega⟩
  refine ⟨can, fun e => ?_⟩
  show coT (sortK keyT3 (termsOf p m (lkeys m))) e = _
  by_cases hc : cN p (mget ex i64 m e) = 0
  · rw [coT_none fun t ht q => by
      have := (term1_mem.1 (perm.mem_iff.1 ht)).2.1
      rw [q] at this; exact this hc]
    rw [cN_md h1 h2] at hc
    exact hc.symm
  · have hk' : e ∈ lkeys m := by
      by_cases q : e ∈ lkeys m
      · exact q
      · rw [mget_none q] at hc; exact absurd (cN_zero h1 h2) hc
    have mem : ((e, cN p (mget ex i64 m e), ()) : term.den) ∈ sortK keyT3 (termsOf p m (lkeys m)) := perm.mem_iff.2 (term1_mem.2 ⟨hk', hc, rfl⟩)
    have := coT_mem can mem
    rw [show coT (sortK keyT3 (termsOf p m (lkeys m))) e = cN p (mget ex i64 m e) from this]
    exact cN_md h1 h2

end Go.Proofs.YtkoifikjfnbcpaaEv
