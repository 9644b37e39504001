/- Dickson invariants: the program and the reference say the same, and the law gives true. -/
import Derived.Test.YtkoifikjfnbcpaaEvPV
import Derived.Test.YtkoifikjfnbcpaaEvMD
import Derived.Test.YtkoifikjfnbcpaaEvL8
set_option linter.unusedVariables false
set_option linter.unusedSimpArgs false
namespace Go.Proofs.YtkoifikjfnbcpaaEv
open Go Go.RowKit Go.Proofs

def pwI (p : Int) : Nat → Int
  | 0 => 1
  | k + 1 => pwI p k * p
theorem pwI_rng {p : Int} (hp : 2 ≤ p ∧ p ≤ 13) : ∀ {k : Nat}, k ≤ 3 → 1 ≤ pwI p k ∧ pwI p k ≤ 2197
  | 0, _ => by simp [pwI]
  | 1, _ => by simp only [pwI]; omega
  | 2, _ => by
    have h := sq_rng' hp hp
    simp only [pwI, Int.one_mul]; omega
  | 3, _ => by
    have h := sq_rng' hp hp
    have h2 : 4 * p ≤ p * p * p := Int.mul_le_mul_of_nonneg_right h.1 (by omega)
    have h3 : p * p * p ≤ 169 * p := Int.mul_le_mul_of_nonneg_right h.2 (by omega)
    simp only [pwI, Int.one_mul]; omega
where
  sq_rng' {p q : Int} (hp : 2 ≤ p ∧ p ≤ 13) (hq : 2 ≤ q ∧ q ≤ 13) : 4 ≤ p * q ∧ p * q ≤ 169 := by
    have h1 : 2 * q ≤ p * q := Int.mul_le_mul_of_nonneg_right hp.1 (by omega)
    have h2 : p * q ≤ 13 * q := Int.mul_le_mul_of_nonneg_right hp.2 (by omega)
    omega
theorem pwI_mono {p : Int} (hp : 2 ≤ p ∧ p ≤ 13) {i n : Nat} (hn : n ≤ 3) (h : i ≤ n) : pwI p i ≤ pwI p n := by
  induction n with
  | zero =>
    have : i = 0 := by omega
    subst this
    exact Int.le_refl _
  | succ n ih =>
    by_cases q : i = n + 1
    · subst q; exact Int.le_refl _
    · have h1 := ih (by omega) (by omega)
      have h2 := (pwI_rng hp (k := n) (by omega)).1
      have : pwI p n * 1 ≤ pwI p n * p := Int.mul_le_mul_of_nonneg_left (by omega) (by omega)
      simp only [pwI]; omega
noncomputable def cf101 : G101 := by
  classical exact fun x => if (2 ≤ x.1 ∧ x.1 ≤ 13) ∧ 0 ≤ x.2.1 ∧ x.2.1 ≤ 3 then some (pwI x.1 (tn x.2.1), ()) else none
theorem k101 : KOne Try.prog 101 ⟨[.v i64, .v i64], [i64], false, false, 0, cf101⟩ := ok101 .nil cf101 fun x y h => by
  obtain ⟨p, n, _⟩ := x
  simp only [cf101] at h
  split at h
  · rename_i hc
    injection h with h; subst h
    obtain ⟨hp, h0, h3⟩ := hc
    obtain ⟨m, rfl⟩ := Int.eq_ofNat_of_zero_le h0
    have hm : m ≤ 3 := by
      have h3 : (m : Int) ≤ 3 := h3
      omega
    refine ⟨5, ?_⟩
    have key := iter_run (step := fun s k => st101_3 5 s k (fun s' => match s' with | ((t0, _), (t5, _), (t6, _), (t7, _), _) => (some (t5, ())))) (r := some (pwI p m, ())) m 5
      (fun i => ((p, ()), ((pwI p i, ()), (((m : Int), ()), (((i : Int), ()), ()))))) (by omega) (fun i hi k => ?_) (fun k => ?_)
    · exact key
    · have h1 := pwI_rng hp (k := i) (by omega)
      have h2 := pwI_rng hp (k := i + 1) (by omega)
      have wi : w6 ((i : Int) + 1) = ((i + 1 : Nat) : Int) := by rw [w6_i (by omega) (by omega)]; rfl
      have e : pwI p (i + 1) = pwI p i * p := rfl
      rw [e] at h2 ⊢
      have wk : w6 (pwI p i * p) = pwI p i * p := w6_i (by omega) (by omega)
      simp (disch := omega) only [st101_3, dlt_t, dlt_f, cond_true, cond_false, wk, wi]
    · simp (disch := omega) only [st101_3, dlt_f, cond_false]
  · cases h
theorem g101_ok {p : Int} {m : Nat} (hp : 2 ≤ p ∧ p ≤ 13) (hm : m ≤ 3) : cf101 (p, (m : Int), ()) = some (pwI p m, ()) := if_pos (show (2 ≤ p ∧ p ≤ 13) ∧ (0 : Int) ≤ (m : Int) ∧ (m : Int) ≤ 3 from ⟨hp, by omega, by omega⟩)

/-! ### digits -/
def rsK (p v : Int) : Nat → Int
  | 0 => v
  | k + 1 => rsK p v k / p
theorem rsK_rng {p v : Int} (hp : 0 < p) (hv : 0 ≤ v ∧ v ≤ 13) : ∀ {k : Nat}, 0 ≤ rsK p v k ∧ rsK p v k ≤ 13
  | 0 => hv
  | k + 1 => by
    have h := rsK_rng hp hv (k := k)
    have h1 : 0 ≤ rsK p v k / p := Int.ediv_nonneg h.1 (by omega)
    have h2 : rsK p v k / p ≤ rsK p v k := Int.ediv_le_self _ h.1
    simp only [rsK]; omega
def digF (p v : Int) : Nat → Int := fun k => rsK p v k % p
def formD (p : Int) (n : Nat) (v : Int) : List term.den := linP p (digF p v) n
theorem formD_can {p v : Int} {n : Nat} (hp : 0 < p) (hn : n ≤ 3) : CanT p (formD p n v) ∧ DegLe 1 (formD p n v) := ⟨(linP_can hp hn).1, linP_deg hp hn⟩
theorem rsK_zero {p : Int} : ∀ {k : Nat}, rsK p 0 k = 0
  | 0 => rfl
  | k + 1 => by simp only [rsK, rsK_zero (k := k)]; simp
theorem formD_zero {p : Int} (hp : 0 < p) : ∀ {n : Nat}, n ≤ 3 → formD p n 0 = []
  | 0, _ => rfl
  | n + 1, h => by
    have : linP p (digF p 0) (n + 1) = linP p (digF p 0) n := linP_skip hp h (by simp [digF, rsK_zero])
    show linP p (digF p 0) (n + 1) = []
    rw [this]; exact formD_zero hp (by omega)

/-! ### the coefficients -/
def nextP (p : Int) (cs : List (List term.den)) (f : List term.den) : List (List term.den) := (List.range (cs.length + 1)).map fun j => plusP p 1 (timesP p (cs.getD j []) f) (if j = 0 then [] else cs.getD (j - 1) [])
def dl (p : Int) (n : Nat) : Nat → List (List term.den)
  | 0 => [oneP p e0 1]
  | s + 1 => nextP p (dl p n s) (formD p n s)
structure DI (p : Int) (s : Nat) (cs : List (List term.den)) : Prop where
  len : cs.length = s + 1
  can : ∀ j, j ≤ s → CanT p (cs.getD j []) ∧ DegLe ((s : Int) - (j : Int)) (cs.getD j [])
  zero : 1 ≤ s → cs.getD 0 [] = []
theorem nextP_len {p : Int} {cs : List (List term.den)} {f : List term.den} : (nextP p cs f).length = cs.length + 1 := by simp [nextP]
theorem nextP_get {p : Int} {cs : List (List term.den)} {f : List term.den} {j : Nat} (h : j ≤ cs.length) : (nextP p cs f).getD j [] = plusP p 1 (timesP p (cs.getD j []) f) (if j = 0 then [] else cs.getD (j - 1) []) := by
  simp [nextP, List.getD_eq_getElem?_getD, List.getElem?_range (show j < cs.length + 1 by omega)]
theorem getD_out {α : Type} {l : List (List α)} {j : Nat} (h : l.length ≤ j) : l.getD j [] = [] := by simp [List.getD_eq_getElem?_getD, List.getElem?_eq_none h]
theorem deg_nil {d : Int} : DegLe d [] := fun t h => (by cases h)
theorem DI.all {p : Int} {s : Nat} {cs : List (List term.den)} (h : DI p s cs) (hs : s ≤ 13) (j : Nat) : CanT p (cs.getD j []) ∧ DegLe 13 (cs.getD j []) := by
  rcases Nat.lt_or_ge s j with q | q
  · rw [getD_out (by rw [h.len]; omega)]; exact ⟨can_nil, deg_nil⟩
  · exact ⟨(h.can j q).1, (h.can j q).2.mono (by omega)⟩
theorem DI.next {p : Int} {s n : Nat} {cs : List (List term.den)} (hp : 0 < p) (hn : n ≤ 3) (hs : s ≤ 12) (h : DI p s cs) : DI p (s + 1) (nextP p cs (formD p n s)) := by
  obtain ⟨f1, f2⟩ := formD_can (p := p) (v := (s : Int)) hp hn
  refine ⟨by rw [nextP_len, h.len], fun j hj => ?_, fun _ => ?_⟩
  · rw [nextP_get (by rw [h.len]; omega)]
    have tj : CanT p (timesP p (cs.getD j []) (formD p n s)) ∧ DegLe (((s + 1 : Nat) : Int) - (j : Int)) (timesP p (cs.getD j []) (formD p n s)) := by
      rcases Nat.lt_or_ge s j with q | q
      · rw [getD_out (by rw [h.len]; omega)]; exact ⟨can_nil, deg_nil⟩
      · obtain ⟨c1, c2⟩ := h.can j q
        refine ⟨(timesP_can hp (small c1 c2 (by omega)) (small f1 f2 (by omega))).1, (timesP_deg hp c1 f1 c2 f2 (by omega) (by omega)).mono (by omega)⟩
    have pj : CanT p (if j = 0 then [] else cs.getD (j - 1) []) ∧ DegLe (((s + 1 : Nat) : Int) - (j : Int)) (if j = 0 then [] else cs.getD (j - 1) []) := by
      by_cases q : j = 0
      · rw [if_pos q]; exact ⟨can_nil, deg_nil⟩
      · rw [if_neg q]
        obtain ⟨c1, c2⟩ := h.can (j - 1) (by omega)
        exact ⟨c1, c2.mono (by omega)⟩
    exact ⟨(plusP_can hp tj.1 pj.1).1, plusP_deg hp tj.1 pj.1 tj.2 pj.2⟩
  · rw [nextP_get (by omega), if_pos rfl]
    show timesP p (cs.getD 0 []) (formD p n s) = []
    rcases Nat.eq_zero_or_pos s with q | q
    · subst q
      have : formD p n ((0 : Nat) : Int) = [] := formD_zero hp hn
      rw [this]; exact timesP_nil_r _ _
    · rw [h.zero q]; rfl
theorem DI.fits {p : Int} {s n j : Nat} {cs : List (List term.den)} (hp : 0 < p) (hn : n ≤ 3) (hs : s ≤ 12) (h : DI p s cs) (hj : j ≤ s) : fits (cs.getD j []) (formD p n s) = true ∧ DegLe 12 (cs.getD j []) := by
  obtain ⟨f1, f2⟩ := formD_can (p := p) (v := (s : Int)) hp hn
  obtain ⟨c1, c2⟩ := h.can j hj
  refine ⟨?_, c2.mono (by omega)⟩
  have r1 := degI_le c2 (by omega)
  have r2 := degI_le f2 (by omega)
  rcases Nat.eq_zero_or_pos j with q | q
  · subst q
    rcases Nat.eq_zero_or_pos s with z | z
    · subst z
      have : formD p n ((0 : Nat) : Int) = [] := formD_zero hp hn
      show (decide (cs.getD 0 [] = []) || decide (formD p n ((0 : Nat) : Int) = []) || _) = true
      rw [this]; simp
    · show (decide (cs.getD 0 [] = []) || decide (formD p n (s : Int) = []) || _) = true
      rw [h.zero z]; simp
  · simp only [_root_.Go.Proofs.YtkoifikjfnbcpaaEv.fits, Bool.or_eq_true, decide_eq_true_eq]
    right; omega
theorem dl_DI {p : Int} {n : Nat} (hp : 0 < p) (hn : n ≤ 3) : ∀ {s : Nat}, s ≤ 13 → DI p s (dl p n s)
  | 0, _ => by
    have e : (dl p n 0).getD 0 [] = oneP p e0 1 := rfl
    obtain ⟨h1, h2⟩ := putP_can (x := 1) (ts := []) hp can_nil okX_e0
    refine ⟨rfl, fun j hj => ?_, fun h => by omega⟩
    obtain rfl : j = 0 := by omega
    rw [e]
    refine ⟨h1, degLe_of h1 fun e he => ?_⟩
    show coT (putP p [] e0 1) e = 0
    rw [h2]
    by_cases q : e = e0
    · subst q; rw [show degX e0 = 0 from rfl] at he; simp at he
    · rw [if_neg q]; rfl
  | s + 1, h => (dl_DI hp hn (s := s) (by omega)).next hp hn (by omega)

end Go.Proofs.YtkoifikjfnbcpaaEv
