/- Lists of polynomials in the laws: counted, copied, compared, marked. -/
import Derived.Test.YtkoifikjfnbcpaaEvPV
import Derived.Test.YtkoifikjfnbcpaaEvLp
import Derived.Test.YtkoifikjfnbcpaaEvGm
import Derived.Test.YtkoifikjfnbcpaaEvNestE
set_option linter.unusedVariables false
set_option linter.unusedSimpArgs false
namespace Go.Proofs.YtkoifikjfnbcpaaEv
open Go Go.RowKit Go.Proofs

abbrev Po : Type := poly.den
def tms (x : Po) : List term.den := x.2.2.1

def cf181 : G181 := fun x => some (x.1, ())
theorem k181 : KOne Try.prog 181 ⟨[.v ex], [ex], false, false, 0, cf181⟩ := ok181 .nil cf181 fun x y h => by
  obtain ⟨⟨a, b, c, u⟩, _⟩ := x
  injection h with h; subst h
  exact ⟨5, rfl⟩
def cf168 : G168 := fun x => some (x.1, ())
theorem k168 : KOne Try.prog 168 ⟨[.v lterm], [term], false, false, 0, cf168⟩ := ok168 _ (.cons k181 .nil) cf168 fun x y h => by
  obtain ⟨⟨a, b, u⟩, _⟩ := x
  injection h with h; subst h
  exact ⟨0, rfl⟩

theorem copy_setG {α : Type} {l : List α} {i : Nat} {d d' : α} (h : i < l.length) : (l.take i ++ List.replicate (l.length - i) d).set i (l.getD i d') = l.take (i + 1) ++ List.replicate (l.length - (i + 1)) d := by
  apply List.ext_getElem?
  intro j
  rw [List.getElem?_set]
  have hl : (l.take i).length = i := by simp; omega
  have hl2 : (l.take (i + 1)).length = i + 1 := by simp; omega
  by_cases q : i = j
  · subst q
    rw [if_pos rfl, if_pos (by simp; omega), List.getElem?_append_left (by omega), List.getElem?_take_of_lt (by omega), List.getD_eq_getElem?_getD, List.getElem?_eq_getElem h]; rfl
  · rw [if_neg q]
    rcases Nat.lt_or_ge j i with z | z
    · rw [List.getElem?_append_left (by omega), List.getElem?_append_left (by omega), List.getElem?_take_of_lt z, List.getElem?_take_of_lt (by omega)]
    · rw [List.getElem?_append_right (by omega), List.getElem?_append_right (by omega), hl, hl2, List.getElem?_replicate, List.getElem?_replicate]
      by_cases y : j < l.length
      · rw [if_pos (by omega), if_pos (by omega)]
      · rw [if_neg (by omega), if_neg (by omega)]

def cf136 : G136 := fun x => if (show List term.den from x.1).length ≤ 2000000 then some (x.1, ()) else none
theorem k136 : KOne Try.prog 136 ⟨[.v (.slice 158 lterm)], [.slice 135 term], true, false, 0, cf136⟩ := ok136 _ (.cons k168 .nil) cf136 fun x y h => by
  obtain ⟨l, _⟩ := x
  change List term.den at l
  simp only [cf136] at h
  split at h
  · rename_i hc
    injection h with h; subst h
    refine ⟨l.length + 1, ?_⟩
    simp only [fn136]
    rw [dln_t (by omega)]
    simp only [cond_true, ofn]
    rw [dle_t (by omega), dle_t (by omega)]
    simp only [decide_true, Bool.and_self, cond_true, tn_cast, ru136_3]
    refine iter_run (step := fun s k => st136_3 cf168 (l.length + 1) s k (fun s' => match s' with | ((t0, _), (t3, _), (t4, _), _) => (some (t3, ())))) (r := some (l, ())) l.length (l.length + 1) (fun i => ((l, ()), ((l.take i ++ List.replicate (l.length - i) (Ty.dflt term), ()), ((i : Int), ()), ()))) (by omega) (fun i hi k => ?_) (fun k => ?_)
    · have h1 : (l.take i ++ List.replicate (l.length - i) (Ty.dflt term)).length = l.length := by simp; omega
      have h2 := fun d' => copy_setG (d := Ty.dflt term) (d' := d') hi
      generalize hL : l.take i ++ List.replicate (l.length - i) (Ty.dflt term) = L at *
      simp (disch := omega) only [st136_3, dln_t, cond_true, ofn, dlt_t, ib_t, tn_cast, w6_id, cf168, h2]
      rfl
    · have h1 : l.take l.length ++ List.replicate (l.length - l.length) (Ty.dflt term) = l := by simp
      rw [h1]
      simp (disch := omega) only [st136_3, dln_t, cond_true, ofn, dlt_f, cond_false]
  · cases h
def cf66 : G66 := fun x => if (show List term.den from x.1.2.2.1).length ≤ 2000000 then some (x.1, ()) else none
theorem k66 : KOne Try.prog 66 ⟨[.v lpoly], [poly], true, false, 0, cf66⟩ := ok66 _ (.cons k136 .nil) cf66 fun x y h => by
  obtain ⟨⟨p, v, l, u⟩, _⟩ := x
  simp only [cf66] at h
  split at h
  · rename_i hc
    injection h with h; subst h
    refine ⟨0, ?_⟩
    have g : cf136 (l, ()) = some (l, ()) := if_pos hc
    simp only [fn66, g]
  · cases h
def smallP (L : List Po) : Prop := L.length ≤ 2000000 ∧ ∀ x ∈ L, (tms x).length ≤ 2000000
open Classical in
noncomputable def cf23 : G23 := fun x => if smallP x.1 then some (x.1, ()) else none
theorem k23 : KOne Try.prog 23 ⟨[.v (.slice 84 lpoly)], [.slice 58 poly], true, false, 0, cf23⟩ := ok23 _ (.cons k66 .nil) cf23 fun x y h => by
  obtain ⟨l, _⟩ := x
  change List Po at l
  simp only [cf23] at h
  split at h
  · rename_i hc
    injection h with h; subst h
    obtain ⟨hc, hx⟩ := hc
    have hc : l.length ≤ 2000000 := hc
    refine ⟨l.length + 1, ?_⟩
    simp only [fn23]
    rw [dln_t (by omega)]
    simp only [cond_true, ofn]
    rw [dle_t (by omega), dle_t (by omega)]
    simp only [decide_true, Bool.and_self, cond_true, tn_cast, ru23_3]
    refine iter_run (step := fun s k => st23_3 cf66 (l.length + 1) s k (fun s' => match s' with | ((t0, _), (t3, _), (t4, _), _) => (some (t3, ())))) (r := some (l, ())) l.length (l.length + 1) (fun i => ((l, ()), ((l.take i ++ List.replicate (l.length - i) (Ty.dflt poly), ()), ((i : Int), ()), ()))) (by omega) (fun i hi k => ?_) (fun k => ?_)
    · have h1 : (l.take i ++ List.replicate (l.length - i) (Ty.dflt poly)).length = l.length := by simp; omega
      have h2 := fun d' => copy_setG (d := Ty.dflt poly) (d' := d') hi
      have g : ∀ d', cf66 (l.getD i d', ()) = some (l.getD i d', ()) := fun d' => if_pos (hx _ (by rw [List.getD_eq_getElem?_getD, List.getElem?_eq_getElem hi]; exact List.getElem_mem hi))
      generalize hL : l.take i ++ List.replicate (l.length - i) (Ty.dflt poly) = L at *
      simp (disch := omega) only [st23_3, dln_t, cond_true, ofn, dlt_t, ib_t, tn_cast, w6_id]
      show (match cf66 (l.getD i (Ty.dflt lpoly), ()) with | some r10 => _ | none => none) = _
      rw [g]
      show k ((l, ()), ((L.set i (l.getD i (Ty.dflt lpoly)), ()), (((i : Int) + 1), ()), ())) = _
      rw [h2]
      rfl
    · have h1 : l.take l.length ++ List.replicate (l.length - l.length) (Ty.dflt poly) = l := by simp
      rw [h1]
      simp (disch := omega) only [st23_3, dln_t, cond_true, ofn, dlt_f, cond_false]
  · cases h
theorem g23_ok {L : List Po} (h : smallP L) : cf23 (L, ()) = some (L, ()) := if_pos h

/-! counted -/
def cf134 : G134 := fun x => if (show List term.den from x.1).length ≤ 9223372036854775807 ∧ 0 ≤ x.2.1 ∧ x.2.1 ≤ (1048576 : Int) then some (if x.2.1 - ((show List term.den from x.1).length : Int) < 0 then -1 else x.2.1 - ((show List term.den from x.1).length : Int), ()) else none
theorem k134 : KOne Try.prog 134 ⟨[.v (.slice 158 lterm), .v i64], [i64], false, false, 0, cf134⟩ := ok134 .nil cf134 fun x y h => by
  obtain ⟨l, k, _⟩ := x
  change List term.den at l
  change Int at k
  simp only [cf134] at h
  split at h
  · rename_i hc
    injection h with h; subst h
    obtain ⟨h1, h2, h3⟩ := hc
    have h2 : (0 : Int) ≤ k := h2
    have h3 : k ≤ (1048576 : Int) := h3
    refine ⟨0, ?_⟩
    simp only [fn134]
    rw [dln_t h1, cond_true]
    have hw := w6_id (x := k - (l.length : Int)) (by omega) (by omega)
    simp only [ofn, hw]
    by_cases q : k - (l.length : Int) < 0
    · rw [dlt_t q, if_pos q]; rfl
    · rw [dlt_f (by omega), if_neg q]; rfl
  · cases h
def cf63 : G63 := fun x => cf134 (x.1.2.2.1, x.2.1, ())
theorem k63 : KOne Try.prog 63 ⟨[.v lpoly, .v i64], [i64], false, false, 0, cf63⟩ := ok63 _ (.cons k134 .nil) cf63 fun x y h => by
  obtain ⟨⟨p, v, l, u⟩, k, _⟩ := x
  change List term.den at l
  change Int at k
  have h' : cf134 (l, k, ()) = some y := h
  refine ⟨0, ?_⟩
  show (match cf134 (l, k, ()) with | some r5 => (bif decide (r5.1 < (0 : Int)) then (some ((-(1 : Int)), ())) else (some (r5.1, ()))) | none => none) = _
  rw [h']
  simp only [cf134] at h'
  split at h'
  · injection h' with h'; subst h'
    by_cases q : k - (l.length : Int) < 0
    · rw [if_pos q]; rfl
    · rw [if_neg q]
      show (bif decide (k - (l.length : Int) < 0) then _ else _) = _
      rw [dlt_f (by omega)]; rfl
  · cases h'
def szR (k : Int) : List Po → Int
  | [] => k
  | x :: r => if k - ((tms x).length : Int) < 0 then -1 else szR (k - ((tms x).length : Int)) r
def totT : List Po → Nat
  | [] => 0
  | x :: r => (tms x).length + totT r
theorem szR_tot : ∀ {L : List Po} {k : Int}, 0 ≤ szR k L → (totT L : Int) ≤ k
  | [], k, h => by simp only [szR] at h; simpa [totT] using h
  | x :: r, k, h => by
    simp only [szR] at h
    split at h
    · omega
    · have := szR_tot h
      simp only [totT]; omega
theorem tot_mem : ∀ {L : List Po} {x : Po}, x ∈ L → (tms x).length ≤ totT L
  | y :: r, x, h => by
    simp only [totT]
    rcases List.mem_cons.1 h with rfl | h
    · omega
    · have := tot_mem h; omega
theorem run21 {F0 : Nat} : ∀ (r pre : List Po) (k : Int) (F : Nat), r.length < F → (pre ++ r).length ≤ 2000000 → (∀ x ∈ r, (tms x).length ≤ 9223372036854775807) → 0 ≤ k → k ≤ 1048576 →
    iter (fun s k => st21_5 cf63 F0 s k (fun s' => match s' with | ((t0, _), (t1, _), (t5, _), _) => (some (t1, ())))) F ((pre ++ r, ()), ((k, ()), (((pre.length : Int), ()), ()))) = some (szR k r, ())
  | [], pre, k, F, hF, hl, hx, h0, h1 => by
    obtain ⟨F, rfl⟩ : ∃ f, F = f + 1 := ⟨F - 1, by simp at hF; omega⟩
    rw [List.append_nil] at hl ⊢
    simp only [iter, st21_5]
    simp (disch := omega) only [dln_t, cond_true, ofn, dlt_f, cond_false]
    rfl
  | x :: r, pre, k, F, hF, hl, hx, h0, h1 => by
    obtain ⟨F, rfl⟩ : ∃ f, F = f + 1 := ⟨F - 1, by simp at hF; omega⟩
    have l1 : pre.length < (pre ++ x :: r).length := by simp
    have g1 : ∀ dd, (pre ++ x :: r).getD pre.length dd = x := fun dd => by rw [List.getD_eq_getElem?_getD, List.getElem?_append_right (Nat.le_refl _)]; simp
    have hx0 := hx x (.head _)
    have g : cf63 (x, k, ()) = some (if k - ((tms x).length : Int) < 0 then -1 else k - ((tms x).length : Int), ()) := if_pos ⟨hx0, h0, h1⟩
    simp only [iter, st21_5]
    simp (disch := omega) only [dln_t, cond_true, ofn, dlt_t, ib_t, tn_cast, w6_id]
    show (match cf63 ((pre ++ x :: r).getD pre.length (Ty.dflt lpoly), k, ()) with | some r12 => _ | none => none) = _
    rw [g1, g]
    simp only [szR]
    by_cases q : k - ((tms x).length : Int) < 0
    · rw [if_pos q, if_pos q]; rfl
    · rw [if_neg q, if_neg q]
      show (bif decide (k - ((tms x).length : Int) < 0) then _ else _) = _
      rw [dlt_f (by omega), cond_false]
      have ih := run21 (F0 := F0) r (pre ++ [x]) (k - ((tms x).length : Int)) F (by simp at hF; omega) (by simpa using hl) (fun z hz => hx z (.tail _ hz)) (by omega) (by omega)
      simp only [List.append_assoc, List.singleton_append, List.length_append, List.length_singleton] at ih
      exact ih
def sz21 (L : List Po) : Int := if (1048576 : Int) - (L.length : Int) < 0 then -1 else szR ((1048576 : Int) - (L.length : Int)) L
open Classical in
noncomputable def cf21 : G21 := fun x => if (show List Po from x.1).length ≤ 9223372036854775807 ∧ (∀ z ∈ (show List Po from x.1), (tms z).length ≤ 9223372036854775807) ∧ x.2.1 = (1048576 : Int) then some (sz21 x.1, ()) else none
theorem k21 : KOne Try.prog 21 ⟨[.v (.slice 84 lpoly), .v i64], [i64], false, false, 0, cf21⟩ := ok21 _ (.cons k63 .nil) cf21 fun x y h => by
  obtain ⟨L, k, _⟩ := x
  change List Po at L
  change Int at k
  simp only [cf21] at h
  split at h
  · rename_i hc
    injection h with h; subst h
    obtain ⟨h1, h2, h3⟩ := hc
    have h3 : k = (1048576 : Int) := h3
    have h1 : L.length ≤ 9223372036854775807 := h1
    subst h3
    refine ⟨L.length + 1, ?_⟩
    simp only [fn21]
    rw [dln_t h1, cond_true]
    have hw := w6_id (x := (1048576 : Int) - (L.length : Int)) (by omega) (by omega)
    simp only [ofn, hw]
    unfold sz21
    by_cases q : (1048576 : Int) - (L.length : Int) < 0
    · rw [dlt_t q, if_pos q]; rfl
    · rw [dlt_f (by omega), if_neg q, cond_false]
      simp only [ru21_5]
      exact run21 L [] _ (L.length + 1) (by omega) (by simp; omega) h2 (by omega) (by omega)
  · cases h
theorem g21_ok {L : List Po} (h1 : L.length ≤ 9223372036854775807) (h2 : ∀ z ∈ L, (tms z).length ≤ 9223372036854775807) : cf21 (L, (1048576 : Int), ()) = some (sz21 L, ()) := if_pos ⟨h1, h2, rfl⟩
theorem sz21_small {L : List Po} (h : 0 ≤ sz21 L) : L.length ≤ 1048576 ∧ totT L ≤ 1048576 := by
  unfold sz21 at h
  split at h
  · omega
  · have := szR_tot h; omega
theorem smallP_of {L : List Po} (h : L.length ≤ 1048576 ∧ totT L ≤ 1048576) : smallP L := ⟨by omega, fun x hx => by have := tot_mem hx; omega⟩

/-! compared -/
theorem run26 {L : List Po} (hs : smallP L) {F0 : Nat} : ∀ (r pre : List Po) (F : Nat), r.length < F → pre ++ r = L →
    iter (fun s k => st26_4 cf39 F0 s k (fun s' => match s' with | ((t0, _), (t1, _), (t5, _), _) => (some (true, ())))) F ((L, ()), ((L, ()), (((pre.length : Int), ()), ()))) = some (true, ())
  | [], pre, F, hF, e => by
    obtain ⟨F, rfl⟩ : ∃ f, F = f + 1 := ⟨F - 1, by simp at hF; omega⟩
    have hL := hs.1
    rw [List.append_nil] at e; subst e
    simp only [iter, st26_4]
    simp (disch := omega) only [dln_t, cond_true, ofn, dlt_f, cond_false]
  | x :: r, pre, F, hF, e => by
    obtain ⟨F, rfl⟩ : ∃ f, F = f + 1 := ⟨F - 1, by simp at hF; omega⟩
    have hL := hs.1
    have l1 : pre.length < L.length := by rw [← e]; simp
    have g1 : ∀ dd, L.getD pre.length dd = x := fun dd => by rw [← e, List.getD_eq_getElem?_getD, List.getElem?_append_right (Nat.le_refl _)]; simp
    have hx : (tms x).length ≤ 2000000 := hs.2 x (by rw [← e]; simp)
    have g : cf39 (x, x, ()) = some (true, ()) := if_pos ⟨rfl, rfl, rfl, hx⟩
    simp only [iter, st26_4]
    simp (disch := omega) only [dln_t, cond_true, ofn, dlt_t, ib_t, tn_cast, w6_id]
    show (match cf39 (L.getD pre.length (Ty.dflt poly), L.getD pre.length (Ty.dflt poly), ()) with | some r11 => _ | none => none) = _
    rw [g1, g]
    have ih := run26 hs (F0 := F0) r (pre ++ [x]) F (by simp at hF; omega) (by simpa using e)
    simp only [List.length_append, List.length_singleton] at ih
    exact ih
open Classical in
noncomputable def cf26 : G26 := fun x => if (show List Po from x.1) = x.2.1 ∧ smallP x.1 then some (true, ()) else none
theorem k26 : KOne Try.prog 26 ⟨[.v (.slice 58 poly), .v (.slice 58 poly)], [.bool], false, false, 0, cf26⟩ := ok26 _ (.cons k39 .nil) cf26 fun x y h => by
  obtain ⟨L, M, _⟩ := x
  change List Po at L
  change List Po at M
  simp only [cf26] at h
  split at h
  · rename_i hc
    injection h with h; subst h
    obtain ⟨c0, hs⟩ := hc
    have c0 : L = M := c0
    have hs : smallP L := hs
    subst c0
    have hL := hs.1
    refine ⟨L.length + 1, ?_⟩
    simp (disch := omega) only [fn26, dln_t, cond_true, ofn, ru26_4]
    simp only [decide_true, Bool.not_true, cond_false]
    exact run26 hs L [] (L.length + 1) (by omega) rfl
  · cases h
theorem g26_ok {L : List Po} (h : smallP L) : cf26 (L, L, ()) = some (true, ()) := if_pos ⟨rfl, h⟩

/-! marked -/
theorem wr1_i {k : Int} (h : 0 ≤ k ∧ k ≤ 1000000000000) : wr1 k = k + 1 := by
  show w6 (k + 1) = _
  exact w6_id (by omega) (by omega)
theorem fold27 : ∀ {L : List Po} {k : Int}, (∀ x ∈ L, (tms x).length ≤ 2000000) → 0 ≤ k → k + 2 * (L.length : Int) + 4 * (totT L : Int) ≤ 10000000000 → ∃ z, foldM27 cf70 L k = some (z, k + 2 * (L.length : Int) + 4 * (totT L : Int))
  | [], k, _, _, _ => ⟨[], by simp [foldM27, totT]⟩
  | x :: r, k, hx, h0, h1 => by
    simp only [totT, List.length_cons] at h1
    have e1 := wr1_i (k := k) (by omega)
    have e2 := wr1_i (k := k + 1) (by omega)
    have g : cf70 (tms x, k + 2, ()) = some (mkT (k + 2) (tms x).length, k + 2 + 4 * ((tms x).length : Int), ()) := if_pos ⟨hx x (.head _), by show (0 : Int) ≤ k + 2; omega, by show k + 2 ≤ (10000000000 : Int); omega⟩
    obtain ⟨z, hz⟩ := fold27 (L := r) (k := k + 2 + 4 * ((tms x).length : Int)) (fun y hy => hx y (.tail _ hy)) (by omega) (by omega)
    refine ⟨(k, k + 1, mkT (k + 2) (tms x).length, ()) :: z, ?_⟩
    simp only [foldM27, e1, e2]
    rw [show k + 1 + 1 = k + 2 by omega, show cf70 (x.2.2.1, k + 2, ()) = cf70 (tms x, k + 2, ()) from rfl, g]
    simp only [hz, totT, List.length_cons, Option.some.injEq, Prod.mk.injEq, true_and]
    omega
open Classical in
noncomputable def cf27 : G27 := fun x => if smallP x.1 ∧ x.2.1 = (1 : Int) ∧ totT x.1 ≤ 2000000 then (match foldM27 cf70 x.1 1 with | some z => some (z.1, z.2, ()) | none => none) else none
theorem k27 : KOne Try.prog 27 ⟨[.v (.slice 58 poly), .v i64], [.slice 58 poly, i64], false, false, 1, cf27⟩ := one27 (cf := cf27) k70 fun x y h => by
  obtain ⟨L, k, _⟩ := x
  change List Po at L
  change Int at k
  simp only [cf27] at h
  split at h
  · rename_i hc
    obtain ⟨hs, hk, _⟩ := hc
    have hk : k = 1 := hk
    subst hk
    split at h
    · rename_i z hz
      injection h with h; subst h
      have hs1 : L.length ≤ 2000000 := hs.1
      exact ⟨Nat.le_trans hs1 (by omega), z, hz, rfl⟩
    · cases h
  · cases h
theorem g27_ok {L : List Po} (h : L.length ≤ 1048576 ∧ totT L ≤ 1048576) : ∃ (M : List Po) (n : Int), cf27 (L, (1 : Int), ()) = some (M, n, ()) ∧ 0 ≤ n ∧ n ≤ 1000000000 := by
  have hs := smallP_of h
  obtain ⟨z, hz⟩ := fold27 (L := L) (k := 1) hs.2 (by omega) (by omega)
  refine ⟨z, 1 + 2 * (L.length : Int) + 4 * (totT L : Int), ?_, ?_, ?_⟩
  · have : cf27 (L, (1 : Int), ()) = (match foldM27 cf70 L 1 with | some z => some (z.1, z.2, ()) | none => none) := if_pos ⟨hs, rfl, by show totT L ≤ 2000000; omega⟩
    rw [this, hz]
  · show (0 : Int) ≤ 1 + 2 * (L.length : Int) + 4 * (totT L : Int); omega
  · show 1 + 2 * (L.length : Int) + 4 * (totT L : Int) ≤ (1000000000 : Int); omega

end Go.Proofs.YtkoifikjfnbcpaaEv
