/- The reference's test of a matrix is the program's. -/
import Derived.Test.YtkoifikjfnbcpaaEvPD
set_option linter.unusedVariables false
set_option linter.unusedSimpArgs false
namespace Go.Proofs.YtkoifikjfnbcpaaEv
open Go Go.RowKit

noncomputable def cf129 : Args [.v i64, .v i64, .v mat] → Option R129 := fn129 cf108 cf153 8
theorem k129 : KOne Try.prog 129 ⟨[.v i64, .v i64, .v mat], [mat, .bool], false, false, 0, cf129⟩ := ok129 _ _ (.cons k108 (.cons k153 .nil)) cf129 fun x y h => ⟨8, h⟩

def rowsL (n : Int) (g : Mat) : List (List Int) :=
  if n = 1 then [[me g 0 0, 1]] else if n = 2 then [[me g 0 0, me g 0 1, 1, 0], [me g 1 0, me g 1 1, 0, 1]]
  else [[me g 0 0, me g 0 1, me g 0 2, 1, 0, 0], [me g 1 0, me g 1 1, me g 1 2, 0, 1, 0], [me g 2 0, me g 2 1, me g 2 2, 0, 0, 1]]
theorem w6_me {g : Mat} (hg : okM g = true) (i j : Nat) : w6 (tget (0 : Int) 3 (tget (Ty.dflt (.arr 3 (.int .u8))) 3 g i) j) = me g i j := by
  have := me_rng hg i j
  rw [show tget (0 : Int) 3 (tget (Ty.dflt (.arr 3 (.int .u8))) 3 g i) j = me g i j from rfl]
  exact w6_id (by omega) (by omega)
theorem build129 {p n : Int} {g M : Mat} (hg : okM g = true) (hn : n = 1 ∨ n = 2 ∨ n = 3) {g108 : Args [.v i64, .v (.slice 24 (.slice 2 i64))] → Option (Ress [.slice 24 (.slice 2 i64)])} {g153 : Args [.v (.slice 2 i64)] → Option (Ress [i64])} {kx : ShVal sh129_3 → Option R129} :
    iter (fun s k => st129_3 g108 g153 8 s k kx) 8 ((p, ()), ((n, ()), ((g, ()), ((M, ()), (([], ()), (((0 : Int), ()), ())))))) = kx ((p, ()), ((n, ()), ((g, ()), ((M, ()), ((rowsL n g, ()), ((n, ()), ())))))) := by
  have W : ∀ i j, w6 (me g i j) = me g i j := w6_me hg
  rcases hn with rfl | rfl | rfl
  · have e : iter (fun s k => st129_3 g108 g153 8 s k kx) 8 ((p, ()), (((1 : Int), ()), ((g, ()), ((M, ()), (([], ()), (((0 : Int), ()), ())))))) = kx ((p, ()), (((1 : Int), ()), ((g, ()), ((M, ()), (([[w6 (me g 0 0), 1]], ()), (((1 : Int), ()), ())))))) := by kernel_rfl
    rw [e]; simp only [W]; rfl
  · have e : iter (fun s k => st129_3 g108 g153 8 s k kx) 8 ((p, ()), (((2 : Int), ()), ((g, ()), ((M, ()), (([], ()), (((0 : Int), ()), ())))))) = kx ((p, ()), (((2 : Int), ()), ((g, ()), ((M, ()), (([[w6 (me g 0 0), w6 (me g 0 1), 1, 0], [w6 (me g 1 0), w6 (me g 1 1), 0, 1]], ()), (((2 : Int), ()), ())))))) := by kernel_rfl
    rw [e]; simp only [W]; rfl
  · have e : iter (fun s k => st129_3 g108 g153 8 s k kx) 8 ((p, ()), (((3 : Int), ()), ((g, ()), ((M, ()), (([], ()), (((0 : Int), ()), ())))))) = kx ((p, ()), (((3 : Int), ()), ((g, ()), ((M, ()), (([[w6 (me g 0 0), w6 (me g 0 1), w6 (me g 0 2), 1, 0, 0], [w6 (me g 1 0), w6 (me g 1 1), w6 (me g 1 2), 0, 1, 0], [w6 (me g 2 0), w6 (me g 2 1), w6 (me g 2 2), 0, 0, 1]], ()), (((3 : Int), ()), ())))))) := by kernel_rfl
    rw [e]; simp only [W]; rfl

theorem can_of {p : Int} {m : Nat} {r : List Int} (hp : 0 < p) (hl : r.length = m) (h : ∀ x ∈ r, 0 ≤ x ∧ x < p) : Can p m r := by
  refine ⟨hl, fun i => ?_⟩
  rcases Nat.lt_or_ge i r.length with q | q
  · rw [el_get q]; exact h _ (List.getElem_mem q)
  · rw [el_ge q]; omega
theorem cell_lt {p n i j v : Int} (h : cellB p n i j v = true) : v < p := by
  simp only [cellB, Bool.and_eq_true, decide_eq_true_eq] at h; exact h.1
theorem rng_lt {p n : Int} {g : Mat} (h : rngB p n g = true) : (me g 0 0 < p ∧ me g 0 1 < p ∧ me g 0 2 < p) ∧ (me g 1 0 < p ∧ me g 1 1 < p ∧ me g 1 2 < p) ∧ me g 2 0 < p ∧ me g 2 1 < p ∧ me g 2 2 < p := by
  simp only [rngB, rowB, Bool.and_eq_true] at h
  obtain ⟨⟨a, b, c⟩, ⟨d, e, f⟩, x, y, z⟩ := h
  exact ⟨⟨cell_lt a, cell_lt b, cell_lt c⟩, ⟨cell_lt d, cell_lt e, cell_lt f⟩, cell_lt x, cell_lt y, cell_lt z⟩

theorem rows_ok {p n : Int} {g : Mat} (hg : okM g = true) (hP : isP p = true) (hn : n = 1 ∨ n = 2 ∨ n = 3) (hr : rngB p n g = true) :
    (rowsL n g).length = tn n ∧ (∀ r ∈ rowsL n g, Can p (tn n + tn n) r) ∧ (∀ (i : Nat) (hi : i < (rowsL n g).length), ∀ l, l < tn n → el (rowsL n g)[i] (tn n + l) = if i = l then 1 else 0) ∧
      (∀ (i : Nat) (hi : i < (rowsL n g).length), ∀ j, j < tn n → el (rowsL n g)[i] j = me g i j) := by
  have hp := isP_pos hP
  have r := me_rng hg
  have l := rng_lt hr
  have z := fun i j => (r i j).1
  rcases hn with rfl | rfl | rfl
  · rw [show tn 1 = 1 from rfl]
    refine ⟨rfl, fun x hx => ?_, fun i hi l hl => ?_, fun i hi j hj => ?_⟩
    · simp only [rowsL, if_true, List.mem_singleton] at hx
      subst hx
      refine can_of (by omega) rfl fun y hy => ?_
      simp only [List.mem_cons, List.not_mem_nil, or_false] at hy
      rcases hy with rfl | rfl
      · exact ⟨z 0 0, l.1.1⟩
      · omega
    · simp [rowsL] at hi; subst hi
      obtain rfl : l = 0 := by omega
      rfl
    · simp [rowsL] at hi; subst hi
      obtain rfl : j = 0 := by omega
      rfl
  · rw [show tn 2 = 2 from rfl]
    have hi2 : ∀ i, i < (rowsL 2 g).length → i = 0 ∨ i = 1 := fun i hi => by simp [rowsL] at hi; omega
    refine ⟨rfl, fun x hx => ?_, fun i hi l hl => ?_, fun i hi j hj => ?_⟩
    · have hx : x = [me g 0 0, me g 0 1, 1, 0] ∨ x = [me g 1 0, me g 1 1, 0, 1] := by simpa [rowsL] using hx
      refine can_of (by omega) (by rcases hx with rfl | rfl <;> rfl) fun y hy => ?_
      have := z 0 0
      have := z 0 1
      have := z 1 0
      have := z 1 1
      rcases hx with rfl | rfl <;> (simp only [List.mem_cons, List.not_mem_nil, or_false] at hy; omega)
    · rcases hi2 i hi with rfl | rfl <;> (obtain rfl | rfl : l = 0 ∨ l = 1 := by omega) <;> rfl
    · rcases hi2 i hi with rfl | rfl <;> (obtain rfl | rfl : j = 0 ∨ j = 1 := by omega) <;> rfl
  · rw [show tn 3 = 3 from rfl]
    have hi2 : ∀ i, i < (rowsL 3 g).length → i = 0 ∨ i = 1 ∨ i = 2 := fun i hi => by simp [rowsL] at hi; omega
    refine ⟨rfl, fun x hx => ?_, fun i hi l hl => ?_, fun i hi j hj => ?_⟩
    · have hx : x = [me g 0 0, me g 0 1, me g 0 2, 1, 0, 0] ∨ x = [me g 1 0, me g 1 1, me g 1 2, 0, 1, 0] ∨ x = [me g 2 0, me g 2 1, me g 2 2, 0, 0, 1] := by simpa [rowsL] using hx
      refine can_of (by omega) (by rcases hx with rfl | rfl | rfl <;> rfl) fun y hy => ?_
      have := z 0 0
      have := z 0 1
      have := z 0 2
      have := z 1 0
      have := z 1 1
      have := z 1 2
      have := z 2 0
      have := z 2 1
      have := z 2 2
      rcases hx with rfl | rfl | rfl <;> (simp only [List.mem_cons, List.not_mem_nil, or_false] at hy; omega)
    · rcases hi2 i hi with rfl | rfl | rfl <;> (obtain rfl | rfl | rfl : l = 0 ∨ l = 1 ∨ l = 2 := by omega) <;> rfl
    · rcases hi2 i hi with rfl | rfl | rfl <;> (obtain rfl | rfl | rfl : j = 0 ∨ j = 1 ∨ j = 2 := by omega) <;> rfl

theorem iter_succ {S α : Type} {step : S → (S → Option α) → Option α} {f : Nat} {s : S} : iter step (f + 1) s = step s (iter step f) := rfl

/-- A row of the inverse written. -/
theorem row129 {N : Nat} (hN : N ≤ 3) {g : Mat} {out : List (List Int)} {i : Nat} (hi : i < N) (ho : i < out.length) (hl : (out.getD i []).length = N + N) (M : Mat) {g108 : Args [.v i64, .v (.slice 24 (.slice 2 i64))] → Option (Ress [.slice 24 (.slice 2 i64)])} {g153 : Args [.v (.slice 2 i64)] → Option (Ress [i64])} :
    ∃ M' : Mat, ∀ (F0 : Nat) (kx : ShVal sh129_21 → Option R129), iter (fun s k => st129_21 g108 g153 F0 s k kx) 8 (((N : Int), ()), ((g, ()), ((out, ()), ((M, ()), (((i : Int), ()), (((0 : Int), ()), ())))))) = kx (((N : Int), ()), ((g, ()), ((out, ()), ((M', ()), (((i : Int), ()), (((N : Int), ()), ())))))) := by
  let Mj : Nat → Mat := fun j => Nat.rec (motive := fun _ => Mat) M (fun j (m : Mat) => (tset (tset (w8 (List.getD (List.getD out i []) (tn ((N : Int) + (j : Int))) (0 : Int))) 3 (tget (Ty.dflt (.arr 3 (.int .u8))) 3 m i) j) 3 m i : Mat)) j
  refine ⟨Mj N, fun F0 kx => ?_⟩
  refine iter_run N 8 (fun j => (((N : Int), ()), ((g, ()), ((out, ()), ((Mj j, ()), (((i : Int), ()), (((j : Int), ()), ()))))))) (by omega) (fun j hj k => ?_) (fun k => ?_)
  · simp (disch := omega) only [st129_21, dlt_t, cond_true, ib_t, ofn, tn_cast, w6_id]
    rfl
  · simp (disch := omega) only [st129_21, dlt_f, cond_false]

theorem lead129 {p : Int} {N : Nat} (hN : N ≤ 3) {g : Mat} {out : List (List Int)} (rr : RR p (N + N) out) (hl : out.length = N) {g108 : Args [.v i64, .v (.slice 24 (.slice 2 i64))] → Option (Ress [.slice 24 (.slice 2 i64)])} : ∀ (k i : Nat) (M : Mat) (F : Nat), i + k = N → k < F →
    ∃ (M' : Mat) (b : Bool), iter (fun s k => st129_16 g108 cf153 8 s k (fun s' => match s' with | ((t1, _), (t6, _), (t12, _), (t13, _), (t14, _), _) => (some (t13, (true, ()))))) F (((N : Int), ()), ((g, ()), ((out, ()), ((M, ()), (((i : Int), ()), ()))))) = some (M', (b, ())) ∧
      (b = true ↔ ∀ (i' : Nat) (h : i' < out.length), i ≤ i' → ld out[i'] = i')
  | 0, i, M, F, hk, hF => by
    obtain ⟨F, rfl⟩ : ∃ f, F = f + 1 := ⟨F - 1, by omega⟩
    refine ⟨M, true, ?_, by simp; omega⟩
    rw [iter_succ]
    simp (disch := omega) only [st129_16, dlt_f, cond_false]
  | k + 1, i, M, F, hk, hF => by
    obtain ⟨F, rfl⟩ : ∃ f, F = f + 1 := ⟨F - 1, by omega⟩
    have hi : i < out.length := by omega
    have e : out.getD i [] = out[i] := by simp [List.getD_eq_getElem?_getD, List.getElem?_eq_getElem hi]
    have c := rr.can _ (List.getElem_mem hi)
    have lt := rr.lt _ (List.getElem_mem hi)
    have g1 := g153_ok (l := out[i]) (by rw [c.len]; omega)
    rw [ldI_lt c.len lt] at g1
    obtain ⟨M1, h1⟩ := row129 (N := N) hN (g := g) (out := out) (i := i) (by omega) hi (by rw [e]; exact c.len) M (g108 := g108) (g153 := cf153)
    obtain ⟨M2, b, h2, h3⟩ := lead129 hN rr hl (g := g) (g108 := g108) k (i + 1) M1 F (by omega) (by omega)
    by_cases q : ld out[i] = i
    · refine ⟨M2, b, ?_, h3.trans ⟨fun h i' hi' hle => ?_, fun h i' hi' hle => h i' hi' (by omega)⟩⟩
      · rw [iter_succ]
        generalize iter _ F = G at h2 ⊢
        simp (disch := omega) only [st129_16, dlt_t, cond_true, ib_t, ofn, tn_cast, e, g1, deq_t, Bool.not_true, cond_false, ru129_21, h1, w6_id]
        exact h2
      · rcases Nat.lt_or_ge i i' with z | z
        · exact h i' hi' (by omega)
        · obtain rfl : i' = i := by omega
          exact q
    · refine ⟨M, false, ?_, by simp; exact ⟨i, Nat.le_refl _, hi, q⟩⟩
      rw [iter_succ]
      simp (disch := omega) only [st129_16, dlt_t, cond_true, ib_t, ofn, tn_cast, e, g1, deq_f, Bool.not_false]

theorem g129_ok {p n : Int} {g : Mat} (hg : okM g = true) (hP : isP p = true) (hn : n = 1 ∨ n = 2 ∨ n = 3) (hr : rngB p n g = true) : ∃ M, cf129 (p, n, g, ()) = some (M, (!decide (detN (tn n) (me g) % p = 0), ())) := by
  obtain ⟨r1, r2, r3, r4⟩ := rows_ok hg hP hn hr
  have hN : ((tn n : Nat) : Int) = n := Int.toNat_of_nonneg (by omega)
  have hn3 : tn n ≤ 3 := by omega
  obtain ⟨e1, e2, e3⟩ := unit_ech hP (n := tn n) (by omega) (G := me g) r1 r2 r3 r4
  have g1 := g108_ok hP r2 (by omega) (by omega)
  obtain ⟨M, b, h1, h2⟩ := lead129 (p := p) hn3 (g := Ty.dflt (.arr 3 (.arr 3 (.int .u8)))) e2 e1 (g108 := cf108) (tn n) 0 (tup (Prod Int (Prod Int (Prod Int Unit))) (Ty.dflt (.arr 3 (.int .u8))) 3) 8 (by omega) (by omega)
  rw [hN] at h1
  have hb : b = !decide (detN (tn n) (me g) % p = 0) := by
    have : b = true ↔ detN (tn n) (me g) % p ≠ 0 := h2.trans ⟨fun h => e3.1 fun i hi => h i hi (by omega), fun h i hi _ => e3.2 h i hi⟩
    by_cases q : detN (tn n) (me g) % p = 0
    · rw [decide_eq_true q]
      cases b with
      | false => rfl
      | true => exact absurd q (this.1 rfl)
    · rw [decide_eq_false q]
      exact this.2 q
  refine ⟨M, ?_⟩
  rw [← hb]
  unfold cf129 fn129 ru129_3
  refine (build129 hg hn).trans ?_
  simp only [g1]
  simp (disch := omega) only [dln_t, cond_true, ofn, e1, hN, deq_t, decide_true, Bool.not_true, cond_false, ru129_16]
  exact h1

end Go.Proofs.YtkoifikjfnbcpaaEv
