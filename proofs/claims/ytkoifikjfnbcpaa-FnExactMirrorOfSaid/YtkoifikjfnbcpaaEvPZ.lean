/- The law on MirrorOf gives true. -/
import Derived.Test.YtkoifikjfnbcpaaEvPX
import Derived.Test.YtkoifikjfnbcpaaEvPT
import Derived.Test.YtkoifikjfnbcpaaEvNestC
import Derived.Test.YtkoifikjfnbcpaaEvL10
set_option linter.unusedVariables false
set_option linter.unusedSimpArgs false
namespace Go.Proofs.YtkoifikjfnbcpaaEv
open Go Go.RowKit Go.Proofs

def tot : List (List Int) → Nat
  | [] => 0
  | x :: r => x.length + tot r
def marksL (k : Int) : List (List Int) → List (List Int)
  | [] => []
  | x :: r => marks k x.length :: marksL (k + (x.length : Int)) r
def smallL (L : List (List Int)) : Prop := L.length ≤ 100000 ∧ (∀ r ∈ L, r.length ≤ 100000) ∧ tot L ≤ 1000000000
theorem marksL_len : ∀ {L : List (List Int)} {k : Int}, (marksL k L).length = L.length
  | [], _ => rfl
  | x :: r, k => by simp [marksL, marksL_len]
theorem tot_marks : ∀ {L : List (List Int)} {k : Int}, tot (marksL k L) = tot L
  | [], _ => rfl
  | x :: r, k => by simp [marksL, tot, tot_marks, marks_len]
theorem fold28 : ∀ {L : List (List Int)} {k : Int}, (∀ r ∈ L, r.length ≤ 100000) → 0 ≤ k → k + (tot L : Int) ≤ 100000000000 → foldM28 cf19 L k = some (marksL k L, k + (tot L : Int))
  | [], k, _, _, _ => by simp [foldM28, marksL, tot]
  | x :: r, k, h, h0, h1 => by
    have hx := h x (.head _)
    simp only [tot] at h1
    have g : cf19 (x, k, ()) = some (marks k x.length, k + (x.length : Int), ()) := g19_ok (by omega) (by omega)
    have ih := fold28 (L := r) (k := k + (x.length : Int)) (fun z hz => h z (.tail _ hz)) (by omega) (by omega)
    simp only [foldM28, g, ih, marksL, tot]
    simp only [Option.some.injEq, Prod.mk.injEq, true_and]
    omega
open Classical in
noncomputable def cf28 : G28 := fun x => if smallL x.1 ∧ (0 : Int) ≤ x.2.1 ∧ x.2.1 ≤ (1000000 : Int) then some (marksL x.2.1 x.1, x.2.1 + (tot x.1 : Int), ()) else none
theorem k28 : KOne Try.prog 28 ⟨[.v (.slice 24 (.slice 2 i64)), .v i64], [.slice 24 (.slice 2 i64), i64], false, false, 1, cf28⟩ := one28 (cf := cf28) k19 fun x y h => by
  obtain ⟨L, k, _⟩ := x
  change List (List Int) at L
  change Int at k
  simp only [cf28] at h
  split at h
  · rename_i hc
    injection h with h; subst h
    obtain ⟨⟨c1, c2, c3⟩, c4, c5⟩ := hc
    have c4 : (0 : Int) ≤ k := c4
    have c5 : k ≤ (1000000 : Int) := c5
    have c3 : tot L ≤ 1000000000 := c3
    exact ⟨Nat.le_trans c1 (by omega), _, fold28 (L := L) (k := k) c2 c4 (by omega), rfl⟩
  · cases h
theorem g28_ok {L : List (List Int)} (h : smallL L) : cf28 (L, (1 : Int), ()) = some (marksL 1 L, 1 + (tot L : Int), ()) := if_pos ⟨h, by show (0 : Int) ≤ 1; omega, by show (1 : Int) ≤ 1000000; omega⟩

theorem getD_preZ {α : Type} {pre r : List α} {t d : α} : (pre ++ t :: r).getD pre.length d = t := by
  rw [List.getD_eq_getElem?_getD, List.getElem?_append_right (Nat.le_refl _)]; simp
theorem run29 {k0 : Int} {F0 : Nat} : ∀ (r pre : List (List Int)) (k : Int) (F : Nat), r.length < F → (pre ++ marksL k r).length ≤ 1000000 → (∀ x ∈ r, x.length ≤ 100000) → 0 ≤ k → k + (tot r : Int) ≤ 100000000000 →
    iter (fun s k => st29_2 cf20 F0 s k (fun s' => match s' with | ((t0, _), (t1, _), (t5, _), _) => (some (t1, ())))) F ((pre ++ marksL k r, ()), ((k, ()), (((pre.length : Int), ()), ()))) = some (k + (tot r : Int), ())
  | [], pre, k, F, hF, hl, hr, h0, h1 => by
    obtain ⟨F, rfl⟩ : ∃ f, F = f + 1 := ⟨F - 1, by simp at hF; omega⟩
    simp only [marksL, List.append_nil] at hl ⊢
    simp only [iter, st29_2]
    simp (disch := omega) only [dln_t, cond_true, ofn, dlt_f, cond_false]
    simp [tot]
  | x :: r, pre, k, F, hF, hl, hr, h0, h1 => by
    obtain ⟨F, rfl⟩ : ∃ f, F = f + 1 := ⟨F - 1, by simp at hF; omega⟩
    have hx := hr x (.head _)
    simp only [tot] at h1
    simp only [marksL] at hl ⊢
    have l1 : pre.length < (pre ++ marks k x.length :: marksL (k + (x.length : Int)) r).length := by simp
    have g1 : ∀ dd, (pre ++ marks k x.length :: marksL (k + (x.length : Int)) r).getD pre.length dd = marks k x.length := fun dd => getD_preZ
    have g : cf20 (marks k x.length, k, ()) = some (k + (x.length : Int), ()) := g20_ok (by omega) (by omega)
    simp only [iter, st29_2]
    simp (disch := omega) only [dln_t, cond_true, ofn, dlt_t, ib_t, tn_cast, w6_id, g1]
    show (match cf20 (marks k x.length, k, ()) with | some r10 => _ | none => none) = _
    rw [g]
    show (bif decide (k + (x.length : Int) < 0) then _ else _) = _
    rw [dlt_f (by omega), cond_false]
    have ih := run29 (k0 := k0) (F0 := F0) r (pre ++ [marks k x.length]) (k + (x.length : Int)) F (by simp at hF; omega) (by simpa using hl) (fun z hz => hr z (.tail _ hz)) (by omega) (by omega)
    simp only [List.append_assoc, List.singleton_append, List.length_append, List.length_singleton] at ih
    simp only [tot]
    rw [show k + ((x.length + tot r : Nat) : Int) = k + (x.length : Int) + (tot r : Int) by omega]
    exact ih
open Classical in
noncomputable def cf29 : G29 := fun x => if smallL x.1 ∧ x.1 = marksL x.2.1 x.1 ∧ (0 : Int) ≤ x.2.1 ∧ x.2.1 ≤ (1000000 : Int) then some (x.2.1 + (tot x.1 : Int), ()) else none
theorem k29 : KOne Try.prog 29 ⟨[.v (.slice 24 (.slice 2 i64)), .v i64], [i64], false, false, 0, cf29⟩ := ok29 _ (.cons k20 .nil) cf29 fun x y h => by
  obtain ⟨L, k, _⟩ := x
  change List (List Int) at L
  change Int at k
  simp only [cf29] at h
  split at h
  · rename_i hc
    injection h with h; subst h
    obtain ⟨⟨c1, c2, c3⟩, c4, c5, c6⟩ := hc
    have c5 : (0 : Int) ≤ k := c5
    have c6 : k ≤ (1000000 : Int) := c6
    refine ⟨L.length + 1, ?_⟩
    have c4 : L = marksL k L := c4
    have key := run29 (k0 := 0) (F0 := L.length + 1) L [] k (L.length + 1) (by omega) (by rw [List.nil_append, ← c4]; omega) c2 c5 (by omega)
    rw [List.nil_append, ← c4] at key
    exact key
  · cases h
theorem marks_idem {n : Nat} {k : Int} : marks k (marks k n).length = marks k n := by rw [marks_len]
theorem marksL_idem : ∀ {L : List (List Int)} {k : Int}, marksL k (marksL k L) = marksL k L
  | [], _ => rfl
  | x :: r, k => by simp [marksL, marks_len, marksL_idem]
theorem smallL_marks {L : List (List Int)} {k : Int} (h : smallL L) : smallL (marksL k L) := by
  obtain ⟨h1, h2, h3⟩ := h
  refine ⟨by rw [marksL_len]; exact h1, ?_, by rw [tot_marks]; exact h3⟩
  clear h1 h3
  induction L generalizing k with
  | nil => intro r hr; cases hr
  | cons x s ih =>
    intro r hr
    rcases List.mem_cons.1 hr with rfl | hr
    · rw [marks_len]; exact h2 x (.head _)
    · exact ih (fun z hz => h2 z (.tail _ hz)) r hr
theorem g29_ok {L : List (List Int)} (h : smallL L) : cf29 (marksL 1 L, (1 : Int), ()) = some (1 + (tot L : Int), ()) := by
  have : cf29 (marksL 1 L, (1 : Int), ()) = some ((1 : Int) + (tot (marksL 1 L) : Int), ()) := if_pos ⟨smallL_marks h, (marksL_idem (L := L) (k := 1)).symm, by show (0 : Int) ≤ 1; omega, by show (1 : Int) ≤ 1000000; omega⟩
  rw [this, tot_marks]

theorem run25 {L : List (List Int)} (hL : L.length ≤ 100000) (h : ∀ r ∈ L, r.length ≤ 100000) {F0 : Nat} : ∀ (r pre : List (List Int)) (F : Nat), r.length < F → pre ++ r = L →
    iter (fun s k => st25_4 cf18 F0 s k (fun s' => match s' with | ((t0, _), (t1, _), (t5, _), _) => (some (true, ())))) F ((L, ()), ((L, ()), (((pre.length : Int), ()), ()))) = some (true, ())
  | [], pre, F, hF, e => by
    obtain ⟨F, rfl⟩ : ∃ f, F = f + 1 := ⟨F - 1, by simp at hF; omega⟩
    rw [List.append_nil] at e; subst e
    simp only [iter, st25_4]
    simp (disch := omega) only [dln_t, cond_true, ofn, dlt_f, cond_false]
  | x :: r, pre, F, hF, e => by
    obtain ⟨F, rfl⟩ : ∃ f, F = f + 1 := ⟨F - 1, by simp at hF; omega⟩
    have l1 : pre.length < L.length := by rw [← e]; simp
    have g1 : ∀ dd, L.getD pre.length dd = x := fun dd => by rw [← e]; exact getD_preZ
    have hx : x.length ≤ 100000 := h x (by rw [← e]; simp)
    have g : cf18 (x, x, ()) = some (true, ()) := by
      have : cf18 (x, x, ()) = some (decide (x = x), ()) := if_pos ⟨by simp only [B]; omega, by simp only [B]; omega⟩
      rw [this, decide_eq_true rfl]
    simp only [iter, st25_4]
    simp (disch := omega) only [dln_t, cond_true, ofn, dlt_t, ib_t, tn_cast, w6_id, g1, g, Bool.not_true, cond_false]
    have ih := run25 hL h (F0 := F0) r (pre ++ [x]) F (by simp at hF; omega) (by simpa using e)
    simp only [List.length_append, List.length_singleton] at ih
    exact ih
open Classical in
noncomputable def cf25 : G25 := fun x => if x.1 = x.2.1 ∧ smallL x.1 then some (true, ()) else none
theorem k25 : KOne Try.prog 25 ⟨[.v (.slice 24 (.slice 2 i64)), .v (.slice 24 (.slice 2 i64))], [.bool], false, false, 0, cf25⟩ := ok25 _ (.cons k18 .nil) cf25 fun x y h => by
  obtain ⟨L, M, _⟩ := x
  change List (List Int) at L
  change List (List Int) at M
  simp only [cf25] at h
  split at h
  · rename_i hc
    injection h with h; subst h
    obtain ⟨c0, c1, c2, c3⟩ := hc
    have c0 : L = M := c0
    subst c0
    refine ⟨L.length + 1, ?_⟩
    simp (disch := omega) only [fn25, dln_t, cond_true, ofn, deq_t, Bool.not_true, cond_false, ru25_4]
    simp only [decide_true, Bool.not_true, cond_false]
    exact run25 c1 c2 L [] (L.length + 1) (by omega) rfl
  · cases h
theorem g25_ok {L : List (List Int)} (h : smallL L) : cf25 (L, L, ()) = some (true, ()) := if_pos ⟨rfl, h⟩

noncomputable def cf48 : G48 := fn48 cf58 cf108 cf110 cf109 0
theorem k48 : KOne Try.prog 48 ⟨[.v i64, .v i64, .v mat], [.slice 24 (.slice 2 i64), i64], false, false, 0, cf48⟩ := ok48 _ _ _ _ (.cons k58 (.cons k108 (.cons k110 (.cons k109 .nil)))) cf48 fun x y h => ⟨0, h⟩
noncomputable def cf49 : G49 := fn49 cf61 cf111 cf112 0
theorem k49 : KOne Try.prog 49 ⟨[.v i64, .v i64, .v mat], [.slice 24 (.slice 2 i64), i64], true, false, 0, cf49⟩ := ok49 _ _ _ (.cons k61 (.cons k111 (.cons k112 .nil))) cf49 fun x y h => ⟨0, h⟩

theorem tot_le {m : Nat} : ∀ {L : List (List Int)}, (∀ r ∈ L, r.length ≤ m) → tot L ≤ L.length * m
  | [], _ => Nat.zero_le _
  | x :: r, h => by
    have := tot_le (L := r) fun z hz => h z (.tail _ hz)
    have hx := h x (.head _)
    simp only [tot, List.length_cons, Nat.succ_mul]; omega

theorem same48 {p n : Int} {g : Mat} (hg : okM g = true) : ∃ (L : List (List Int)) (c : Int), smallL L ∧ cf48 (p, n, g, ()) = some (L, c, ()) ∧ cf49 (p, n, g, ()) = some (L, c, ()) := by
  simp only [cf48, cf49, fn48, fn49]
  rw [g58_ok hg, g61_ok hg]
  simp only
  cases h : matB p n g with
  | false => exact ⟨[], 2, ⟨by simp, by simp, by simp [tot]⟩, rfl, rfl⟩
  | true =>
    obtain ⟨hP, k, rfl, h1, h2, hr, _⟩ := matB_is h
    have hp := isP_pos hP
    have hp13 : 2 ≤ p ∧ p ≤ 13 := by simp only [isP, Bool.or_eq_true, decide_eq_true_eq] at hP; omega
    have hcan := chRows_can (p := p) (n := k) (g := g) (by omega) hg h2 hr
    have hlen := chRows_len (p := p) (n := k) (g := g)
    have hRR := kerL_RR hP hcan
    have hkl : (kerL p k (chRows p k g)).length ≤ (chRows p k g).length := by
      unfold kerL
      rw [List.length_map]
      have e1 := List.length_filter_le (fun r => decide (k ≤ ld r)) (ech p (longs (chRows p k g)))
      have e2 := ech_len (p := p) (rows := longs (chRows p k g))
      have e3 : (longs (chRows p k g)).length = (chRows p k g).length := by simp [longs]
      omega
    have g108 : cf108 (p, kerL p k (chRows p k g), ()) = some (kerL p k (chRows p k g), ()) := by
      rw [g108_ok (m := (chRows p k g).length) hP (fun r hr => hRR.can r hr) (by omega) (by omega), ech_self hP hRR]
    rw [g109_ok hp13 h2 hg, g112_ok hp13 h2 hg]
    simp only
    rw [g110_ok hP hlen hcan (by omega) (by omega), g111_ok hP hcan (by omega) (by omega)]
    simp only
    rw [g108]
    refine ⟨kerL p k (chRows p k g), 0, ?_, rfl, rfl⟩
    have l1 : (kerL p k (chRows p k g)).length ≤ 3 := by omega
    have l2 : ∀ r ∈ kerL p k (chRows p k g), r.length ≤ 3 := fun r hr => by have := (hRR.can r hr).len; omega
    refine ⟨by omega, fun r hr => by have := l2 r hr; omega, ?_⟩
    have := tot_le l2
    omega

theorem law10_one : KOne Try.prog 10 ⟨[.v i64, .v i64, .v mat], [.bool], false, false, 0, fun x => bif okA [.v i64, .v i64, .v mat] x then some (true, ()) else none⟩ :=
  ok10 _ _ _ _ _ _ (.cons k16 (.cons k48 (.cons k25 (.cons k28 (.cons k29 (.cons k49 .nil)))))) _ fun x y h => by
    obtain ⟨p, n, g, _⟩ := x
    cases hx : okA [.v i64, .v i64, .v mat] (p, n, g, ()) with
    | false => rw [hx] at h; cases h
    | true =>
      rw [hx] at h; injection h with h; subst h
      refine ⟨0, ?_⟩
      simp only [okA, Bool.and_eq_true] at hx
      have hg : okM g = true := hx.2.2.1
      obtain ⟨L, c, hl, e1, e2⟩ := same48 (p := p) (n := n) hg
      have c16 : cf16 (g, ()) = some (g, ()) := rfl
      have c25 := g25_ok hl
      have c28 := g28_ok hl
      have c29 := g29_ok hl
      have n2 : (bif ((Nat.beq 24 24) && ((Nat.beq 2 2) && true)) then marksL 1 L else []) = marksL 1 L := rfl
      simp (disch := omega) only [fn10, c16, e1, e2, c25, c28, n2, c29, Bool.not_true, cond_false, cond_true, deq_t, decide_true, dlt_f]

end Go.Proofs.YtkoifikjfnbcpaaEv
