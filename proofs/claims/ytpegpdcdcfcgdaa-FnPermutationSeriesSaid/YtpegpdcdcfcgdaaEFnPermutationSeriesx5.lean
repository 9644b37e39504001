/- The functions that the law uses, as plain functions, and that the code comes to what they say. -/
import Derived.Test.YtpegpdcdcfcgdaaEFnPermutationSeriesx0
import Derived.Test.YtpegpdcdcfcgdaaEFnPermutationSeriesx1
import Derived.Test.YtpegpdcdcfcgdaaEFnPermutationSeriesx2
import Derived.Test.YtpegpdcdcfcgdaaEFnPermutationSeriesx4
namespace Go.Proofs.Ytpegpdcdcfcgdaa.EFnPermutationSeries
open Go.RowKit Go.Proofs.YtpegpdcdcfcgdaaW.PrintWords Go.Proofs.YtpegpdcdcfcgdaaW.PrintLast Go.Proofs.YtpegpdcdcfcgdaaW.PrintMore Go.Proofs.YtpegpdcdcfcgdaaX
attribute [local go_sem] max2_int min2_int max_two min_two max_three min_three max_four min_four   -- for this text's walks alone
set_option linter.unusedVariables false
set_option linter.unusedSimpArgs false

/-! ### spec_CountingSeries: function 13 -/
mutual
def spec_CountingSeries.j0 : Nat → List (List Int) → Int → Bool → Option (List Int × Int)
  | 0, _, _, _ => none
  | k + 1, x0, x1, x24 => if x24 = true then (some (([] : List Int), 2)) else (spec_CountingSeries.l0 k x0 x1 0)
def spec_CountingSeries.l0 : Nat → List (List Int) → Int → Int → Option (List Int × Int)
  | 0, _, _, _ => none
  | k + 1, x0, x1, x6 => if x6 < (x0.length : Int) then (if 0 ≤ x6 then ((spec_l04Permutation.f k (rd_L2 x0 x6)).bind fun t213 => (if t213 = true then (if 0 < (x0.length : Int) then (if ((rd_L2 x0 x6).length : Int) = ((rd_L2 x0 0).length : Int) then (spec_CountingSeries.l0 k x0 x1 (wrap64 (x6 + 1))) else (some (([] : List Int), 2))) else (none)) else (some (([] : List Int), 2)))) else (none)) else (if 0 ≤ (wrap64 (x1 + 1)) then (if (wrap64 (x1 + 1) : Int).toNat ≤ 35184372088832 then (spec_CountingSeries.l1 k x0 x1 (List.replicate (wrap64 (x1 + 1) : Int).toNat 0) 0) else (none)) else (none))
def spec_CountingSeries.l1 : Nat → List (List Int) → Int → List Int → Int → Option (List Int × Int)
  | 0, _, _, _, _ => none
  | k + 1, x0, x1, x7, x8 => if x8 < (x0.length : Int) then (if 0 ≤ x8 then ((spec_l04Cycles.f k (rd_L2 x0 x8)).bind fun t220 => ((spec_l04Of.f k t220 x1).bind fun t223 => (spec_CountingSeries.l2 k x0 x1 x7 x8 t223 0))) else (none)) else (spec_CountingSeries.l3 k x0 x1 x7 0)
def spec_CountingSeries.l2 : Nat → List (List Int) → Int → List Int → Int → List Int → Int → Option (List Int × Int)
  | 0, _, _, _, _, _, _ => none
  | k + 1, x0, x1, x7, x8, x9, x10 => if x10 ≤ x1 then (if 0 ≤ x10 then (if x10 < (x7.length : Int) then (if x10 < (x9.length : Int) then (spec_CountingSeries.l2 k x0 x1 (x7.set (x10 : Int).toNat (wrap64 ((rd x7 x10) + (rd x9 x10)))) x8 x9 (wrap64 (x10 + 1))) else (none)) else (none)) else (none)) else (spec_CountingSeries.l1 k x0 x1 x7 (wrap64 (x8 + 1)))
def spec_CountingSeries.l3 : Nat → List (List Int) → Int → List Int → Int → Option (List Int × Int)
  | 0, _, _, _, _ => none
  | k + 1, x0, x1, x7, x11 => if x11 ≤ x1 then (if 0 ≤ x11 then (if x11 < (x7.length : Int) then (if (x0.length : Int) = 0 then (none) else (if (Int.tmod (rd x7 x11) (x0.length : Int)) = 0 then (spec_CountingSeries.l3 k x0 x1 (x7.set (x11 : Int).toNat (wrap64 (Int.tdiv (rd x7 x11) (x0.length : Int)))) (wrap64 (x11 + 1))) else (some (([] : List Int), 5)))) else (none)) else (none)) else (some (x7, 0))
end
def spec_CountingSeries.f (k : Nat) (l0 : List (List Int)) (a1 : Int) : Option (List Int × Int) := if (l0.length : Int) < 1 then (spec_CountingSeries.j0 k l0 a1 true) else (if (l0.length : Int) > 120 then (spec_CountingSeries.j0 k l0 a1 true) else ((spec_l01In.f a1 0 12).bind fun t211 => (spec_CountingSeries.j0 k l0 a1 (!t211))))
theorem spec_CountingSeries.mono_l : ∀ k, (∀ y0 y1 y2, LeO (spec_CountingSeries.j0 k y0 y1 y2) (spec_CountingSeries.j0 (k + 1) y0 y1 y2)) ∧ (∀ y0 y1 y2, LeO (spec_CountingSeries.l0 k y0 y1 y2) (spec_CountingSeries.l0 (k + 1) y0 y1 y2)) ∧ (∀ y0 y1 y2 y3, LeO (spec_CountingSeries.l1 k y0 y1 y2 y3) (spec_CountingSeries.l1 (k + 1) y0 y1 y2 y3)) ∧ (∀ y0 y1 y2 y3 y4 y5, LeO (spec_CountingSeries.l2 k y0 y1 y2 y3 y4 y5) (spec_CountingSeries.l2 (k + 1) y0 y1 y2 y3 y4 y5)) ∧ (∀ y0 y1 y2 y3, LeO (spec_CountingSeries.l3 k y0 y1 y2 y3) (spec_CountingSeries.l3 (k + 1) y0 y1 y2 y3))
  | 0 => ⟨fun _ _ _ r h => by simp [spec_CountingSeries.j0] at h, fun _ _ _ r h => by simp [spec_CountingSeries.l0] at h, fun _ _ _ _ r h => by simp [spec_CountingSeries.l1] at h, fun _ _ _ _ _ _ r h => by simp [spec_CountingSeries.l2] at h, fun _ _ _ _ r h => by simp [spec_CountingSeries.l3] at h⟩
  | k + 1 => by
    obtain ⟨ih0, ih1, ih2, ih3, ih4⟩ := spec_CountingSeries.mono_l k
    refine ⟨?_, ?_, ?_, ?_, ?_⟩
    · intro y0 y1 y2
      unfold spec_CountingSeries.j0
      repeat' first
      | (with_reducible exact ih0 _ _ _)
      | (with_reducible exact ih1 _ _ _)
      | (with_reducible exact ih2 _ _ _ _)
      | (with_reducible exact ih3 _ _ _ _ _ _)
      | (with_reducible exact ih4 _ _ _ _)
      | (with_reducible exact spec_l04Cycles.mono _ _)
      | (with_reducible exact spec_l04Of.mono _ _ _)
      | (with_reducible exact spec_l04Permutation.mono _ _)
      | (with_reducible exact LeO.refl _)
      | (with_reducible exact LeO.none _)
      | (with_reducible refine LeO.ite ?_ ?_)
      | (with_reducible refine LeO.bind ?_ (fun _ => ?_))
      | exact ih0 _ _ _
      | exact ih1 _ _ _
      | exact ih2 _ _ _ _
      | exact ih3 _ _ _ _ _ _
      | exact ih4 _ _ _ _
      | exact spec_l04Cycles.mono _ _
      | exact spec_l04Of.mono _ _ _
      | exact spec_l04Permutation.mono _ _
      | exact LeO.none _
      | refine LeO.ite ?_ ?_
      | refine LeO.bind ?_ (fun _ => ?_)
    · intro y0 y1 y2
      unfold spec_CountingSeries.l0
      repeat' first
      | (with_reducible exact ih0 _ _ _)
      | (with_reducible exact ih1 _ _ _)
      | (with_reducible exact ih2 _ _ _ _)
      | (with_reducible exact ih3 _ _ _ _ _ _)
      | (with_reducible exact ih4 _ _ _ _)
      | (with_reducible exact spec_l04Cycles.mono _ _)
      | (with_reducible exact spec_l04Of.mono _ _ _)
      | (with_reducible exact spec_l04Permutation.mono _ _)
      | (with_reducible exact LeO.refl _)
      | (with_reducible exact LeO.none _)
      | (with_reducible refine LeO.ite ?_ ?_)
      | (with_reducible refine LeO.bind ?_ (fun _ => ?_))
      | exact ih0 _ _ _
      | exact ih1 _ _ _
      | exact ih2 _ _ _ _
      | exact ih3 _ _ _ _ _ _
      | exact ih4 _ _ _ _
      | exact spec_l04Cycles.mono _ _
      | exact spec_l04Of.mono _ _ _
      | exact spec_l04Permutation.mono _ _
      | exact LeO.none _
      | refine LeO.ite ?_ ?_
      | refine LeO.bind ?_ (fun _ => ?_)
    · intro y0 y1 y2 y3
      unfold spec_CountingSeries.l1
      repeat' first
      | (with_reducible exact ih0 _ _ _)
      | (with_reducible exact ih1 _ _ _)
      | (with_reducible exact ih2 _ _ _ _)
      | (with_reducible exact ih3 _ _ _ _ _ _)
      | (with_reducible exact ih4 _ _ _ _)
      | (with_reducible exact spec_l04Cycles.mono _ _)
      | (with_reducible exact spec_l04Of.mono _ _ _)
      | (with_reducible exact spec_l04Permutation.mono _ _)
      | (with_reducible exact LeO.refl _)
      | (with_reducible exact LeO.none _)
      | (with_reducible refine LeO.ite ?_ ?_)
      | (with_reducible refine LeO.bind ?_ (fun _ => ?_))
      | exact ih0 _ _ _
      | exact ih1 _ _ _
      | exact ih2 _ _ _ _
      | exact ih3 _ _ _ _ _ _
      | exact ih4 _ _ _ _
      | exact spec_l04Cycles.mono _ _
      | exact spec_l04Of.mono _ _ _
      | exact spec_l04Permutation.mono _ _
      | exact LeO.none _
      | refine LeO.ite ?_ ?_
      | refine LeO.bind ?_ (fun _ => ?_)
    · intro y0 y1 y2 y3 y4 y5
      unfold spec_CountingSeries.l2
      repeat' first
      | (with_reducible exact ih0 _ _ _)
      | (with_reducible exact ih1 _ _ _)
      | (with_reducible exact ih2 _ _ _ _)
      | (with_reducible exact ih3 _ _ _ _ _ _)
      | (with_reducible exact ih4 _ _ _ _)
      | (with_reducible exact spec_l04Cycles.mono _ _)
      | (with_reducible exact spec_l04Of.mono _ _ _)
      | (with_reducible exact spec_l04Permutation.mono _ _)
      | (with_reducible exact LeO.refl _)
      | (with_reducible exact LeO.none _)
      | (with_reducible refine LeO.ite ?_ ?_)
      | (with_reducible refine LeO.bind ?_ (fun _ => ?_))
      | exact ih0 _ _ _
      | exact ih1 _ _ _
      | exact ih2 _ _ _ _
      | exact ih3 _ _ _ _ _ _
      | exact ih4 _ _ _ _
      | exact spec_l04Cycles.mono _ _
      | exact spec_l04Of.mono _ _ _
      | exact spec_l04Permutation.mono _ _
      | exact LeO.none _
      | refine LeO.ite ?_ ?_
      | refine LeO.bind ?_ (fun _ => ?_)
    · intro y0 y1 y2 y3
      unfold spec_CountingSeries.l3
      repeat' first
      | (with_reducible exact ih0 _ _ _)
      | (with_reducible exact ih1 _ _ _)
      | (with_reducible exact ih2 _ _ _ _)
      | (with_reducible exact ih3 _ _ _ _ _ _)
      | (with_reducible exact ih4 _ _ _ _)
      | (with_reducible exact spec_l04Cycles.mono _ _)
      | (with_reducible exact spec_l04Of.mono _ _ _)
      | (with_reducible exact spec_l04Permutation.mono _ _)
      | (with_reducible exact LeO.refl _)
      | (with_reducible exact LeO.none _)
      | (with_reducible refine LeO.ite ?_ ?_)
      | (with_reducible refine LeO.bind ?_ (fun _ => ?_))
      | exact ih0 _ _ _
      | exact ih1 _ _ _
      | exact ih2 _ _ _ _
      | exact ih3 _ _ _ _ _ _
      | exact ih4 _ _ _ _
      | exact spec_l04Cycles.mono _ _
      | exact spec_l04Of.mono _ _ _
      | exact spec_l04Permutation.mono _ _
      | exact LeO.none _
      | refine LeO.ite ?_ ?_
      | refine LeO.bind ?_ (fun _ => ?_)
theorem spec_CountingSeries.mono : ∀ a0 a1 k, LeO (spec_CountingSeries.f k a0 a1) (spec_CountingSeries.f (k + 1) a0 a1) := by
  intro a0 a1 k
  obtain ⟨ih0, ih1, ih2, ih3, ih4⟩ := spec_CountingSeries.mono_l k
  unfold spec_CountingSeries.f
  repeat' first
      | (with_reducible exact ih0 _ _ _)
      | (with_reducible exact ih1 _ _ _)
      | (with_reducible exact ih2 _ _ _ _)
      | (with_reducible exact ih3 _ _ _ _ _ _)
      | (with_reducible exact ih4 _ _ _ _)
      | (with_reducible exact spec_l04Cycles.mono _ _)
      | (with_reducible exact spec_l04Of.mono _ _ _)
      | (with_reducible exact spec_l04Permutation.mono _ _)
      | (with_reducible exact LeO.refl _)
      | (with_reducible exact LeO.none _)
      | (with_reducible refine LeO.ite ?_ ?_)
      | (with_reducible refine LeO.bind ?_ (fun _ => ?_))
      | exact ih0 _ _ _
      | exact ih1 _ _ _
      | exact ih2 _ _ _ _
      | exact ih3 _ _ _ _ _ _
      | exact ih4 _ _ _ _
      | exact spec_l04Cycles.mono _ _
      | exact spec_l04Of.mono _ _ _
      | exact spec_l04Permutation.mono _ _
      | exact LeO.none _
      | refine LeO.ite ?_ ?_
      | refine LeO.bind ?_ (fun _ => ?_)
def spec_CountingSeries.T6 : Bool × List (List Nat × List Nat) := (true, [([], []), ([], []), ([0, 1], [0, 1]), ([2], [2]), ([3], [3]), ([4], [4]), ([5, 4], [5]), ([6], [6]), ([6], [6]), ([7, 8, 6], [6, 7, 8]), ([9, 6], [6, 9]), ([10, 6], [6, 10]), ([6], [6]), ([12, 6], [6, 12]), ([13, 6], [6, 13]), ([14, 6], [6, 14]), ([11, 15, 6], [6, 11, 15]), ([6, 16], [6, 16])])
def spec_CountingSeries.B6 : List Nat := [0, 0, 3, 7, 15, 31, 63, 127, 127, 511, 1023, 2047, 127, 4223, 12415, 28799, 65535, 131071]
theorem spec_CountingSeries.tab6 : rtab .any (opsOf Try.f13 6) = spec_CountingSeries.T6 := by kernel_rfl
theorem spec_CountingSeries.bits6 : waitsOk spec_CountingSeries.T6.2 spec_CountingSeries.B6 = true := by kernel_rfl
def spec_CountingSeries.T16 : Bool × List (List Nat × List Nat) := (true, [([], []), ([], []), ([], []), ([], []), ([2, 3], [2, 3]), ([4], [4]), ([], []), ([], []), ([6, 7], [6, 7]), ([8], [8]), ([5, 9], [5, 9]), ([0, 1, 0, 1, 2, 3, 4, 5, 6, 7, 8, 9, 10], [0, 1]), ([11, 10, 0, 1, 2, 3, 4, 5, 6, 7, 8, 9, 10], [10, 11])])
def spec_CountingSeries.B16 : List Nat := [0, 0, 0, 0, 12, 28, 0, 0, 192, 448, 1020, 2047, 4095]
theorem spec_CountingSeries.tab16 : rtab .any (opsOf Try.f13 16) = spec_CountingSeries.T16 := by kernel_rfl
theorem spec_CountingSeries.bits16 : waitsOk spec_CountingSeries.T16.2 spec_CountingSeries.B16 = true := by kernel_rfl
set_option maxHeartbeats 8000000 in
set_option maxRecDepth 100000 in
theorem spec_CountingSeries.calls (k : Nat) (A0 : Option Addr) (c0 : Nat) (l0 : List (List Int)) (a1 : Int) (r1 : List Int) (r2 : Int) (w : World) (hr0 : Kd.C (Kd.slice 2 (Kd.int .i64)) w A0 l0.length l0) (hc0 : l0.length ≤ c0) (h : spec_CountingSeries.f k l0 a1 = some (r1, r2)) :
    Calls Try.prog 13 #[.slice A0 l0.length c0, .int .i64 a1] w fun e w' => ∃ v0_ : Value, e = .returned (.tuple #[v0_, .int .i64 r2]) ∧ Kd.R (Kd.int .i64) 2 w' w.heap.size (fun _ => True) v0_ r1 ∧ Below w.heap.size w w' := by
  have HR0 := Aside0.mk hr0
  have HC0 := Aside0.mk hc0
  clear hr0 hc0
  have HB := Aside0.mk (Below.refl w.heap.size w)
  have H : (if (l0.length : Int) < 1 then (spec_CountingSeries.j0 k l0 a1 true) else (if (l0.length : Int) > 120 then (spec_CountingSeries.j0 k l0 a1 true) else ((spec_l01In.f a1 0 12).bind fun t211 => (spec_CountingSeries.j0 k l0 a1 (!t211))))) = some (r1, r2) := h
  clear h
  have HC3 := Aside0.mk H
  clear H
  go_enter Try.func13, Try.ntmps13
  go_upto_region 1 with (fail)
  go_cut [24] (fun v24 wc => ∃ (kq : Nat) (x24_2 : Bool), v24 = .bool x24_2 ∧ Aside0 (spec_CountingSeries.j0 kq l0 a1 x24_2 = some (r1, r2)) ∧ Aside0 (kq ≤ k) ∧ Aside0 (Below w.heap.size w wc))
  case first =>
    have H := HC3.out
    clear HC3
    by_cases c4 : (l0.length : Int) < 1
    · rw [if_pos c4] at H
      have c4b0 : decide ((l0.length : Int) < 1) = true := decide_eq_true c4
      have c4b1 : decide (l0.length < 1) = true := decide_eq_true (by omega)
      clear c4
      (first | rw [c4b0] | (simp only [i64_w, i32_w]; rw [c4b0]) | skip)
      have H' := Aside0.mk H
      clear H
      go_wp2
      go_meet
      case rel => exact ⟨_, (true), mF, H', ⟨by first | omega | exact Nat.le_refl _⟩, ⟨mB⟩⟩
    · rw [if_neg c4] at H
      have c4b0 : decide ((l0.length : Int) < 1) = false := decide_eq_false c4
      have c4b1 : decide (l0.length < 1) = false := decide_eq_false (by omega)
      clear c4
      (first | rw [c4b0] | (simp only [i64_w, i32_w]; rw [c4b0]) | skip)
      by_cases c5 : (l0.length : Int) > 120
      · rw [if_pos c5] at H
        have c5b0 : decide (120 < (l0.length : Int)) = true := decide_eq_true c5
        have c5b1 : decide (120 < l0.length) = true := decide_eq_true (by omega)
        clear c5
        have H' := Aside0.mk H
        clear H
        go_wp2
        go_meet
        case rel => exact ⟨_, (true), mF, H', ⟨by first | omega | exact Nat.le_refl _⟩, ⟨mB⟩⟩
      · rw [if_neg c5] at H
        have c5b0 : decide (120 < (l0.length : Int)) = false := decide_eq_false c5
        have c5b1 : decide (120 < l0.length) = false := decide_eq_false (by omega)
        clear c5
        replace H := Option.bind_eq_some_iff.mp H
        obtain ⟨t211, A60, H⟩ := H
        replace H : (spec_CountingSeries.j0 k l0 a1 (!t211)) = some (r1, r2) := H
        have A6 := Aside0.mk A60
        clear A60
        have H' := Aside0.mk H
        clear H
        go_wp2_with (first | (go_at_call 28; (with_reducible refine (spec_l01In.calls a1 0 12 t211 _ A6.out).mono ?_); rintro e w' ⟨rfl, ⟨nd, rfl⟩⟩))
        go_meet
        case rel => exact ⟨_, (!t211), mF, H', ⟨by first | omega | exact Nat.le_refl _⟩, ⟨mB⟩⟩
  case rest =>
    clear HC3
    try clear c1
    try clear p2
    try clear c4
    try clear c4b0
    try clear c4b1
    try clear c5
    try clear c5b0
    try clear c5b1
    obtain ⟨kq, x24_2, rfl, HA, HJ2, HB⟩ := hcut
    cases kq with
    | zero => exact absurd HA.out (by simp [spec_CountingSeries.j0])
    | succ kj2 =>
      have H := HA.out
      clear HA
      simp only [spec_CountingSeries.j0] at H
      by_cases c7 : x24_2 = true
      · subst c7
        have H1 : (some (([] : List Int), 2)) = some (r1, r2) := by rw [if_pos rfl] at H; exact H
        clear H
        have H := H1
        clear H1
        simp only [Option.some.injEq, Prod.mk.injEq] at H
        obtain ⟨rfl, rfl⟩ := H
        go_wp2
        go_ret2
        exact ⟨_, mE, by first | exact Kd.R_nil _ _ _ _ _ | exact Kd.N_nil _ _ _ _ _ | exact Kd.V_nil _ _ _ _ _ | exact Kd.Q_nil _ _ _ _ _ | exact Kd.S_nil _ _ _ _ _, mB⟩
      · replace c7 := Bool.eq_false_iff.mpr c7
        subst c7
        have H1 : (spec_CountingSeries.l0 kj2 l0 a1 0) = some (r1, r2) := by rw [if_neg (show ¬ (false = true) by decide)] at H; exact H
        clear H
        have H := H1
        clear H1
        have H' := Aside0.mk H
        clear H
        go_wp2
        go_loopg [6] kj2 (fun kq v6 w' => ∃ (x6_2 : Int), v6 = .int .i64 x6_2 ∧ Aside0 (spec_CountingSeries.l0 kq l0 a1 x6_2 = some (r1, r2)) ∧ Aside0 (kq ≤ kj2) ∧ Aside0 (Below w.heap.size w w'))
        case atStart => exact ⟨(0), mF, H', ⟨Nat.le_refl _⟩, ⟨mB⟩⟩
        case round =>
          clear H'
          try clear c1
          try clear p2
          try clear c4
          try clear c4b0
          try clear c4b1
          try clear c5
          try clear c5b0
          try clear c5b1
          try clear c7
          try clear p2
          obtain ⟨x6_2, rfl, HA, HK2, HB⟩ := hrel
          cases gk with
          | zero => exact absurd HA.out (by simp [spec_CountingSeries.l0])
          | succ k2 =>
            have H := HA.out
            clear HA
            simp only [spec_CountingSeries.l0] at H
            by_cases c8 : x6_2 < (l0.length : Int)
            · rw [if_pos c8] at H
              have c8b0 : decide (x6_2 < (l0.length : Int)) = true := decide_eq_true c8
              clear c8
              by_cases c9 : 0 ≤ x6_2
              · rw [if_pos c9] at H
                have c9b0 : decide (0 ≤ x6_2) = true := decide_eq_true c9
                clear c9
                replace H := Option.bind_eq_some_iff.mp H
                obtain ⟨t213, A100, H⟩ := H
                replace H : (if t213 = true then (if 0 < (l0.length : Int) then (if ((rd_L2 l0 x6_2).length : Int) = ((rd_L2 l0 0).length : Int) then (spec_CountingSeries.l0 k2 l0 a1 (wrap64 (x6_2 + 1))) else (some (([] : List Int), 2))) else (none)) else (some (([] : List Int), 2))) = some (r1, r2) := H
                have A10 := Aside0.mk A100
                clear A100
                by_cases c11 : t213 = true
                · subst c11
                  have H1 : (if 0 < (l0.length : Int) then (if ((rd_L2 l0 x6_2).length : Int) = ((rd_L2 l0 0).length : Int) then (spec_CountingSeries.l0 k2 l0 a1 (wrap64 (x6_2 + 1))) else (some (([] : List Int), 2))) else (none)) = some (r1, r2) := by rw [if_pos rfl] at H; exact H
                  clear H
                  have H := H1
                  clear H1
                  by_cases c12 : 0 < (l0.length : Int)
                  · rw [if_pos c12] at H
                    have c12b0 : decide (0 < (l0.length : Int)) = true := decide_eq_true c12
                    have c12b1 : decide (0 < l0.length) = true := decide_eq_true (by omega)
                    clear c12
                    by_cases c13 : ((rd_L2 l0 x6_2).length : Int) = ((rd_L2 l0 0).length : Int)
                    · rw [if_pos c13] at H
                      have c13b0 : (((rd_L2 l0 x6_2).length : Int) == ((rd_L2 l0 0).length : Int)) = true := beq_iff_eq.mpr c13
                      have c13b1 : (((rd_L2 l0 x6_2).length : Int) != ((rd_L2 l0 0).length : Int)) = false := bne_eq_false_iff_eq.mpr c13
                      have c13b2 : ((rd_L2 l0 x6_2).length == (rd_L2 l0 0).length) = true := by first | simpa using c13 | (simp at c13 ⊢; omega)
                      clear c13
                      have H' := Aside0.mk H
                      clear H
                      try go_wp2
                      have n0_ := Aside0.mk (below_drew1 HB.out)
                      clear HB
                      have HB := n0_
                      clear n0_
                      have p212 : 0 ≤ (x6_2 : Int) := of_decide_eq_true mS
                      have q212 : x6_2 < (l0.length : Int) := of_decide_eq_true mS
                      obtain ⟨ad212, A212_0, c212_0, e212, hx212_0, hl212_0, hi212_0⟩ := at_L2 HR0.out x6_2 p212 q212
                      have hw212_0 := hx212_0
                      cases e212
                      replace hx212_0 := cB HB hx212_0
                      have HR212_0 := Aside0.mk hi212_0
                      have HC212_0 := Aside0.mk hl212_0
                      clear hi212_0 hl212_0
                      replace p212 := eq_true p212
                      replace q212 := eq_true q212
                      have p214 : 0 ≤ (x6_2 : Int) := of_decide_eq_true mS
                      have q214 : x6_2 < (l0.length : Int) := of_decide_eq_true mS
                      obtain ⟨ad214, A214_0, c214_0, e214, hx214_0, hl214_0, hi214_0⟩ := at_L2 HR0.out x6_2 p214 q214
                      have hw214_0 := hx214_0
                      obtain rfl : ad212 = ad214 := (by injection e214)
                      replace hx214_0 := cB HB hx214_0
                      have HR214_0 := Aside0.mk hi214_0
                      have HC214_0 := Aside0.mk hl214_0
                      clear hi214_0 hl214_0
                      replace p214 := eq_true p214
                      replace q214 := eq_true q214
                      have ea_ := Option.some.inj (hx212_0.symm.trans hx214_0)
                      injection ea_ with ea_ en_ ec_
                      subst ea_
                      subst ec_
                      clear en_
                      have p215 : 0 ≤ (0 : Int) := (by omega)
                      have q215 : 0 < (l0.length : Int) := of_decide_eq_true mS
                      obtain ⟨ad215, A215_0, c215_0, e215, hx215_0, hl215_0, hi215_0⟩ := at_L2 HR0.out 0 p215 q215
                      have hw215_0 := hx215_0
                      (try rw [show ((0 : Int)).toNat = 0 from rfl] at hw215_0)
                      (try rw [show 0 * 1 = 0 from rfl] at hw215_0)
                      (try rw [Addr.add_zero'] at hw215_0)
                      obtain rfl : ad212 = ad215 := (by injection e215)
                      have qi215 : (0 < l0.length) = True := eq_true (by omega)
                      (try rw [show ((0 : Int)).toNat = 0 from rfl] at hx215_0)
                      (try rw [Addr.add_zero'] at hx215_0)
                      replace hx215_0 := cB HB hx215_0
                      have HR215_0 := Aside0.mk hi215_0
                      have HC215_0 := Aside0.mk hl215_0
                      clear hi215_0 hl215_0
                      replace p215 := eq_true p215
                      replace q215 := eq_true q215
                      refine start_ (n := 18) (S := fun w' => w'.cell? (ad212.add (x6_2).toNat) = some (.slice A212_0 (rd_L2 l0 x6_2).length c212_0) ∧ w'.cell? (ad212.add (x6_2).toNat) = some (.slice A212_0 (rd_L2 l0 x6_2).length c212_0) ∧ w'.cell? ad212 = some (.slice A215_0 (rd_L2 l0 0).length c215_0)) (ds := []) #[false, false, false, false, false, false, false, false, false, false, false, false, false, false, false, false, false, false] (by kernel_rfl) rfl rfl ⟨(cD HB hw212_0), (cD HB hw214_0), (cD HB hw215_0)⟩ (fun hHeld => ?_); refine with_tabW spec_CountingSeries.tab6 spec_CountingSeries.bits6 (fun HT_ HW_ => ?_)
                      generalize wr.drew = w14 at HB HR212_0 HR214_0 HR215_0 hx212_0 hx214_0 hx215_0 hHeld ⊢
                      refine pu 0 31 HT_ (h := ?_)
                      refine pu 1 32 HT_ (h := ?_)
                      refine pu 2 33 HT_ (h := ?_)
                      refine ta 3 34 HT_ HW_ hHeld (hy := by rintro w' ⟨s0, s1, s2⟩; go_simp; with_reducible rfl) (h := ?_)
                      refine one_ (i := 4) (N := some 35) #[true, true, true, true, true, false, false, false, false, false, false, false, false, false, false, false, false, false] rfl rfl (one_of HT_.out (by kernel_rfl)) (by decide) (fun K hK => ?_)
                      refine go_ Try.func24 #[.slice A212_0 (rd_L2 l0 x6_2).length c212_0] (h := ?_)
                      with_reducible refine (spec_l04Permutation.calls k2 _ _ (rd_L2 l0 x6_2) true _ ?side1 ?side2 A10.out).mono ?_
                      (case side1 => exact mC (Kd.C_below HR212_0.out HB.out))
                      (case side2 => exact HC212_0.out)
                      rintro e w15 ⟨rfl, hb⟩
                      refine ⟨_, rfl, ?_⟩
                      have n0_ := Aside0.mk (below_step mB hb)
                      clear HB
                      have HB := n0_
                      clear n0_
                      (try clear hb)
                      (try clear hb2)
                      (try clear hk)
                      (try clear hi)
                      refine hK.out _ _ ⟨(cD HB hw212_0), (cD HB hw214_0), (cD HB hw215_0)⟩ (fun hHeld => ?_)
                      clear hK K
                      refine nm (h := ?_)
                      refine pu 5 36 HT_ (h := ?_)
                      refine pu 6 37 HT_ (h := ?_)
                      refine pu 7 38 HT_ (h := ?_)
                      refine pu 8 39 HT_ (h := ?_)
                      refine pu 9 40 HT_ (h := ?_)
                      refine pu 12 43 HT_ (h := ?_)
                      refine pu 13 44 HT_ (h := ?_)
                      refine ta 10 41 HT_ HW_ hHeld (hy := by rintro w' ⟨s0, s1, s2⟩; go_simp; with_reducible rfl) (h := ?_)
                      refine pu 11 42 HT_ (h := ?_)
                      refine ta 14 45 HT_ HW_ hHeld (hy := by rintro w' ⟨s0, s1, s2⟩; go_simp; with_reducible rfl) (h := ?_)
                      refine pu 15 46 HT_ (h := ?_)
                      refine pu 16 47 HT_ (h := ?_)
                      refine pu 17 48 HT_ (h := ?_)
                      refine done_ (done_of HT_.out (by kernel_rfl)) ?_
                      try go_wp2
                      go_roundg k2
                      case measure => have := HJ2.out; have := HK2.out; omega
                      case rel => exact ⟨(wrap64 (x6_2 + 1)), mF, H', ⟨by have := HJ2.out; have := HK2.out; omega⟩, ⟨mB⟩⟩
                    · rw [if_neg c13] at H
                      have c13b0 : (((rd_L2 l0 x6_2).length : Int) == ((rd_L2 l0 0).length : Int)) = false := beq_eq_false_iff_ne.mpr c13
                      have c13b1 : (((rd_L2 l0 x6_2).length : Int) != ((rd_L2 l0 0).length : Int)) = true := bne_iff_ne.mpr c13
                      have c13b2 : ((rd_L2 l0 x6_2).length == (rd_L2 l0 0).length) = false := by first | simpa using c13 | (simp at c13 ⊢; omega)
                      simp only [Option.some.injEq, Prod.mk.injEq] at H
                      obtain ⟨rfl, rfl⟩ := H
                      try go_wp2
                      have n0_ := Aside0.mk (below_drew1 HB.out)
                      clear HB
                      have HB := n0_
                      clear n0_
                      have p212 : 0 ≤ (x6_2 : Int) := of_decide_eq_true mS
                      have q212 : x6_2 < (l0.length : Int) := of_decide_eq_true mS
                      obtain ⟨ad212, A212_0, c212_0, e212, hx212_0, hl212_0, hi212_0⟩ := at_L2 HR0.out x6_2 p212 q212
                      have hw212_0 := hx212_0
                      cases e212
                      replace hx212_0 := cB HB hx212_0
                      have HR212_0 := Aside0.mk hi212_0
                      have HC212_0 := Aside0.mk hl212_0
                      clear hi212_0 hl212_0
                      replace p212 := eq_true p212
                      replace q212 := eq_true q212
                      have p214 : 0 ≤ (x6_2 : Int) := of_decide_eq_true mS
                      have q214 : x6_2 < (l0.length : Int) := of_decide_eq_true mS
                      obtain ⟨ad214, A214_0, c214_0, e214, hx214_0, hl214_0, hi214_0⟩ := at_L2 HR0.out x6_2 p214 q214
                      have hw214_0 := hx214_0
                      obtain rfl : ad212 = ad214 := (by injection e214)
                      replace hx214_0 := cB HB hx214_0
                      have HR214_0 := Aside0.mk hi214_0
                      have HC214_0 := Aside0.mk hl214_0
                      clear hi214_0 hl214_0
                      replace p214 := eq_true p214
                      replace q214 := eq_true q214
                      have ea_ := Option.some.inj (hx212_0.symm.trans hx214_0)
                      injection ea_ with ea_ en_ ec_
                      subst ea_
                      subst ec_
                      clear en_
                      have p215 : 0 ≤ (0 : Int) := (by omega)
                      have q215 : 0 < (l0.length : Int) := of_decide_eq_true mS
                      obtain ⟨ad215, A215_0, c215_0, e215, hx215_0, hl215_0, hi215_0⟩ := at_L2 HR0.out 0 p215 q215
                      have hw215_0 := hx215_0
                      (try rw [show ((0 : Int)).toNat = 0 from rfl] at hw215_0)
                      (try rw [show 0 * 1 = 0 from rfl] at hw215_0)
                      (try rw [Addr.add_zero'] at hw215_0)
                      obtain rfl : ad212 = ad215 := (by injection e215)
                      have qi215 : (0 < l0.length) = True := eq_true (by omega)
                      (try rw [show ((0 : Int)).toNat = 0 from rfl] at hx215_0)
                      (try rw [Addr.add_zero'] at hx215_0)
                      replace hx215_0 := cB HB hx215_0
                      have HR215_0 := Aside0.mk hi215_0
                      have HC215_0 := Aside0.mk hl215_0
                      clear hi215_0 hl215_0
                      replace p215 := eq_true p215
                      replace q215 := eq_true q215
                      refine start_ (n := 18) (S := fun w' => w'.cell? (ad212.add (x6_2).toNat) = some (.slice A212_0 (rd_L2 l0 x6_2).length c212_0) ∧ w'.cell? (ad212.add (x6_2).toNat) = some (.slice A212_0 (rd_L2 l0 x6_2).length c212_0) ∧ w'.cell? ad212 = some (.slice A215_0 (rd_L2 l0 0).length c215_0)) (ds := []) #[false, false, false, false, false, false, false, false, false, false, false, false, false, false, false, false, false, false] (by kernel_rfl) rfl rfl ⟨(cD HB hw212_0), (cD HB hw214_0), (cD HB hw215_0)⟩ (fun hHeld => ?_); refine with_tabW spec_CountingSeries.tab6 spec_CountingSeries.bits6 (fun HT_ HW_ => ?_)
                      generalize wr.drew = w16 at HB HR212_0 HR214_0 HR215_0 hx212_0 hx214_0 hx215_0 hHeld ⊢
                      refine pu 0 31 HT_ (h := ?_)
                      refine pu 1 32 HT_ (h := ?_)
                      refine pu 2 33 HT_ (h := ?_)
                      refine ta 3 34 HT_ HW_ hHeld (hy := by rintro w' ⟨s0, s1, s2⟩; go_simp; with_reducible rfl) (h := ?_)
                      refine one_ (i := 4) (N := some 35) #[true, true, true, true, true, false, false, false, false, false, false, false, false, false, false, false, false, false] rfl rfl (one_of HT_.out (by kernel_rfl)) (by decide) (fun K hK => ?_)
                      refine go_ Try.func24 #[.slice A212_0 (rd_L2 l0 x6_2).length c212_0] (h := ?_)
                      with_reducible refine (spec_l04Permutation.calls k2 _ _ (rd_L2 l0 x6_2) true _ ?side1 ?side2 A10.out).mono ?_
                      (case side1 => exact mC (Kd.C_below HR212_0.out HB.out))
                      (case side2 => exact HC212_0.out)
                      rintro e w17 ⟨rfl, hb⟩
                      refine ⟨_, rfl, ?_⟩
                      have n0_ := Aside0.mk (below_step mB hb)
                      clear HB
                      have HB := n0_
                      clear n0_
                      (try clear hb)
                      (try clear hb2)
                      (try clear hk)
                      (try clear hi)
                      refine hK.out _ _ ⟨(cD HB hw212_0), (cD HB hw214_0), (cD HB hw215_0)⟩ (fun hHeld => ?_)
                      clear hK K
                      refine nm (h := ?_)
                      refine pu 5 36 HT_ (h := ?_)
                      refine pu 6 37 HT_ (h := ?_)
                      refine pu 7 38 HT_ (h := ?_)
                      refine pu 8 39 HT_ (h := ?_)
                      refine pu 9 40 HT_ (h := ?_)
                      refine pu 12 43 HT_ (h := ?_)
                      refine pu 13 44 HT_ (h := ?_)
                      refine ta 10 41 HT_ HW_ hHeld (hy := by rintro w' ⟨s0, s1, s2⟩; go_simp; with_reducible rfl) (h := ?_)
                      refine pu 11 42 HT_ (h := ?_)
                      refine ta 14 45 HT_ HW_ hHeld (hy := by rintro w' ⟨s0, s1, s2⟩; go_simp; with_reducible rfl) (h := ?_)
                      refine pu 15 46 HT_ (h := ?_)
                      refine pu 16 47 HT_ (h := ?_)
                      refine pu 17 48 HT_ (h := ?_)
                      refine done_ (done_of HT_.out (by kernel_rfl)) ?_
                      try go_wp2
                      go_ret2
                      exact ⟨_, mE, by first | exact Kd.R_nil _ _ _ _ _ | exact Kd.N_nil _ _ _ _ _ | exact Kd.V_nil _ _ _ _ _ | exact Kd.Q_nil _ _ _ _ _ | exact Kd.S_nil _ _ _ _ _, mB⟩
                  · rw [if_neg c12] at H
                    exact absurd H (by simp)
                · replace c11 := Bool.eq_false_iff.mpr c11
                  subst c11
                  have H1 : (some (([] : List Int), 2)) = some (r1, r2) := by rw [if_neg (show ¬ (false = true) by decide)] at H; exact H
                  clear H
                  have H := H1
                  clear H1
                  simp only [Option.some.injEq, Prod.mk.injEq] at H
                  obtain ⟨rfl, rfl⟩ := H
                  try go_wp2
                  have n0_ := Aside0.mk (below_drew1 HB.out)
                  clear HB
                  have HB := n0_
                  clear n0_
                  have p212 : 0 ≤ (x6_2 : Int) := of_decide_eq_true mS
                  have q212 : x6_2 < (l0.length : Int) := of_decide_eq_true mS
                  obtain ⟨ad212, A212_0, c212_0, e212, hx212_0, hl212_0, hi212_0⟩ := at_L2 HR0.out x6_2 p212 q212
                  have hw212_0 := hx212_0
                  cases e212
                  replace hx212_0 := cB HB hx212_0
                  have HR212_0 := Aside0.mk hi212_0
                  have HC212_0 := Aside0.mk hl212_0
                  clear hi212_0 hl212_0
                  replace p212 := eq_true p212
                  replace q212 := eq_true q212
                  refine start_ (n := 18) (S := fun w' => w'.cell? (ad212.add (x6_2).toNat) = some (.slice A212_0 (rd_L2 l0 x6_2).length c212_0)) (ds := []) #[false, false, false, false, false, false, false, false, false, false, false, false, false, false, false, false, false, false] (by kernel_rfl) rfl rfl ((cD HB hw212_0)) (fun hHeld => ?_); refine with_tabW spec_CountingSeries.tab6 spec_CountingSeries.bits6 (fun HT_ HW_ => ?_)
                  generalize wr.drew = w18 at HB HR212_0 hx212_0 hHeld ⊢
                  refine pu 0 31 HT_ (h := ?_)
                  refine pu 1 32 HT_ (h := ?_)
                  refine pu 2 33 HT_ (h := ?_)
                  refine take_ (i := 3) (N := some 34) (v := ?_) (a' := ?_) #[true, true, true, true, false, false, false, false, false, false, false, false, false, false, false, false, false, false] rfl rfl (take_ofW HT_.out HW_.out (by kernel_rfl)) (fun _ _ _ h => h) (Or.inl ⟨by rfl, ?_⟩) hHeld ?_ ?_
                  rotate_left
                  · intro w' s0
                    go_simp
                    with_reducible rfl
                  rotate_left
                  · simp only [Act.put, List.setIfInBounds_toArray, List.set_cons_zero, List.set_cons_succ, i64_w, i32_w]
                    rfl
                  refine one_ (i := 4) (N := some 35) #[true, true, true, true, true, false, false, false, false, false, false, false, false, false, false, false, false, false] rfl rfl (one_of HT_.out (by kernel_rfl)) (by decide) (fun K hK => ?_)
                  refine go_ Try.func24 #[.slice A212_0 (rd_L2 l0 x6_2).length c212_0] (h := ?_)
                  with_reducible refine (spec_l04Permutation.calls k2 _ _ (rd_L2 l0 x6_2) false _ ?side1 ?side2 A10.out).mono ?_
                  (case side1 => exact mC (Kd.C_below HR212_0.out HB.out))
                  (case side2 => exact HC212_0.out)
                  rintro e w19 ⟨rfl, hb⟩
                  refine ⟨_, rfl, ?_⟩
                  have n0_ := Aside0.mk (below_step mB hb)
                  clear HB
                  have HB := n0_
                  clear n0_
                  (try clear hb)
                  (try clear hb2)
                  (try clear hk)
                  (try clear hi)
                  refine hK.out _ _ ((cD HB hw212_0)) (fun hHeld => ?_)
                  clear hK K
                  refine nm (h := ?_)
                  refine pu 5 36 HT_ (h := ?_)
                  refine pu 6 37 HT_ (h := ?_)
                  refine pv 7 38 HT_ (h := ?_)
                  refine pv 8 39 HT_ (h := ?_)
                  refine pv 9 40 HT_ (h := ?_)
                  refine pv 10 41 HT_ (h := ?_)
                  refine pv 11 42 HT_ (h := ?_)
                  refine pv 12 43 HT_ (h := ?_)
                  refine pv 13 44 HT_ (h := ?_)
                  refine pv 14 45 HT_ (h := ?_)
                  refine pv 15 46 HT_ (h := ?_)
                  refine pv 16 47 HT_ (h := ?_)
                  refine pu 17 48 HT_ (h := ?_)
                  refine done_ (done_of HT_.out (by kernel_rfl)) ?_
                  try go_wp2
                  go_ret2
                  exact ⟨_, mE, by first | exact Kd.R_nil _ _ _ _ _ | exact Kd.N_nil _ _ _ _ _ | exact Kd.V_nil _ _ _ _ _ | exact Kd.Q_nil _ _ _ _ _ | exact Kd.S_nil _ _ _ _ _, mB⟩
              · rw [if_neg c9] at H
                exact absurd H (by simp)
            · rw [if_neg c8] at H
              have c8b0 : decide (x6_2 < (l0.length : Int)) = false := decide_eq_false c8
              clear c8
              obtain ⟨ji20, hji20⟩ : ∃ j_ : Int, (wrap64 (a1 + 1)) = j_ := ⟨_, rfl⟩
              replace H : (if 0 ≤ (ji20) then (if (ji20 : Int).toNat ≤ 35184372088832 then (spec_CountingSeries.l1 k2 l0 a1 (List.replicate (ji20 : Int).toNat 0) 0) else (none)) else (none)) = some (r1, r2) := by first | (rw [hji20] at H; exact H) | (simp only [hji20] at H ⊢; exact H)
              have hji20w : (IntKind.i64.wrap (a1 + 1)) = ji20 := (i64_w _).trans hji20
              by_cases c21 : 0 ≤ (ji20)
              · rw [if_pos c21] at H
                have c21b0 := eq_true c21
                have c21b1 : decide (0 ≤ (ji20)) = true := decide_eq_true c21
                clear c21
                by_cases c22 : (ji20 : Int).toNat ≤ 35184372088832
                · rw [if_pos c22] at H
                  have c22b0 := eq_true c22
                  have c22b1 : decide ((ji20 : Int).toNat ≤ 35184372088832) = true := decide_eq_true c22
                  clear c22
                  obtain ⟨y216, hy216⟩ : ∃ y_ : List Int, y_ = (List.replicate (ji20 : Int).toNat 0) := ⟨_, rfl⟩
                  replace H : (spec_CountingSeries.l1 k2 l0 a1 y216 0) = some (r1, r2) := by first | (rw [hy216]; with_reducible exact H) | (have H2_ := (Option.bind_some _ _).symm.trans H; rw [hy216]; with_reducible exact H2_) | (have H2_ := (Option.bind_some _ _).symm.trans H; with_reducible exact H2_) | with_reducible exact H | (rw [hy216]; exact H) | exact H
                  have Ny216 := Aside0.mk hy216
                  clear hy216
                  have H' := Aside0.mk H
                  clear H
                  go_wp2_with (first | ((with_reducible refine gate_dst (N := 51) rfl ?_); (try (refine gate_guard (by rfl) ?_; dsimp only)); refine Kd.R_make (Kd.int .i64) _ 2 rfl (N := 51) rfl 22 _ _ rfl ji20 rfl rfl Try.underlying22 (.int .i64 0) 8 info2 rfl (by decide) (by omega) 0 (ok := fun _ => True) (okp := fun _ => True) rfl (fun _ hk => hk) trivial (of_decide_eq_true mS) (Nat.le_trans (Nat.mul_le_mul_right _ (of_decide_eq_true mS : ji20.toNat ≤ 35184372088832)) (by omega)) (Below.refl _ _) (Nat.le_refl _) ?_; intro v217 w23 ho24 hb hg_ hnew_; clear hg_ hnew_; (first | rw [← Ny216.out] at ho24 | (simp only [Int.reduceToNat] at ho24; rw [← Ny216.out] at ho24)); have n0_ := Aside0.mk (Kd.R_lower ho24 (below_size mB)); have n1_ := Aside0.mk (below_step mB hb); clear HB; have HO218 := n0_; have HB := n1_; clear n0_ n1_; clear hb ho24))
                  go_loopg [8] k2 (fun kq v8 w' => ∃ (x7_3 : List Int) (x8_3 : Int), v8 = .int .i64 x8_3 ∧ Aside0 (spec_CountingSeries.l1 kq l0 a1 x7_3 x8_3 = some (r1, r2)) ∧ Aside0 (kq ≤ k2) ∧ Aside0 (Kd.R (Kd.int .i64) 2 w' w.heap.size (fun _ => True) v217 x7_3) ∧ Aside0 (Below w.heap.size w w'))
                  case atStart => exact ⟨(y216), (0), mF, H', ⟨Nat.le_refl _⟩, ⟨mR HO218.out⟩, ⟨mB⟩⟩
                  case round =>
                    clear H'
                    try clear c1
                    try clear c2
                    try clear p2
                    try clear q2
                    try clear hx2
                    try clear qi2
                    try clear p6
                    try clear c8
                    try clear c8b0
                    try clear c9
                    try clear c11
                    try clear c12
                    try clear c13
                    try clear c13b0
                    try clear c13b1
                    try clear c13b2
                    try clear c21
                    try clear c21b0
                    try clear c21b1
                    try clear p21
                    try clear q21
                    try clear hx21
                    try clear qi21
                    try clear c22
                    try clear c22b0
                    try clear c22b1
                    try clear c24
                    try clear hx212_0
                    try clear hx214_0
                    try clear hx215_0
                    try clear p212
                    try clear p214
                    try clear p215
                    try clear q212
                    try clear q214
                    try clear q215
                    obtain ⟨x7_3, x8_3, rfl, HA, HK3, HO_7, HB⟩ := hrel
                    cases gk with
                    | zero => exact absurd HA.out (by simp [spec_CountingSeries.l1])
                    | succ k3 =>
                      have H := HA.out
                      clear HA
                      simp only [spec_CountingSeries.l1] at H
                      by_cases c25 : x8_3 < (l0.length : Int)
                      · rw [if_pos c25] at H
                        have c25b0 : decide (x8_3 < (l0.length : Int)) = true := decide_eq_true c25
                        clear c25
                        by_cases c26 : 0 ≤ x8_3
                        · rw [if_pos c26] at H
                          have c26b0 : decide (0 ≤ x8_3) = true := decide_eq_true c26
                          clear c26
                          replace H := Option.bind_eq_some_iff.mp H
                          obtain ⟨t220, A270, H⟩ := H
                          replace H : ((spec_l04Of.f k3 t220 a1).bind fun t223 => (spec_CountingSeries.l2 k3 l0 a1 x7_3 x8_3 t223 0)) = some (r1, r2) := H
                          have A27 := Aside0.mk A270
                          clear A270
                          replace H := Option.bind_eq_some_iff.mp H
                          obtain ⟨t223, A280, H⟩ := H
                          replace H : (spec_CountingSeries.l2 k3 l0 a1 x7_3 x8_3 t223 0) = some (r1, r2) := H
                          have A28 := Aside0.mk A280
                          clear A280
                          have H' := Aside0.mk H
                          clear H
                          have p219 : 0 ≤ (x8_3 : Int) := of_decide_eq_true mS
                          have q219 : x8_3 < (l0.length : Int) := of_decide_eq_true mS
                          obtain ⟨ad219, A219_0, c219_0, e219, hx219_0, hl219_0, hi219_0⟩ := at_L2 HR0.out x8_3 p219 q219
                          cases e219
                          replace hx219_0 := cB HB hx219_0
                          have HR219_0 := Aside0.mk hi219_0
                          have HC219_0 := Aside0.mk hl219_0
                          clear hi219_0 hl219_0
                          replace p219 := eq_true p219
                          replace q219 := eq_true q219
                          go_wp2_with (first | ((with_reducible refine gate_callee (f := 25) rfl ?_); refine goL (some 62) Try.func25 #[.slice A219_0 (rd_L2 l0 x8_3).length c219_0] (h := ?_); (with_reducible refine (spec_l04Cycles.calls k3 _ _ (rd_L2 l0 x8_3) t220 _ ?side1 ?side2 A27.out).mono ?_); (case side1 => exact mC (Kd.C_below HR219_0.out HB.out)); (case side2 => exact HC219_0.out); rintro e w29 ⟨v221, rfl, ho0, hb⟩; refine ⟨_, rfl, ?_⟩; have n0_ := Aside0.mk (Kd.R_elder' (mR HO_7.out) (Kd.R_base ho0) hb); have n1_ := Aside0.mk (Kd.R_lower (Kd.R_new' ho0 (Kd.R_lt (mR HO_7.out))) (below_size mB)); have n2_ := Aside0.mk (below_step mB hb); clear HO_7; clear HB; have HO_7 := n0_; have HO222 := n1_; have HB := n2_; clear n0_ n1_ n2_; (try clear hb); (try clear hb2); (try clear hk); (try clear hi); (try clear ho0); obtain ⟨Ao30, co30, eo30⟩ := Kd.R_slice HO222.out; subst eo30) | ((with_reducible refine gate_callee (f := 29) rfl ?_); refine goL (some 64) Try.func29 #[.slice Ao30 t220.length co30, .int .i64 a1] (h := ?_); (with_reducible refine (spec_l04Of.calls k3 _ _ t220 a1 t223 _ ?side1 ?side2 A28.out).mono ?_); (case side1 => repeat (first | exact (Kd.R_reads' HO222.out).2.2 | (with_reducible refine Kd.C_alloc ?_ _) | (with_reducible refine Kd.C_drewN ?_ _) | (with_reducible refine Kd.C_drew ?_))); (case side2 => exact (Kd.R_reads' HO222.out).2.1); rintro e w31 ⟨v224, rfl, ho0, hb⟩; refine ⟨_, rfl, ?_⟩; have n0_ := Aside0.mk (Kd.R_elder' (mR HO_7.out) (Kd.R_base ho0) hb); have n1_ := Aside0.mk (Kd.R_elder' (mR HO222.out) (Kd.R_base ho0) hb); have n2_ := Aside0.mk (Kd.R_lower (Kd.R_new' (Kd.R_new' ho0 (Kd.R_lt (mR HO_7.out))) (Kd.R_lt (mR HO222.out))) (below_size mB)); have n3_ := Aside0.mk (below_step mB hb); clear HO_7; clear HO222; clear HB; have HO_7 := n0_; have HO222 := n1_; have HO225 := n2_; have HB := n3_; clear n0_ n1_ n2_ n3_; (try clear hb); (try clear hb2); (try clear hk); (try clear hi); (try clear ho0)))
                          go_loopg [10] k3 (fun kq v10 w' => ∃ (x7_4 : List Int) (x10_4 : Int), v10 = .int .i64 x10_4 ∧ Aside0 (spec_CountingSeries.l2 kq l0 a1 x7_4 x8_3 t223 x10_4 = some (r1, r2)) ∧ Aside0 (kq ≤ k3) ∧ Aside0 (Kd.R (Kd.int .i64) 2 w' w.heap.size (fun k_ => some k_ ≠ (v224 : Value).ownBlock) v217 x7_4) ∧ Aside0 (Kd.R (Kd.int .i64) 2 w' w.heap.size (fun k_ => some k_ ≠ (v217 : Value).ownBlock) v224 t223) ∧ Aside0 (Below w.heap.size w w'))
                          case atStart => exact ⟨(x7_3), (0), mF, H', ⟨Nat.le_refl _⟩, ⟨by (with_reducible repeat (first | apply Kd.R_alloc | apply Kd.R_drewN | apply Kd.R_drew)); exact Kd.R_mono HO_7.out (fun _ hk => hk.2)⟩, ⟨by (with_reducible repeat (first | apply Kd.R_alloc | apply Kd.R_drewN | apply Kd.R_drew)); exact Kd.R_mono HO225.out (fun _ hk => hk.1.2)⟩, ⟨mB⟩⟩
                          case round =>
                            clear H'
                            try clear c1
                            try clear c2
                            try clear p2
                            try clear q2
                            try clear hx2
                            try clear qi2
                            try clear p6
                            try clear c8
                            try clear c8b0
                            try clear c9
                            try clear c11
                            try clear c12
                            try clear c13
                            try clear c13b0
                            try clear c13b1
                            try clear c13b2
                            try clear c21
                            try clear c21b0
                            try clear c21b1
                            try clear p21
                            try clear q21
                            try clear hx21
                            try clear qi21
                            try clear c22
                            try clear c22b0
                            try clear c22b1
                            try clear c24
                            try clear c25
                            try clear c25b0
                            try clear c26
                            try clear c26b0
                            try clear c29
                            try clear hx212_0
                            try clear hx214_0
                            try clear hx215_0
                            try clear hx219_0
                            try clear p2
                            try clear p21
                            try clear p212
                            try clear p214
                            try clear p215
                            try clear p219
                            try clear p6
                            try clear q2
                            try clear q21
                            try clear q212
                            try clear q214
                            try clear q215
                            try clear q219
                            obtain ⟨x7_4, x10_4, rfl, HA, HK4, HO_7, HO_9, HB⟩ := hrel
                            cases gk with
                            | zero => exact absurd HA.out (by simp [spec_CountingSeries.l2])
                            | succ k4 =>
                              have H := HA.out
                              clear HA
                              simp only [spec_CountingSeries.l2] at H
                              by_cases c32 : x10_4 ≤ a1
                              · rw [if_pos c32] at H
                                have c32b0 : decide (x10_4 ≤ a1) = true := decide_eq_true c32
                                clear c32
                                by_cases c33 : 0 ≤ x10_4
                                · rw [if_pos c33] at H
                                  have c33b0 : decide (0 ≤ x10_4) = true := decide_eq_true c33
                                  clear c33
                                  by_cases c34 : x10_4 < (x7_4.length : Int)
                                  · rw [if_pos c34] at H
                                    have c34b0 : decide (x10_4 < (x7_4.length : Int)) = true := decide_eq_true c34
                                    clear c34
                                    by_cases c35 : x10_4 < (t223.length : Int)
                                    · rw [if_pos c35] at H
                                      have c35b0 : decide (x10_4 < (t223.length : Int)) = true := decide_eq_true c35
                                      clear c35
                                      obtain ⟨y228, hy228⟩ : ∃ y_ : List Int, y_ = (x7_4.set (x10_4 : Int).toNat (wrap64 ((rd x7_4 x10_4) + (rd t223 x10_4)))) := ⟨_, rfl⟩
                                      replace H : (spec_CountingSeries.l2 k4 l0 a1 y228 x8_3 t223 (wrap64 (x10_4 + 1))) = some (r1, r2) := by first | (rw [hy228]; with_reducible exact H) | (have H2_ := (Option.bind_some _ _).symm.trans H; rw [hy228]; with_reducible exact H2_) | (have H2_ := (Option.bind_some _ _).symm.trans H; with_reducible exact H2_) | with_reducible exact H | (rw [hy228]; exact H) | exact H
                                      have Ny228 := Aside0.mk hy228
                                      clear hy228
                                      have H' := Aside0.mk H
                                      clear H
                                      try go_wp2
                                      have n0_ := Aside0.mk (Kd.R_drew HO_7.out)
                                      have n1_ := Aside0.mk (Kd.R_drew HO_9.out)
                                      have n2_ := Aside0.mk (below_drew1 HB.out)
                                      clear HO_7
                                      clear HO_9
                                      clear HB
                                      have HO_7 := n0_
                                      have HO_9 := n1_
                                      have HB := n2_
                                      clear n0_ n1_ n2_
                                      obtain ⟨Ao38, co38, eo38⟩ := Kd.R_slice HO_7.out
                                      (first | subst eo38 | (injection eo38 with f1_ f2_ f3_; have f4_ := f1_.symm; have f5_ := f3_.symm; clear f1_ f2_ f3_; subst f4_; subst f5_))
                                      have p226 : 0 ≤ (x10_4 : Int) := of_decide_eq_true mS
                                      have q226 : x10_4 < (x7_4.length : Int) := of_decide_eq_true mS
                                      obtain ⟨ad226, e226, hx226_0⟩ := Kd.at_int (Kd.R_reads' HO_7.out).2.2 x10_4 p226 q226
                                      cases e226
                                      replace p226 := eq_true p226
                                      replace q226 := eq_true q226
                                      obtain ⟨Ao39, co39, eo39⟩ := Kd.R_slice HO_9.out
                                      (first | subst eo39 | (injection eo39 with f1_ f2_ f3_; have f4_ := f1_.symm; have f5_ := f3_.symm; clear f1_ f2_ f3_; subst f4_; subst f5_))
                                      have p227 : 0 ≤ (x10_4 : Int) := of_decide_eq_true mS
                                      have q227 : x10_4 < (t223.length : Int) := of_decide_eq_true mS
                                      obtain ⟨ad227, e227, hx227_0⟩ := Kd.at_int (Kd.R_reads' HO_9.out).2.2 x10_4 p227 q227
                                      cases e227
                                      replace p227 := eq_true p227
                                      replace q227 := eq_true q227
                                      have p36 : 0 ≤ (x10_4 : Int) := of_decide_eq_true mS
                                      have q36 : (x10_4 : Int) < ((x7_4.length : Int) : Int) := of_decide_eq_true mS
                                      obtain ⟨go36, co36, eo36, gb36, gl36, cl36, HG36⟩ := Kd.R_form HO_7.out (by omega)
                                      (first | cases eo36 | (injection eo36 with ea_ en_ ec_; (first | subst ea_ | (injection ea_ with ea_; subst ea_)); subst ec_; clear en_))
                                      have GB36 := Aside0.mk gb36
                                      have GG36 := Aside0.mk HG36
                                      clear gb36 gl36 HG36
                                      (first | simp only [add_plain] at hx226_0 | skip)
                                      obtain ⟨hx36_0, hf36_0⟩ := Kd.R_celln 0 HO_7.out (x10_4 : Int) p36 q36
                                      replace p36 := eq_true p36
                                      replace q36 := eq_true q36
                                      have HP40 := Kd.R_putn HO_7.out (x10_4 : Int) (wrap64 ((rd x7_4 x10_4) + (rd t223 x10_4)))
                                      rw [← Ny228.out] at HP40
                                      have HQ40 := Aside0.mk HP40
                                      clear HP40
                                      refine start_ (n := 13) (S := fun w' => w'.cell? ⟨go36, (x10_4).toNat, none⟩ = some (.int .i64 (rd x7_4 x10_4)) ∧ w'.cell? (ad227.add (x10_4).toNat) = some (.int .i64 (rd t223 x10_4))) (ds := [12]) #[false, false, false, false, false, false, false, false, false, false, false, false, false] (by kernel_rfl) rfl rfl ⟨hx226_0, hx227_0⟩ (fun hHeld => ?_); refine with_tabW spec_CountingSeries.tab16 spec_CountingSeries.bits16 (fun HT_ HW_ => ?_)
                                      generalize wr.drew = w37 at HO_7 HO_9 HB GG36 HQ40 hf36_0 hx226_0 hx227_0 hx36_0 hHeld ⊢
                                      refine pu 0 70 HT_ (h := ?_)
                                      refine pu 1 71 HT_ (h := ?_)
                                      refine pu 2 72 HT_ (h := ?_)
                                      refine pu 3 73 HT_ (h := ?_)
                                      refine pu 4 74 HT_ (h := ?_)
                                      refine pu 6 76 HT_ (h := ?_)
                                      refine pu 7 77 HT_ (h := ?_)
                                      refine pu 8 78 HT_ (h := ?_)
                                      refine ta 5 75 HT_ HW_ hHeld (hy := by rintro w' ⟨s0, s1⟩; go_simp; with_reducible rfl) (h := ?_)
                                      refine ta 9 79 HT_ HW_ hHeld (hy := by rintro w' ⟨s0, s1⟩; go_simp; with_reducible rfl) (h := ?_)
                                      refine pu 10 80 HT_ (h := ?_)
                                      refine pu 11 81 HT_ (h := ?_)
                                      refine last_ (i := 12) (N := none) #[true, true, true, true, true, true, true, true, true, true, true, true, true] rfl rfl (one_of HT_.out (by kernel_rfl)) (by decide) (fun K hK => ?_)
                                      refine skip_ (w1 := ?_) (by rfl) rfl ?_ ?_
                                      rotate_left
                                      · go_simp
                                        rfl
                                      refine hK.out _ _ ?_
                                      clear hK K
                                      refine done_ (done_of HT_.out (by kernel_rfl)) ?_
                                      try go_wp2
                                      go_roundg k4
                                      case measure => have := HJ2.out; have := HK2.out; have := HK3.out; have := HK4.out; omega
                                      case rel => exact ⟨(y228), (wrap64 (x10_4 + 1)), mF, H', ⟨by have := HJ2.out; have := HK2.out; have := HK3.out; have := HK4.out; omega⟩, ⟨mR HQ40.out⟩, ⟨by (with_reducible repeat (first | apply Kd.R_alloc | apply Kd.R_drewN | apply Kd.R_drew)); exact Kd.R_mono (Kd.R_far (p := ⟨go36, (x10_4 : Int).toNat, none⟩) (Kd.R_mono HO_9.out (fun k_ hk => (⟨hk, fun e_ => hk (by rw [e_]; rfl)⟩ : _ ∧ k_ ≠ go36))) (fun _ hk => hk.2) (.int .i64 (wrap64 ((rd x7_4 x10_4) + (rd t223 x10_4))))) (fun _ hk => hk.1)⟩, ⟨by repeat (first | (with_reducible first | exact HB.out | apply below_alloc | apply pw_below_drewN | apply below_drew1 | refine below_set ?_ GB36.out) | exact HB.out)⟩⟩
                                    · rw [if_neg c35] at H
                                      exact absurd H (by simp)
                                  · rw [if_neg c34] at H
                                    exact absurd H (by simp)
                                · rw [if_neg c33] at H
                                  exact absurd H (by simp)
                              · rw [if_neg c32] at H
                                have c32b0 : decide (x10_4 ≤ a1) = false := decide_eq_false c32
                                clear c32
                                have H' := Aside0.mk H
                                clear H
                                go_wp2
                                go_roundg k4
                                case measure => have := HJ2.out; have := HK2.out; have := HK3.out; have := HK4.out; omega
                                case rel => exact ⟨(x7_4), (wrap64 (x8_3 + 1)), mF, H', ⟨by have := HJ2.out; have := HK2.out; have := HK3.out; have := HK4.out; omega⟩, ⟨by (with_reducible repeat (first | apply Kd.R_alloc | apply Kd.R_drewN | apply Kd.R_drew)); exact Kd.R_mono HO_7.out (fun _ hk => trivial)⟩, ⟨mB⟩⟩
                        · rw [if_neg c26] at H
                          exact absurd H (by simp)
                      · rw [if_neg c25] at H
                        have c25b0 : decide (x8_3 < (l0.length : Int)) = false := decide_eq_false c25
                        clear c25
                        have H' := Aside0.mk H
                        clear H
                        go_wp2
                        go_loopg [11] k3 (fun kq v11 w' => ∃ (x7_4 : List Int) (x11_4 : Int), v11 = .int .i64 x11_4 ∧ Aside0 (spec_CountingSeries.l3 kq l0 a1 x7_4 x11_4 = some (r1, r2)) ∧ Aside0 (kq ≤ k3) ∧ Aside0 (Kd.R (Kd.int .i64) 2 w' w.heap.size (fun _ => True) v217 x7_4) ∧ Aside0 (Below w.heap.size w w'))
                        case atStart => exact ⟨(x7_3), (0), mF, H', ⟨Nat.le_refl _⟩, ⟨mR HO_7.out⟩, ⟨mB⟩⟩
                        case round =>
                          clear H'
                          try clear c1
                          try clear c2
                          try clear p2
                          try clear q2
                          try clear hx2
                          try clear qi2
                          try clear c3
                          try clear p3
                          try clear q3
                          try clear hx3
                          try clear hf3
                          try clear p6
                          try clear c8
                          try clear c8b0
                          try clear c9
                          try clear c11
                          try clear c12
                          try clear c13
                          try clear c13b0
                          try clear c13b1
                          try clear c13b2
                          try clear c21
                          try clear c21b0
                          try clear c21b1
                          try clear p21
                          try clear q21
                          try clear hx21
                          try clear qi21
                          try clear c22
                          try clear c22b0
                          try clear c22b1
                          try clear p22
                          try clear q22
                          try clear hx22
                          try clear c24
                          try clear c25
                          try clear c25b0
                          try clear c26
                          try clear c26b0
                          try clear c29
                          try clear c32
                          try clear c32b0
                          try clear c33
                          try clear c33b0
                          try clear c34
                          try clear c34b0
                          try clear c35
                          try clear c35b0
                          try clear p36
                          try clear q36
                          try clear hx36
                          try clear hf36
                          try clear hx212_0
                          try clear hx214_0
                          try clear hx215_0
                          try clear hx219_0
                          try clear hx226_0
                          try clear hx227_0
                          try clear hx36_0
                          try clear p2
                          try clear p21
                          try clear p212
                          try clear p214
                          try clear p215
                          try clear p219
                          try clear p226
                          try clear p227
                          try clear p36
                          try clear p6
                          try clear q2
                          try clear q21
                          try clear q212
                          try clear q214
                          try clear q215
                          try clear q219
                          try clear q226
                          try clear q227
                          try clear q36
                          obtain ⟨x7_4, x11_4, rfl, HA, HK4, HO_7, HB⟩ := hrel
                          cases gk with
                          | zero => exact absurd HA.out (by simp [spec_CountingSeries.l3])
                          | succ k4 =>
                            have H := HA.out
                            clear HA
                            simp only [spec_CountingSeries.l3] at H
                            by_cases c41 : x11_4 ≤ a1
                            · rw [if_pos c41] at H
                              have c41b0 : decide (x11_4 ≤ a1) = true := decide_eq_true c41
                              clear c41
                              by_cases c42 : 0 ≤ x11_4
                              · rw [if_pos c42] at H
                                have c42b0 : decide (0 ≤ x11_4) = true := decide_eq_true c42
                                clear c42
                                by_cases c43 : x11_4 < (x7_4.length : Int)
                                · rw [if_pos c43] at H
                                  have c43b0 : decide (x11_4 < (x7_4.length : Int)) = true := decide_eq_true c43
                                  clear c43
                                  by_cases c44 : (l0.length : Int) = 0
                                  · rw [if_pos c44] at H
                                    exact absurd H (by simp)
                                  · rw [if_neg c44] at H
                                    have c44b0 : ((l0.length : Int) == 0) = false := beq_eq_false_iff_ne.mpr c44
                                    have c44b1 : ((l0.length : Int) != 0) = true := bne_iff_ne.mpr c44
                                    have c44b2 : ¬ (l0 = []) := fun h_ => c44 (by rw [h_]; rfl)
                                    by_cases c45 : (Int.tmod (rd x7_4 x11_4) (l0.length : Int)) = 0
                                    · rw [if_pos c45] at H
                                      have c45b0 : ((Int.tmod (rd x7_4 x11_4) (l0.length : Int)) == 0) = true := beq_iff_eq.mpr c45
                                      have c45b1 : ((Int.tmod (rd x7_4 x11_4) (l0.length : Int)) != 0) = false := bne_eq_false_iff_eq.mpr c45
                                      clear c45
                                      obtain ⟨y231, hy231⟩ : ∃ y_ : List Int, y_ = (x7_4.set (x11_4 : Int).toNat (wrap64 (Int.tdiv (rd x7_4 x11_4) (l0.length : Int)))) := ⟨_, rfl⟩
                                      replace H : (spec_CountingSeries.l3 k4 l0 a1 y231 (wrap64 (x11_4 + 1))) = some (r1, r2) := by first | (rw [hy231]; with_reducible exact H) | (have H2_ := (Option.bind_some _ _).symm.trans H; rw [hy231]; with_reducible exact H2_) | (have H2_ := (Option.bind_some _ _).symm.trans H; with_reducible exact H2_) | with_reducible exact H | (rw [hy231]; exact H) | exact H
                                      have Ny231 := Aside0.mk hy231
                                      clear hy231
                                      have H' := Aside0.mk H
                                      clear H
                                      obtain ⟨Ao47, co47, eo47⟩ := Kd.R_slice HO_7.out
                                      subst eo47
                                      have p229 : 0 ≤ (x11_4 : Int) := of_decide_eq_true mS
                                      have q229 : x11_4 < (x7_4.length : Int) := of_decide_eq_true mS
                                      obtain ⟨ad229, e229, hx229_0⟩ := Kd.at_int (Kd.R_reads' HO_7.out).2.2 x11_4 p229 q229
                                      cases e229
                                      replace p229 := eq_true p229
                                      replace q229 := eq_true q229
                                      have p230 : 0 ≤ (x11_4 : Int) := of_decide_eq_true mS
                                      have q230 : x11_4 < (x7_4.length : Int) := of_decide_eq_true mS
                                      obtain ⟨ad230, e230, hx230_0⟩ := Kd.at_int (Kd.R_reads' HO_7.out).2.2 x11_4 p230 q230
                                      obtain rfl : ad229 = ad230 := (by injection e230)
                                      replace p230 := eq_true p230
                                      replace q230 := eq_true q230
                                      have p46 : 0 ≤ (x11_4 : Int) := of_decide_eq_true mS
                                      have q46 : (x11_4 : Int) < ((x7_4.length : Int) : Int) := of_decide_eq_true mS
                                      obtain ⟨go46, co46, eo46, gb46, gl46, cl46, HG46⟩ := Kd.R_form HO_7.out (by omega)
                                      (first | cases eo46 | (injection eo46 with ea_ en_ ec_; (first | subst ea_ | (injection ea_ with ea_; subst ea_)); subst ec_; clear en_))
                                      have GB46 := Aside0.mk gb46
                                      have GG46 := Aside0.mk HG46
                                      clear gb46 gl46 HG46
                                      (first | simp only [add_plain] at hx229_0 | skip)
                                      (first | simp only [add_plain] at hx230_0 | skip)
                                      obtain ⟨hx46_0, hf46_0⟩ := Kd.R_celln 0 HO_7.out (x11_4 : Int) p46 q46
                                      replace p46 := eq_true p46
                                      replace q46 := eq_true q46
                                      have HP48 := Kd.R_putg HO_7.out (x11_4 : Int) (wrap64 (Int.tdiv (rd x7_4 x11_4) (l0.length : Int)))
                                      go_wp2_with (first | ((with_reducible refine gate_store (t := 2) (p := 104) rfl ?_); refine store_event (t := 2) (p := 104) (v := ?vo_w49) (w1 := (wr.setCell ⟨go46, (x11_4 : Int).toNat, none⟩ (.int .i64 (wrap64 (Int.tdiv (rd x7_4 x11_4) (l0.length : Int)))))) ?hg ?ho ?hn ?hr ?_; (case ho => rfl); (case hg => rfl); (case hn => rfl); (case hr => first | (go_simp; done) | (go_simp; rfl)); intro w49 hw; have hg : wr.grownBy w49 (some go46) := (by rw [hw]; exact HP48.2); have hp_ : Kd.R (Kd.int .i64) 2 w49 w.heap.size (fun _ => True) (.slice (some ⟨go46, 0, none⟩) x7_4.length co47) y231 := (by rw [hw, Ny231.out]; exact HP48.1); clear HP48; have n0_ := Aside0.mk (hp_); have n1_ := Aside0.mk ((by rw [hw]; exact below_set (HB.out) GB46.out : Below w.heap.size w w49)); clear HO_7; clear HB; have HO_7 := n0_; have HB := n1_; clear n0_ n1_; clear hg hw hp_))
                                      go_roundg k4
                                      case measure => have := HJ2.out; have := HK2.out; have := HK3.out; have := HK4.out; omega
                                      case rel => exact ⟨(y231), (wrap64 (x11_4 + 1)), mF, H', ⟨by have := HJ2.out; have := HK2.out; have := HK3.out; have := HK4.out; omega⟩, ⟨mR HO_7.out⟩, ⟨mB⟩⟩
                                    · rw [if_neg c45] at H
                                      have c45b0 : ((Int.tmod (rd x7_4 x11_4) (l0.length : Int)) == 0) = false := beq_eq_false_iff_ne.mpr c45
                                      have c45b1 : ((Int.tmod (rd x7_4 x11_4) (l0.length : Int)) != 0) = true := bne_iff_ne.mpr c45
                                      simp only [Option.some.injEq, Prod.mk.injEq] at H
                                      obtain ⟨rfl, rfl⟩ := H
                                      obtain ⟨Ao50, co50, eo50⟩ := Kd.R_slice HO_7.out
                                      subst eo50
                                      have p229 : 0 ≤ (x11_4 : Int) := of_decide_eq_true mS
                                      have q229 : x11_4 < (x7_4.length : Int) := of_decide_eq_true mS
                                      obtain ⟨ad229, e229, hx229_0⟩ := Kd.at_int (Kd.R_reads' HO_7.out).2.2 x11_4 p229 q229
                                      cases e229
                                      replace p229 := eq_true p229
                                      replace q229 := eq_true q229
                                      go_wp2
                                      go_ret2
                                      exact ⟨_, by first | rfl | (simp [errW_none, errW_some] <;> rfl) | (simp only [← hji20]; first | rfl | (simp [errW_none, errW_some] <;> rfl)) | (simp [*, errW_none, errW_some] <;> rfl), by first | exact Kd.R_nil _ _ _ _ _ | exact Kd.N_nil _ _ _ _ _ | exact Kd.V_nil _ _ _ _ _ | exact Kd.Q_nil _ _ _ _ _ | exact Kd.S_nil _ _ _ _ _, mB⟩
                                · rw [if_neg c43] at H
                                  exact absurd H (by simp)
                              · rw [if_neg c42] at H
                                exact absurd H (by simp)
                            · rw [if_neg c41] at H
                              have c41b0 : decide (x11_4 ≤ a1) = false := decide_eq_false c41
                              clear c41
                              simp only [Option.some.injEq, Prod.mk.injEq] at H
                              obtain ⟨rfl, rfl⟩ := H
                              go_wp2
                              go_ret2
                              exact ⟨_, by first | rfl | (simp [errW_none, errW_some] <;> rfl) | (simp only [← hji20]; first | rfl | (simp [errW_none, errW_some] <;> rfl)) | (simp [*, errW_none, errW_some] <;> rfl), mR HO_7.out, mB⟩
                · rw [if_neg c22] at H
                  exact absurd H (by simp)
              · rw [if_neg c21] at H
                exact absurd H (by simp)

end Go.Proofs.Ytpegpdcdcfcgdaa.EFnPermutationSeries
