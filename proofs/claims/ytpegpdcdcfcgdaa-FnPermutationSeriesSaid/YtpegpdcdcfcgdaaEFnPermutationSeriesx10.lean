/- The functions that the law uses, as plain functions, and that the code comes to what they say. -/
import Derived.Test.YtpegpdcdcfcgdaaEFnPermutationSeriesx0
import Derived.Test.YtpegpdcdcfcgdaaEFnPermutationSeriesx3
import Derived.Test.YtpegpdcdcfcgdaaEFnPermutationSeriesx5
import Derived.Test.YtpegpdcdcfcgdaaEFnPermutationSeriesx7
import Derived.Test.YtpegpdcdcfcgdaaEFnPermutationSeriesx8
import Derived.Test.YtpegpdcdcfcgdaaEFnPermutationSeriesx9
namespace Go.Proofs.Ytpegpdcdcfcgdaa.EFnPermutationSeries
open Go.RowKit Go.Proofs.YtpegpdcdcfcgdaaW.PrintWords Go.Proofs.YtpegpdcdcfcgdaaW.PrintLast Go.Proofs.YtpegpdcdcfcgdaaW.PrintMore Go.Proofs.YtpegpdcdcfcgdaaX
attribute [local go_sem] max2_int min2_int max_two min_two max_three min_three max_four min_four   -- for this text's walks alone
set_option linter.unusedVariables false
set_option linter.unusedSimpArgs false

/-! ### laws_sum: function 23 -/
def laws_sum.l0 : Nat → List Int → Int → Int → Option (Int)
  | 0, _, _, _ => none
  | k + 1, x0, x3, x4 => if x4 < (x0.length : Int) then (if 0 ≤ x4 then (laws_sum.l0 k x0 (wrap64 (x3 + (rd x0 x4))) (wrap64 (x4 + 1))) else (none)) else (some x3)
def laws_sum.f (k : Nat) (l0 : List Int) : Option (Int) := laws_sum.l0 k l0 0 0
theorem laws_sum.mono_l : ∀ k, (∀ y0 y1 y2, LeO (laws_sum.l0 k y0 y1 y2) (laws_sum.l0 (k + 1) y0 y1 y2))
  | 0 => fun _ _ _ r h => by simp [laws_sum.l0] at h
  | k + 1 => by
    have ih0 := laws_sum.mono_l k
    · intro y0 y1 y2
      unfold laws_sum.l0
      repeat' first
      | (with_reducible exact ih0 _ _ _)
      | (with_reducible exact LeO.refl _)
      | (with_reducible exact LeO.none _)
      | (with_reducible refine LeO.ite ?_ ?_)
      | (with_reducible refine LeO.bind ?_ (fun _ => ?_))
      | exact ih0 _ _ _
      | exact LeO.none _
      | refine LeO.ite ?_ ?_
      | refine LeO.bind ?_ (fun _ => ?_)
theorem laws_sum.mono : ∀ a0 k, LeO (laws_sum.f k a0) (laws_sum.f (k + 1) a0) := by
  intro a0 k
  have ih0 := laws_sum.mono_l k
  unfold laws_sum.f
  repeat' first
      | (with_reducible exact ih0 _ _ _)
      | (with_reducible exact LeO.refl _)
      | (with_reducible exact LeO.none _)
      | (with_reducible refine LeO.ite ?_ ?_)
      | (with_reducible refine LeO.bind ?_ (fun _ => ?_))
      | exact ih0 _ _ _
      | exact LeO.none _
      | refine LeO.ite ?_ ?_
      | refine LeO.bind ?_ (fun _ => ?_)
set_option maxHeartbeats 8000000 in
set_option maxRecDepth 100000 in
theorem laws_sum.calls (k : Nat) (A0 : Option Addr) (c0 : Nat) (l0 : List Int) (r : Int) (w : World) (hr0 : Kd.C (Kd.int .i64) w A0 l0.length l0) (hc0 : l0.length ≤ c0) (h : laws_sum.f k l0 = some r) :
    Calls Try.prog 23 #[.slice A0 l0.length c0] w fun e w' => e = .returned (.int .i64 r) ∧ Drawn0 w w' := by
  have HR0 := Aside0.mk hr0
  have HC0 := Aside0.mk hc0
  clear hr0 hc0
  have H : (laws_sum.l0 k l0 0 0) = some r := h
  clear h
  have H' := Aside0.mk H
  clear H
  go_enter Try.func23, Try.ntmps23
  go_wp2
  go_loopg [3, 4] k (fun kq v3 v4 w' => ∃ (x3_1 : Int) (x4_1 : Int), v3 = .int .i64 x3_1 ∧ v4 = .int .i64 x4_1 ∧ Aside0 (laws_sum.l0 kq l0 x3_1 x4_1 = some r) ∧ Aside0 (kq ≤ k) ∧ Drawn0 w w')
  case atStart => exact ⟨(0), (0), mF, mF, H', ⟨Nat.le_refl _⟩, by repeat (first | exact Drawn0.refl _ | apply Drawn0.step)⟩
  case round =>
    clear H'
    obtain ⟨x3_1, x4_1, rfl, rfl, HA, HK1, ⟨m1, rfl⟩⟩ := hrel
    cases gk with
    | zero => exact absurd HA.out (by simp [laws_sum.l0])
    | succ k1 =>
      have H := HA.out
      clear HA
      simp only [laws_sum.l0] at H
      by_cases c2 : x4_1 < (l0.length : Int)
      · rw [if_pos c2] at H
        have c2b0 : decide (x4_1 < (l0.length : Int)) = true := decide_eq_true c2
        clear c2
        by_cases c3 : 0 ≤ x4_1
        · rw [if_pos c3] at H
          have c3b0 : decide (0 ≤ x4_1) = true := decide_eq_true c3
          clear c3
          have H' := Aside0.mk H
          clear H
          have p382 : 0 ≤ (x4_1 : Int) := of_decide_eq_true mS
          have q382 : x4_1 < (l0.length : Int) := of_decide_eq_true mS
          obtain ⟨ad382, e382, hx382_0⟩ := Kd.at_int HR0.out x4_1 p382 q382
          cases e382
          replace p382 := eq_true p382
          replace q382 := eq_true q382
          go_wp2
          go_roundg k1
          case measure => have := HK1.out; omega
          case rel => exact ⟨(wrap64 (x3_1 + (rd l0 x4_1))), (wrap64 (x4_1 + 1)), mF, mF, H', ⟨by have := HK1.out; omega⟩, by repeat (first | exact Drawn0.refl _ | apply Drawn0.step)⟩
        · rw [if_neg c3] at H
          exact absurd H (by simp)
      · rw [if_neg c2] at H
        have c2b0 : decide (x4_1 < (l0.length : Int)) = false := decide_eq_false c2
        clear c2
        obtain rfl := Option.some.inj H
        go_wp2
        go_ret
        exact ⟨mF, by repeat (first | exact Drawn0.refl _ | apply Drawn0.step)⟩

/-! ### laws_FnPermutationSeries: function 5 -/
mutual
def laws_FnPermutationSeries.j0 : Nat → List Int → List Int → List Int → Int → Bool → Option (Bool)
  | 0, _, _, _, _, _ => none
  | k + 1, x0, x3, x4, x5, x40 => if x40 = true then (some false) else ((spec_DrawCountingSeries.f k x0).bind fun bt396 => ((impl_CountingSeries.f k bt396.1 bt396.2).bind fun bt400 => ((spec_CountingSeries.f k bt396.1 bt396.2).bind fun bt404 => (if bt400.2 = bt404.2 then ((laws_likeInts.f k bt400.1 bt404.1).bind fun t408 => (laws_FnPermutationSeries.j1 k x3 x4 x5 bt396.2 bt400.1 bt400.2 (!t408))) else (laws_FnPermutationSeries.j1 k x3 x4 x5 bt396.2 bt400.1 bt400.2 true)))))
def laws_FnPermutationSeries.j1 : Nat → List Int → List Int → Int → Int → List Int → Int → Bool → Option (Bool)
  | 0, _, _, _, _, _, _, _ => none
  | k + 1, x3, x4, x5, x9, x10, x11, x66 => if x66 = true then (some false) else (if x11 = 0 then (if 0 < (x10.length : Int) then (if (rd x10 0) = 1 then (laws_FnPermutationSeries.j2 k x3 x4 x5 ((x10.length : Int) != (wrap64 (x9 + 1)))) else (laws_FnPermutationSeries.j2 k x3 x4 x5 true)) else (none)) else (laws_FnPermutationSeries.j2 k x3 x4 x5 false))
def laws_FnPermutationSeries.j2 : Nat → List Int → List Int → Int → Bool → Option (Bool)
  | 0, _, _, _, _ => none
  | k + 1, x3, x4, x5, x81 => if x81 = true then (some false) else (if x5 = 0 then ((impl_CountingSeries.f k (([x3] : List (List Int))) 6).bind fun bt413 => ((impl_SeriesOfDegrees.f k (([1] : List Int)) 6).bind fun bt420 => (if bt413.2 = 0 then (if bt420.2 = 0 then (if 6 < (bt420.1.length : Int) then (if (rd bt420.1 6) = 1 then (if 0 < (bt413.1.length : Int) then (if (rd bt413.1 0) = 1 then ((laws_sum.f k x4).bind fun t426 => (some (t426 == (x3.length : Int)))) else (some false)) else (none)) else (some false)) else (none)) else (some false)) else (some false)))) else (some ((x4.length : Int) == 0)))
end
def laws_FnPermutationSeries.f (k : Nat) (l0 : List Int) : Option (Bool) := (laws_big.f l0).bind fun t383 => (if t383 = true then (some true) else ((spec_DrawCycleType.f k l0).bind fun t384 => ((impl_CycleType.f k t384).bind fun bt387 => ((spec_CycleType.f k t384).bind fun bt391 => (if bt387.2 = bt391.2 then ((laws_likeInts.f k bt387.1 bt391.1).bind fun t395 => (laws_FnPermutationSeries.j0 k l0 t384 bt387.1 bt387.2 (!t395))) else (laws_FnPermutationSeries.j0 k l0 t384 bt387.1 bt387.2 true))))))
theorem laws_FnPermutationSeries.mono_l : ∀ k, (∀ y0 y1 y2 y3 y4, LeO (laws_FnPermutationSeries.j0 k y0 y1 y2 y3 y4) (laws_FnPermutationSeries.j0 (k + 1) y0 y1 y2 y3 y4)) ∧ (∀ y0 y1 y2 y3 y4 y5 y6, LeO (laws_FnPermutationSeries.j1 k y0 y1 y2 y3 y4 y5 y6) (laws_FnPermutationSeries.j1 (k + 1) y0 y1 y2 y3 y4 y5 y6)) ∧ (∀ y0 y1 y2 y3, LeO (laws_FnPermutationSeries.j2 k y0 y1 y2 y3) (laws_FnPermutationSeries.j2 (k + 1) y0 y1 y2 y3))
  | 0 => ⟨fun _ _ _ _ _ r h => by simp [laws_FnPermutationSeries.j0] at h, fun _ _ _ _ _ _ _ r h => by simp [laws_FnPermutationSeries.j1] at h, fun _ _ _ _ r h => by simp [laws_FnPermutationSeries.j2] at h⟩
  | k + 1 => by
    obtain ⟨ih0, ih1, ih2⟩ := laws_FnPermutationSeries.mono_l k
    refine ⟨?_, ?_, ?_⟩
    · intro y0 y1 y2 y3 y4
      unfold laws_FnPermutationSeries.j0
      repeat' first
      | (with_reducible exact ih0 _ _ _ _ _)
      | (with_reducible exact ih1 _ _ _ _ _ _ _)
      | (with_reducible exact ih2 _ _ _ _)
      | (with_reducible exact impl_CountingSeries.mono _ _ _)
      | (with_reducible exact impl_CycleType.mono _ _)
      | (with_reducible exact impl_SeriesOfDegrees.mono _ _ _)
      | (with_reducible exact laws_likeInts.mono _ _ _)
      | (with_reducible exact laws_sum.mono _ _)
      | (with_reducible exact spec_CountingSeries.mono _ _ _)
      | (with_reducible exact spec_CycleType.mono _ _)
      | (with_reducible exact spec_DrawCountingSeries.mono _ _)
      | (with_reducible exact spec_DrawCycleType.mono _ _)
      | (with_reducible exact LeO.refl _)
      | (with_reducible exact LeO.none _)
      | (with_reducible refine LeO.ite ?_ ?_)
      | (with_reducible refine LeO.bind ?_ (fun _ => ?_))
      | exact ih0 _ _ _ _ _
      | exact ih1 _ _ _ _ _ _ _
      | exact ih2 _ _ _ _
      | exact impl_CountingSeries.mono _ _ _
      | exact impl_CycleType.mono _ _
      | exact impl_SeriesOfDegrees.mono _ _ _
      | exact laws_likeInts.mono _ _ _
      | exact laws_sum.mono _ _
      | exact spec_CountingSeries.mono _ _ _
      | exact spec_CycleType.mono _ _
      | exact spec_DrawCountingSeries.mono _ _
      | exact spec_DrawCycleType.mono _ _
      | exact LeO.none _
      | refine LeO.ite ?_ ?_
      | refine LeO.bind ?_ (fun _ => ?_)
    · intro y0 y1 y2 y3 y4 y5 y6
      unfold laws_FnPermutationSeries.j1
      repeat' first
      | (with_reducible exact ih0 _ _ _ _ _)
      | (with_reducible exact ih1 _ _ _ _ _ _ _)
      | (with_reducible exact ih2 _ _ _ _)
      | (with_reducible exact impl_CountingSeries.mono _ _ _)
      | (with_reducible exact impl_CycleType.mono _ _)
      | (with_reducible exact impl_SeriesOfDegrees.mono _ _ _)
      | (with_reducible exact laws_likeInts.mono _ _ _)
      | (with_reducible exact laws_sum.mono _ _)
      | (with_reducible exact spec_CountingSeries.mono _ _ _)
      | (with_reducible exact spec_CycleType.mono _ _)
      | (with_reducible exact spec_DrawCountingSeries.mono _ _)
      | (with_reducible exact spec_DrawCycleType.mono _ _)
      | (with_reducible exact LeO.refl _)
      | (with_reducible exact LeO.none _)
      | (with_reducible refine LeO.ite ?_ ?_)
      | (with_reducible refine LeO.bind ?_ (fun _ => ?_))
      | exact ih0 _ _ _ _ _
      | exact ih1 _ _ _ _ _ _ _
      | exact ih2 _ _ _ _
      | exact impl_CountingSeries.mono _ _ _
      | exact impl_CycleType.mono _ _
      | exact impl_SeriesOfDegrees.mono _ _ _
      | exact laws_likeInts.mono _ _ _
      | exact laws_sum.mono _ _
      | exact spec_CountingSeries.mono _ _ _
      | exact spec_CycleType.mono _ _
      | exact spec_DrawCountingSeries.mono _ _
      | exact spec_DrawCycleType.mono _ _
      | exact LeO.none _
      | refine LeO.ite ?_ ?_
      | refine LeO.bind ?_ (fun _ => ?_)
    · intro y0 y1 y2 y3
      unfold laws_FnPermutationSeries.j2
      repeat' first
      | (with_reducible exact ih0 _ _ _ _ _)
      | (with_reducible exact ih1 _ _ _ _ _ _ _)
      | (with_reducible exact ih2 _ _ _ _)
      | (with_reducible exact impl_CountingSeries.mono _ _ _)
      | (with_reducible exact impl_CycleType.mono _ _)
      | (with_reducible exact impl_SeriesOfDegrees.mono _ _ _)
      | (with_reducible exact laws_likeInts.mono _ _ _)
      | (with_reducible exact laws_sum.mono _ _)
      | (with_reducible exact spec_CountingSeries.mono _ _ _)
      | (with_reducible exact spec_CycleType.mono _ _)
      | (with_reducible exact spec_DrawCountingSeries.mono _ _)
      | (with_reducible exact spec_DrawCycleType.mono _ _)
      | (with_reducible exact LeO.refl _)
      | (with_reducible exact LeO.none _)
      | (with_reducible refine LeO.ite ?_ ?_)
      | (with_reducible refine LeO.bind ?_ (fun _ => ?_))
      | exact ih0 _ _ _ _ _
      | exact ih1 _ _ _ _ _ _ _
      | exact ih2 _ _ _ _
      | exact impl_CountingSeries.mono _ _ _
      | exact impl_CycleType.mono _ _
      | exact impl_SeriesOfDegrees.mono _ _ _
      | exact laws_likeInts.mono _ _ _
      | exact laws_sum.mono _ _
      | exact spec_CountingSeries.mono _ _ _
      | exact spec_CycleType.mono _ _
      | exact spec_DrawCountingSeries.mono _ _
      | exact spec_DrawCycleType.mono _ _
      | exact LeO.none _
      | refine LeO.ite ?_ ?_
      | refine LeO.bind ?_ (fun _ => ?_)
theorem laws_FnPermutationSeries.mono : ∀ a0 k, LeO (laws_FnPermutationSeries.f k a0) (laws_FnPermutationSeries.f (k + 1) a0) := by
  intro a0 k
  obtain ⟨ih0, ih1, ih2⟩ := laws_FnPermutationSeries.mono_l k
  unfold laws_FnPermutationSeries.f
  repeat' first
      | (with_reducible exact ih0 _ _ _ _ _)
      | (with_reducible exact ih1 _ _ _ _ _ _ _)
      | (with_reducible exact ih2 _ _ _ _)
      | (with_reducible exact impl_CountingSeries.mono _ _ _)
      | (with_reducible exact impl_CycleType.mono _ _)
      | (with_reducible exact impl_SeriesOfDegrees.mono _ _ _)
      | (with_reducible exact laws_likeInts.mono _ _ _)
      | (with_reducible exact laws_sum.mono _ _)
      | (with_reducible exact spec_CountingSeries.mono _ _ _)
      | (with_reducible exact spec_CycleType.mono _ _)
      | (with_reducible exact spec_DrawCountingSeries.mono _ _)
      | (with_reducible exact spec_DrawCycleType.mono _ _)
      | (with_reducible exact LeO.refl _)
      | (with_reducible exact LeO.none _)
      | (with_reducible refine LeO.ite ?_ ?_)
      | (with_reducible refine LeO.bind ?_ (fun _ => ?_))
      | exact ih0 _ _ _ _ _
      | exact ih1 _ _ _ _ _ _ _
      | exact ih2 _ _ _ _
      | exact impl_CountingSeries.mono _ _ _
      | exact impl_CycleType.mono _ _
      | exact impl_SeriesOfDegrees.mono _ _ _
      | exact laws_likeInts.mono _ _ _
      | exact laws_sum.mono _ _
      | exact spec_CountingSeries.mono _ _ _
      | exact spec_CycleType.mono _ _
      | exact spec_DrawCountingSeries.mono _ _
      | exact spec_DrawCycleType.mono _ _
      | exact LeO.none _
      | refine LeO.ite ?_ ?_
      | refine LeO.bind ?_ (fun _ => ?_)
set_option maxHeartbeats 8000000 in
set_option maxRecDepth 100000 in
theorem laws_FnPermutationSeries.calls (k : Nat) (A0 : Option Addr) (c0 : Nat) (l0 : List Int) (r : Bool) (w : World) (hr0 : Kd.C (Kd.int .u8) w A0 l0.length l0) (hc0 : l0.length ≤ c0) (h : laws_FnPermutationSeries.f k l0 = some r) :
    Calls Try.prog 5 #[.slice A0 l0.length c0] w fun e w' => e = .returned (.bool r) ∧ Below w.heap.size w w' := by
  have HR0 := Aside0.mk hr0
  have HC0 := Aside0.mk hc0
  clear hr0 hc0
  have HB := Aside0.mk (Below.refl w.heap.size w)
  have H : ((laws_big.f l0).bind fun t383 => (if t383 = true then (some true) else ((spec_DrawCycleType.f k l0).bind fun t384 => ((impl_CycleType.f k t384).bind fun bt387 => ((spec_CycleType.f k t384).bind fun bt391 => (if bt387.2 = bt391.2 then ((laws_likeInts.f k bt387.1 bt391.1).bind fun t395 => (laws_FnPermutationSeries.j0 k l0 t384 bt387.1 bt387.2 (!t395))) else (laws_FnPermutationSeries.j0 k l0 t384 bt387.1 bt387.2 true))))))) = some r := h
  clear h
  replace H := Option.bind_eq_some_iff.mp H
  obtain ⟨t383, A20, H⟩ := H
  replace H : (if t383 = true then (some true) else ((spec_DrawCycleType.f k l0).bind fun t384 => ((impl_CycleType.f k t384).bind fun bt387 => ((spec_CycleType.f k t384).bind fun bt391 => (if bt387.2 = bt391.2 then ((laws_likeInts.f k bt387.1 bt391.1).bind fun t395 => (laws_FnPermutationSeries.j0 k l0 t384 bt387.1 bt387.2 (!t395))) else (laws_FnPermutationSeries.j0 k l0 t384 bt387.1 bt387.2 true)))))) = some r := H
  have A2 := Aside0.mk A20
  clear A20
  by_cases c3 : t383 = true
  · subst c3
    have H1 : (some true) = some r := by rw [if_pos rfl] at H; exact H
    clear H
    have H := H1
    clear H1
    obtain rfl := Option.some.inj H
    go_enter Try.func5, Try.ntmps5
    go_wp2_with (first | ((with_reducible refine gate_callee (f := 18) rfl ?_); refine goL (some 19) Try.func18 #[.slice A0 l0.length c0] (h := ?_); (with_reducible refine (laws_big.calls _ _ l0 true _ ?side1 ?side2 A2.out).mono ?_); (case side1 => repeat (first | exact HR0.out | (with_reducible refine Kd.C_alloc ?_ _) | (with_reducible refine Kd.C_drewN ?_ _) | (with_reducible refine Kd.C_drew ?_))); (case side2 => exact HC0.out); rintro e w' ⟨rfl, ⟨nd, rfl⟩⟩; refine ⟨_, rfl, ?_⟩))
    go_ret
    exact ⟨mE, mB⟩
  · replace c3 := Bool.eq_false_iff.mpr c3
    subst c3
    have H1 : ((spec_DrawCycleType.f k l0).bind fun t384 => ((impl_CycleType.f k t384).bind fun bt387 => ((spec_CycleType.f k t384).bind fun bt391 => (if bt387.2 = bt391.2 then ((laws_likeInts.f k bt387.1 bt391.1).bind fun t395 => (laws_FnPermutationSeries.j0 k l0 t384 bt387.1 bt387.2 (!t395))) else (laws_FnPermutationSeries.j0 k l0 t384 bt387.1 bt387.2 true))))) = some r := by rw [if_neg (show ¬ (false = true) by decide)] at H; exact H
    clear H
    have H := H1
    clear H1
    replace H := Option.bind_eq_some_iff.mp H
    obtain ⟨t384, A40, H⟩ := H
    replace H : ((impl_CycleType.f k t384).bind fun bt387 => ((spec_CycleType.f k t384).bind fun bt391 => (if bt387.2 = bt391.2 then ((laws_likeInts.f k bt387.1 bt391.1).bind fun t395 => (laws_FnPermutationSeries.j0 k l0 t384 bt387.1 bt387.2 (!t395))) else (laws_FnPermutationSeries.j0 k l0 t384 bt387.1 bt387.2 true)))) = some r := H
    have A4 := Aside0.mk A40
    clear A40
    replace H := Option.bind_eq_some_iff.mp H
    obtain ⟨⟨t387, t388⟩, A50, H⟩ := H
    replace H : ((spec_CycleType.f k t384).bind fun bt391 => (if t388 = bt391.2 then ((laws_likeInts.f k t387 bt391.1).bind fun t395 => (laws_FnPermutationSeries.j0 k l0 t384 t387 t388 (!t395))) else (laws_FnPermutationSeries.j0 k l0 t384 t387 t388 true))) = some r := H
    have A5 := Aside0.mk A50
    clear A50
    replace H := Option.bind_eq_some_iff.mp H
    obtain ⟨⟨t391, t392⟩, A60, H⟩ := H
    replace H : (if t388 = t392 then ((laws_likeInts.f k t387 t391).bind fun t395 => (laws_FnPermutationSeries.j0 k l0 t384 t387 t388 (!t395))) else (laws_FnPermutationSeries.j0 k l0 t384 t387 t388 true)) = some r := H
    have A6 := Aside0.mk A60
    clear A60
    have HC7 := Aside0.mk H
    clear H
    go_enter Try.func5, Try.ntmps5
    go_upto_region 6 with (first | ((with_reducible refine gate_callee (f := 18) rfl ?_); refine goL (some 19) Try.func18 #[.slice A0 l0.length c0] (h := ?_); (with_reducible refine (laws_big.calls _ _ l0 false _ ?side1 ?side2 A2.out).mono ?_); (case side1 => repeat (first | exact HR0.out | (with_reducible refine Kd.C_alloc ?_ _) | (with_reducible refine Kd.C_drewN ?_ _) | (with_reducible refine Kd.C_drew ?_))); (case side2 => exact HC0.out); rintro e w' ⟨rfl, ⟨nd, rfl⟩⟩; refine ⟨_, rfl, ?_⟩) | ((with_reducible refine gate_callee (f := 19) rfl ?_); refine goL (some 21) Try.func19 #[.slice A0 l0.length c0] (h := ?_); (with_reducible refine (spec_DrawCycleType.calls k _ _ l0 t384 _ ?side1 ?side2 A4.out).mono ?_); (case side1 => repeat (first | exact HR0.out | (with_reducible refine Kd.C_alloc ?_ _) | (with_reducible refine Kd.C_drewN ?_ _) | (with_reducible refine Kd.C_drew ?_))); (case side2 => exact HC0.out); rintro e w8 ⟨v385, rfl, ho0, hb⟩; refine ⟨_, rfl, ?_⟩; have n0_ := Aside0.mk (Kd.R_lower ho0 (below_size mB)); have n1_ := Aside0.mk (below_step mB hb); clear HB; have HO386 := n0_; have HB := n1_; clear n0_ n1_; (try clear hb); (try clear hb2); (try clear hk); (try clear hi); (try clear ho0); obtain ⟨Ao9, co9, eo9⟩ := Kd.R_slice HO386.out; subst eo9) | ((with_reducible refine gate_callee (f := 8) rfl ?_); refine goL (some 24) Try.func8 #[.slice Ao9 t384.length co9] (h := ?_); (with_reducible refine (impl_CycleType.calls k _ _ t384 t387 t388 _ ?side1 ?side2 A5.out).mono ?_); (case side1 => repeat (first | exact (Kd.R_reads' HO386.out).2.2 | (with_reducible refine Kd.C_alloc ?_ _) | (with_reducible refine Kd.C_drewN ?_ _) | (with_reducible refine Kd.C_drew ?_))); (case side2 => exact (Kd.R_reads' HO386.out).2.1); rintro e w10 ⟨v389, rfl, ho0, hb⟩; refine ⟨_, rfl, ?_⟩; have n0_ := Aside0.mk (Kd.R_elder' (mR HO386.out) (Kd.R_base ho0) hb); have n1_ := Aside0.mk (Kd.R_lower (Kd.R_new' ho0 (Kd.R_lt (mR HO386.out))) (below_size mB)); have n2_ := Aside0.mk (below_step mB hb); clear HO386; clear HB; have HO386 := n0_; have HO390 := n1_; have HB := n2_; clear n0_ n1_ n2_; (try clear hb); (try clear hb2); (try clear hk); (try clear hi); (try clear ho0)) | ((with_reducible refine gate_callee (f := 6) rfl ?_); refine goL (some 29) Try.func6 #[.slice Ao9 t384.length co9] (h := ?_); (with_reducible refine (spec_CycleType.calls k _ _ t384 t391 t392 _ ?side1 ?side2 A6.out).mono ?_); (case side1 => repeat (first | exact (Kd.R_reads' HO386.out).2.2 | (with_reducible refine Kd.C_alloc ?_ _) | (with_reducible refine Kd.C_drewN ?_ _) | (with_reducible refine Kd.C_drew ?_))); (case side2 => exact (Kd.R_reads' HO386.out).2.1); rintro e w11 ⟨v393, rfl, ho0, hb⟩; refine ⟨_, rfl, ?_⟩; have n0_ := Aside0.mk (Kd.R_elder' (mR HO386.out) (Kd.R_base ho0) hb); have n1_ := Aside0.mk (Kd.R_elder' (mR HO390.out) (Kd.R_base ho0) hb); have n2_ := Aside0.mk (Kd.R_lower (Kd.R_new' (Kd.R_new' ho0 (Kd.R_lt (mR HO386.out))) (Kd.R_lt (mR HO390.out))) (below_size mB)); have n3_ := Aside0.mk (below_step mB hb); clear HO386; clear HO390; clear HB; have HO386 := n0_; have HO390 := n1_; have HO394 := n2_; have HB := n3_; clear n0_ n1_ n2_ n3_; (try clear hb); (try clear hb2); (try clear hk); (try clear hi); (try clear ho0)))
    (try simp only [Act.put, List.setIfInBounds_toArray, List.set_cons_zero, List.set_cons_succ])
    go_cut [40] (fun v40 wc => ∃ (kq : Nat) (x40_6 : Bool), v40 = .bool x40_6 ∧ Aside0 (laws_FnPermutationSeries.j0 kq l0 t384 t387 t388 x40_6 = some r) ∧ Aside0 (kq ≤ k) ∧ Aside0 (Kd.R (Kd.int .i64) 2 wc w.heap.size (fun k_ => some k_ ≠ (v389 : Value).ownBlock) (.slice Ao9 t384.length co9) t384) ∧ Aside0 (Kd.R (Kd.int .i64) 2 wc w.heap.size (fun k_ => some k_ ≠ ((.slice Ao9 t384.length co9) : Value).ownBlock) v389 t387) ∧ Aside0 (Below w.heap.size w wc))
    case first =>
      have H := HC7.out
      clear HC7
      by_cases c12 : t388 = t392
      · rw [if_pos c12] at H
        have c12b0 : (t388 == t392) = true := beq_iff_eq.mpr c12
        have c12b1 : (t388 != t392) = false := bne_eq_false_iff_eq.mpr c12
        clear c12
        (first | rw [c12b0] | (simp only [i64_w, i32_w]; rw [c12b0]) | skip)
        replace H := Option.bind_eq_some_iff.mp H
        obtain ⟨t395, A130, H⟩ := H
        replace H : (laws_FnPermutationSeries.j0 k l0 t384 t387 t388 (!t395)) = some r := H
        have A13 := Aside0.mk A130
        clear A130
        have H' := Aside0.mk H
        clear H
        obtain ⟨Ao14, co14, eo14⟩ := Kd.R_slice HO390.out
        subst eo14
        obtain ⟨Ao15, co15, eo15⟩ := Kd.R_slice HO394.out
        subst eo15
        go_wp2_with (first | (go_at_call 20; (with_reducible refine (laws_likeInts.calls k _ _ t387 _ _ t391 t395 _ ?side1 ?side2 ?side3 ?side4 A13.out).mono ?_); (case side1 => repeat (first | exact (Kd.R_reads' HO390.out).2.2 | (with_reducible refine Kd.C_alloc ?_ _) | (with_reducible refine Kd.C_drewN ?_ _) | (with_reducible refine Kd.C_drew ?_))); (case side2 => exact (Kd.R_reads' HO390.out).2.1); (case side3 => repeat (first | exact (Kd.R_reads' HO394.out).2.2 | (with_reducible refine Kd.C_alloc ?_ _) | (with_reducible refine Kd.C_drewN ?_ _) | (with_reducible refine Kd.C_drew ?_))); (case side4 => exact (Kd.R_reads' HO394.out).2.1); rintro e w' ⟨rfl, ⟨nd, rfl⟩⟩))
        go_meet
        case rel => exact ⟨_, (!t395), mF, H', ⟨by first | omega | exact Nat.le_refl _⟩, ⟨by (with_reducible repeat (first | apply Kd.R_alloc | apply Kd.R_drewN | apply Kd.R_drew)); exact Kd.R_mono HO386.out (fun _ hk => hk.1.2)⟩, ⟨by (with_reducible repeat (first | apply Kd.R_alloc | apply Kd.R_drewN | apply Kd.R_drew)); exact Kd.R_mono HO390.out (fun _ hk => hk.1.2)⟩, ⟨mB⟩⟩
      · rw [if_neg c12] at H
        have c12b0 : (t388 == t392) = false := beq_eq_false_iff_ne.mpr c12
        have c12b1 : (t388 != t392) = true := bne_iff_ne.mpr c12
        (first | rw [c12b0] | (simp only [i64_w, i32_w]; rw [c12b0]) | skip)
        have H' := Aside0.mk H
        clear H
        go_wp2
        go_meet
        case rel => exact ⟨_, (true), mF, H', ⟨by first | omega | exact Nat.le_refl _⟩, ⟨by (with_reducible repeat (first | apply Kd.R_alloc | apply Kd.R_drewN | apply Kd.R_drew)); exact Kd.R_mono HO386.out (fun _ hk => hk.1.2)⟩, ⟨by (with_reducible repeat (first | apply Kd.R_alloc | apply Kd.R_drewN | apply Kd.R_drew)); exact Kd.R_mono HO390.out (fun _ hk => hk.1.2)⟩, ⟨mB⟩⟩
    case rest =>
      clear HC7
      try clear c1
      try clear p2
      try clear c3
      try clear c5
      try clear c6
      try clear c8
      try clear c12
      try clear c12b0
      try clear c12b1
      obtain ⟨kq, x40_6, rfl, HA, HJ6, HO_3, HO_4, HB⟩ := hcut
      cases kq with
      | zero => exact absurd HA.out (by simp [laws_FnPermutationSeries.j0])
      | succ kj6 =>
        have H := HA.out
        clear HA
        simp only [laws_FnPermutationSeries.j0] at H
        by_cases c16 : x40_6 = true
        · subst c16
          have H1 : (some false) = some r := by rw [if_pos rfl] at H; exact H
          clear H
          have H := H1
          clear H1
          obtain rfl := Option.some.inj H
          go_wp2
          go_ret
          exact ⟨mE, mB⟩
        · replace c16 := Bool.eq_false_iff.mpr c16
          subst c16
          have H1 : ((spec_DrawCountingSeries.f kj6 l0).bind fun bt396 => ((impl_CountingSeries.f kj6 bt396.1 bt396.2).bind fun bt400 => ((spec_CountingSeries.f kj6 bt396.1 bt396.2).bind fun bt404 => (if bt400.2 = bt404.2 then ((laws_likeInts.f kj6 bt400.1 bt404.1).bind fun t408 => (laws_FnPermutationSeries.j1 kj6 t384 t387 t388 bt396.2 bt400.1 bt400.2 (!t408))) else (laws_FnPermutationSeries.j1 kj6 t384 t387 t388 bt396.2 bt400.1 bt400.2 true))))) = some r := by rw [if_neg (show ¬ (false = true) by decide)] at H; exact H
          clear H
          have H := H1
          clear H1
          replace H := Option.bind_eq_some_iff.mp H
          obtain ⟨⟨t396, t399⟩, A170, H⟩ := H
          replace H : ((impl_CountingSeries.f kj6 t396 t399).bind fun bt400 => ((spec_CountingSeries.f kj6 t396 t399).bind fun bt404 => (if bt400.2 = bt404.2 then ((laws_likeInts.f kj6 bt400.1 bt404.1).bind fun t408 => (laws_FnPermutationSeries.j1 kj6 t384 t387 t388 t399 bt400.1 bt400.2 (!t408))) else (laws_FnPermutationSeries.j1 kj6 t384 t387 t388 t399 bt400.1 bt400.2 true)))) = some r := H
          have A17 := Aside0.mk A170
          clear A170
          replace H := Option.bind_eq_some_iff.mp H
          obtain ⟨⟨t400, t401⟩, A180, H⟩ := H
          replace H : ((spec_CountingSeries.f kj6 t396 t399).bind fun bt404 => (if t401 = bt404.2 then ((laws_likeInts.f kj6 t400 bt404.1).bind fun t408 => (laws_FnPermutationSeries.j1 kj6 t384 t387 t388 t399 t400 t401 (!t408))) else (laws_FnPermutationSeries.j1 kj6 t384 t387 t388 t399 t400 t401 true))) = some r := H
          have A18 := Aside0.mk A180
          clear A180
          replace H := Option.bind_eq_some_iff.mp H
          obtain ⟨⟨t404, t405⟩, A190, H⟩ := H
          replace H : (if t401 = t405 then ((laws_likeInts.f kj6 t400 t404).bind fun t408 => (laws_FnPermutationSeries.j1 kj6 t384 t387 t388 t399 t400 t401 (!t408))) else (laws_FnPermutationSeries.j1 kj6 t384 t387 t388 t399 t400 t401 true)) = some r := H
          have A19 := Aside0.mk A190
          clear A190
          have HC20 := Aside0.mk H
          clear H
          go_upto_region 11 with (first | ((with_reducible refine gate_callee (f := 21) rfl ?_); refine goL (some 43) Try.func21 #[.slice A0 l0.length c0] (h := ?_); (with_reducible refine (spec_DrawCountingSeries.calls kj6 _ _ l0 t396 t399 _ ?side1 ?side2 A17.out).mono ?_); (case side1 => exact mC (Kd.C_below HR0.out HB.out)); (case side2 => exact HC0.out); rintro e w21 ⟨v397, rfl, ho0, hb⟩; refine ⟨_, rfl, ?_⟩; have n0_ := Aside0.mk (Kd.R_below (mR HO_3.out) hb); have n1_ := Aside0.mk (Kd.R_below (mR HO_4.out) hb); have n2_ := Aside0.mk (Kd.N_lower (Kd.N_mono (ok' := fun k_ => some k_ ≠ (.slice Ao9 t384.length co9 : Value).ownBlock ∧ some k_ ≠ (v389 : Value).ownBlock) ho0 (fun k_ hk_ => ⟨(Kd.fresh' (Kd.R_lt (mR HO_3.out)) k_ hk_), (Kd.fresh' (Kd.R_lt (mR HO_4.out)) k_ hk_)⟩)) (below_size mB)); have n3_ := Aside0.mk (below_step mB hb); clear HO_3; clear HO_4; clear HB; have HO_3 := n0_; have HO_4 := n1_; have HO398 := n2_; have HB := n3_; clear n0_ n1_ n2_ n3_; (try clear hb); (try clear hb2); (try clear hk); (try clear hi); (try clear ho0); obtain ⟨Ao22, co22, eo22⟩ := Kd.N_slice HO398.out; subst eo22) | ((with_reducible refine gate_callee (f := 15) rfl ?_); refine goL (some 49) Try.func15 #[.slice Ao22 t396.length co22, .int .i64 t399] (h := ?_); (with_reducible refine (impl_CountingSeries.calls kj6 _ _ t396 t399 t400 t401 _ ?side1 ?side2 A18.out).mono ?_); (case side1 => repeat (first | exact (Kd.N_reads' HO398.out).2.2 | (with_reducible refine Kd.C_alloc ?_ _) | (with_reducible refine Kd.C_drewN ?_ _) | (with_reducible refine Kd.C_drew ?_))); (case side2 => exact (Kd.N_reads' HO398.out).2.1); rintro e w23 ⟨v402, rfl, ho0, hb⟩; refine ⟨_, rfl, ?_⟩; have n0_ := Aside0.mk (Kd.R_elder' (mR HO_3.out) (Kd.R_base ho0) hb); have n1_ := Aside0.mk (Kd.R_elder' (mR HO_4.out) (Kd.R_base ho0) hb); have n2_ := Aside0.mk (Kd.N_elder' (by (with_reducible repeat (first | apply Kd.N_alloc | apply Kd.N_drewN | apply Kd.N_drew)); exact HO398.out) (Kd.R_base ho0) hb); have n3_ := Aside0.mk (Kd.R_lower (Kd.R_new' (Kd.R_new' ho0 (Kd.R_lt (mR HO_3.out))) (Kd.R_lt (mR HO_4.out))) (below_size mB)); have n4_ := Aside0.mk (below_step mB hb); clear HO_3; clear HO_4; clear HO398; clear HB; have HO_3 := n0_; have HO_4 := n1_; have HO398 := n2_; have HO403 := n3_; have HB := n4_; clear n0_ n1_ n2_ n3_ n4_; (try clear hb); (try clear hb2); (try clear hk); (try clear hi); (try clear ho0)) | ((with_reducible refine gate_callee (f := 13) rfl ?_); refine goL (some 55) Try.func13 #[.slice Ao22 t396.length co22, .int .i64 t399] (h := ?_); (with_reducible refine (spec_CountingSeries.calls kj6 _ _ t396 t399 t404 t405 _ ?side1 ?side2 A19.out).mono ?_); (case side1 => repeat (first | exact (Kd.N_reads' HO398.out).2.2 | (with_reducible refine Kd.C_alloc ?_ _) | (with_reducible refine Kd.C_drewN ?_ _) | (with_reducible refine Kd.C_drew ?_))); (case side2 => exact (Kd.N_reads' HO398.out).2.1); rintro e w24 ⟨v406, rfl, ho0, hb⟩; refine ⟨_, rfl, ?_⟩; have n0_ := Aside0.mk (Kd.R_elder' (mR HO_3.out) (Kd.R_base ho0) hb); have n1_ := Aside0.mk (Kd.R_elder' (mR HO_4.out) (Kd.R_base ho0) hb); have n2_ := Aside0.mk (Kd.N_elder' (by (with_reducible repeat (first | apply Kd.N_alloc | apply Kd.N_drewN | apply Kd.N_drew)); exact HO398.out) (Kd.R_base ho0) hb); have n3_ := Aside0.mk (Kd.R_elder' (mR HO403.out) (Kd.R_base ho0) hb); have n4_ := Aside0.mk (Kd.R_lower (Kd.R_new' (Kd.R_new' (Kd.R_new' ho0 (Kd.R_lt (mR HO_3.out))) (Kd.R_lt (mR HO_4.out))) (Kd.R_lt (mR HO403.out))) (below_size mB)); have n5_ := Aside0.mk (below_step mB hb); clear HO_3; clear HO_4; clear HO398; clear HO403; clear HB; have HO_3 := n0_; have HO_4 := n1_; have HO398 := n2_; have HO403 := n3_; have HO407 := n4_; have HB := n5_; clear n0_ n1_ n2_ n3_ n4_ n5_; (try clear hb); (try clear hb2); (try clear hk); (try clear hi); (try clear ho0)))
          (try simp only [Act.put, List.setIfInBounds_toArray, List.set_cons_zero, List.set_cons_succ])
          go_cut [66] (fun v66 wc => ∃ (kq : Nat) (x66_19 : Bool), v66 = .bool x66_19 ∧ Aside0 (laws_FnPermutationSeries.j1 kq t384 t387 t388 t399 t400 t401 x66_19 = some r) ∧ Aside0 (kq ≤ kj6) ∧ Aside0 (Kd.R (Kd.int .i64) 2 wc w.heap.size (fun k_ => some k_ ≠ (v389 : Value).ownBlock ∧ some k_ ≠ (v402 : Value).ownBlock) (.slice Ao9 t384.length co9) t384) ∧ Aside0 (Kd.R (Kd.int .i64) 2 wc w.heap.size (fun k_ => some k_ ≠ ((.slice Ao9 t384.length co9) : Value).ownBlock ∧ some k_ ≠ (v402 : Value).ownBlock) v389 t387) ∧ Aside0 (Kd.R (Kd.int .i64) 2 wc w.heap.size (fun k_ => some k_ ≠ ((.slice Ao9 t384.length co9) : Value).ownBlock ∧ some k_ ≠ (v389 : Value).ownBlock) v402 t400) ∧ Aside0 (Below w.heap.size w wc))
          case first =>
            have H := HC20.out
            clear HC20
            by_cases c25 : t401 = t405
            · rw [if_pos c25] at H
              have c25b0 : (t401 == t405) = true := beq_iff_eq.mpr c25
              have c25b1 : (t401 != t405) = false := bne_eq_false_iff_eq.mpr c25
              clear c25
              (first | rw [c25b0] | (simp only [i64_w, i32_w]; rw [c25b0]) | skip)
              replace H := Option.bind_eq_some_iff.mp H
              obtain ⟨t408, A260, H⟩ := H
              replace H : (laws_FnPermutationSeries.j1 kj6 t384 t387 t388 t399 t400 t401 (!t408)) = some r := H
              have A26 := Aside0.mk A260
              clear A260
              have H' := Aside0.mk H
              clear H
              obtain ⟨Ao27, co27, eo27⟩ := Kd.R_slice HO403.out
              subst eo27
              obtain ⟨Ao28, co28, eo28⟩ := Kd.R_slice HO407.out
              subst eo28
              go_wp2_with (first | (go_at_call 20; (with_reducible refine (laws_likeInts.calls kj6 _ _ t400 _ _ t404 t408 _ ?side1 ?side2 ?side3 ?side4 A26.out).mono ?_); (case side1 => repeat (first | exact (Kd.R_reads' HO403.out).2.2 | (with_reducible refine Kd.C_alloc ?_ _) | (with_reducible refine Kd.C_drewN ?_ _) | (with_reducible refine Kd.C_drew ?_))); (case side2 => exact (Kd.R_reads' HO403.out).2.1); (case side3 => repeat (first | exact (Kd.R_reads' HO407.out).2.2 | (with_reducible refine Kd.C_alloc ?_ _) | (with_reducible refine Kd.C_drewN ?_ _) | (with_reducible refine Kd.C_drew ?_))); (case side4 => exact (Kd.R_reads' HO407.out).2.1); rintro e w' ⟨rfl, ⟨nd, rfl⟩⟩))
              go_meet
              case rel => exact ⟨_, (!t408), mF, H', ⟨by have := HJ6.out; first | omega | exact Nat.le_refl _⟩, ⟨by (with_reducible repeat (first | apply Kd.R_alloc | apply Kd.R_drewN | apply Kd.R_drew)); exact Kd.R_mono HO_3.out (fun _ hk => ⟨hk.1.1, hk.1.2⟩)⟩, ⟨by (with_reducible repeat (first | apply Kd.R_alloc | apply Kd.R_drewN | apply Kd.R_drew)); exact Kd.R_mono HO_4.out (fun _ hk => ⟨hk.1.1, hk.1.2⟩)⟩, ⟨by (with_reducible repeat (first | apply Kd.R_alloc | apply Kd.R_drewN | apply Kd.R_drew)); exact Kd.R_mono HO403.out (fun _ hk => ⟨hk.1.1.2, hk.1.2⟩)⟩, ⟨mB⟩⟩
            · rw [if_neg c25] at H
              have c25b0 : (t401 == t405) = false := beq_eq_false_iff_ne.mpr c25
              have c25b1 : (t401 != t405) = true := bne_iff_ne.mpr c25
              (first | rw [c25b0] | (simp only [i64_w, i32_w]; rw [c25b0]) | skip)
              have H' := Aside0.mk H
              clear H
              go_wp2
              go_meet
              case rel => exact ⟨_, (true), mF, H', ⟨by have := HJ6.out; first | omega | exact Nat.le_refl _⟩, ⟨by (with_reducible repeat (first | apply Kd.R_alloc | apply Kd.R_drewN | apply Kd.R_drew)); exact Kd.R_mono HO_3.out (fun _ hk => ⟨hk.1.1, hk.1.2⟩)⟩, ⟨by (with_reducible repeat (first | apply Kd.R_alloc | apply Kd.R_drewN | apply Kd.R_drew)); exact Kd.R_mono HO_4.out (fun _ hk => ⟨hk.1.1, hk.1.2⟩)⟩, ⟨by (with_reducible repeat (first | apply Kd.R_alloc | apply Kd.R_drewN | apply Kd.R_drew)); exact Kd.R_mono HO403.out (fun _ hk => ⟨hk.1.1.2, hk.1.2⟩)⟩, ⟨mB⟩⟩
          case rest =>
            clear HC20
            try clear c1
            try clear c2
            try clear p2
            try clear c3
            try clear c5
            try clear c6
            try clear c8
            try clear c12
            try clear c12b0
            try clear c12b1
            try clear c13
            try clear c15
            try clear c16
            try clear c18
            try clear c19
            try clear c21
            try clear c25
            try clear c25b0
            try clear c25b1
            try clear p2
            obtain ⟨kq, x66_19, rfl, HA, HJ19, HO_3, HO_4, HO_10, HB⟩ := hcut
            cases kq with
            | zero => exact absurd HA.out (by simp [laws_FnPermutationSeries.j1])
            | succ kj19 =>
              have H := HA.out
              clear HA
              simp only [laws_FnPermutationSeries.j1] at H
              by_cases c29 : x66_19 = true
              · subst c29
                have H1 : (some false) = some r := by rw [if_pos rfl] at H; exact H
                clear H
                have H := H1
                clear H1
                obtain rfl := Option.some.inj H
                go_wp2
                go_ret
                exact ⟨mE, mB⟩
              · replace c29 := Bool.eq_false_iff.mpr c29
                subst c29
                have H1 : (if t401 = 0 then (if 0 < (t400.length : Int) then (if (rd t400 0) = 1 then (laws_FnPermutationSeries.j2 kj19 t384 t387 t388 ((t400.length : Int) != (wrap64 (t399 + 1)))) else (laws_FnPermutationSeries.j2 kj19 t384 t387 t388 true)) else (none)) else (laws_FnPermutationSeries.j2 kj19 t384 t387 t388 false)) = some r := by rw [if_neg (show ¬ (false = true) by decide)] at H; exact H
                clear H
                have H := H1
                clear H1
                have HC30 := Aside0.mk H
                clear H
                go_upto_region 13 with (fail)
                go_cut [81] (fun v81 wc => ∃ (kq : Nat) (x81_29 : Bool), v81 = .bool x81_29 ∧ Aside0 (laws_FnPermutationSeries.j2 kq t384 t387 t388 x81_29 = some r) ∧ Aside0 (kq ≤ kj19) ∧ Aside0 (Kd.R (Kd.int .i64) 2 wc w.heap.size (fun k_ => some k_ ≠ (v389 : Value).ownBlock) (.slice Ao9 t384.length co9) t384) ∧ Aside0 (Kd.R (Kd.int .i64) 2 wc w.heap.size (fun k_ => some k_ ≠ ((.slice Ao9 t384.length co9) : Value).ownBlock) v389 t387) ∧ Aside0 (Below w.heap.size w wc))
                case first =>
                  have H := HC30.out
                  clear HC30
                  by_cases c31 : t401 = 0
                  · rw [if_pos c31] at H
                    have c31b0 : (t401 == 0) = true := beq_iff_eq.mpr c31
                    have c31b1 : (t401 != 0) = false := bne_eq_false_iff_eq.mpr c31
                    clear c31
                    (first | rw [c31b0] | (simp only [i64_w, i32_w]; rw [c31b0]) | skip)
                    by_cases c32 : 0 < (t400.length : Int)
                    · rw [if_pos c32] at H
                      have c32b0 : decide (0 < (t400.length : Int)) = true := decide_eq_true c32
                      have c32b1 : decide (0 < t400.length) = true := decide_eq_true (by omega)
                      clear c32
                      by_cases c33 : (rd t400 0) = 1
                      · rw [if_pos c33] at H
                        have c33b0 : ((rd t400 0) == 1) = true := beq_iff_eq.mpr c33
                        have c33b1 : ((rd t400 0) != 1) = false := bne_eq_false_iff_eq.mpr c33
                        clear c33
                        have H' := Aside0.mk H
                        clear H
                        obtain ⟨Ao34, co34, eo34⟩ := Kd.R_slice HO_10.out
                        subst eo34
                        have p409 : 0 ≤ (0 : Int) := (by omega)
                        have q409 : 0 < (t400.length : Int) := of_decide_eq_true mS
                        obtain ⟨ad409, e409, hx409_0⟩ := Kd.at_int (Kd.R_reads' HO_10.out).2.2 0 p409 q409
                        cases e409
                        have qi409 : (0 < t400.length) = True := eq_true (by omega)
                        (try rw [show ((0 : Int)).toNat = 0 from rfl] at hx409_0)
                        (try rw [Addr.add_zero'] at hx409_0)
                        replace p409 := eq_true p409
                        replace q409 := eq_true q409
                        go_wp2
                        go_meet
                        case rel => exact ⟨_, (((t400.length : Int) != (wrap64 (t399 + 1)))), mF, H', ⟨by have := HJ6.out; have := HJ19.out; first | omega | exact Nat.le_refl _⟩, ⟨by (with_reducible repeat (first | apply Kd.R_alloc | apply Kd.R_drewN | apply Kd.R_drew)); exact Kd.R_mono HO_3.out (fun _ hk => hk.1)⟩, ⟨by (with_reducible repeat (first | apply Kd.R_alloc | apply Kd.R_drewN | apply Kd.R_drew)); exact Kd.R_mono HO_4.out (fun _ hk => hk.1)⟩, ⟨mB⟩⟩
                      · rw [if_neg c33] at H
                        have c33b0 : ((rd t400 0) == 1) = false := beq_eq_false_iff_ne.mpr c33
                        have c33b1 : ((rd t400 0) != 1) = true := bne_iff_ne.mpr c33
                        have H' := Aside0.mk H
                        clear H
                        obtain ⟨Ao35, co35, eo35⟩ := Kd.R_slice HO_10.out
                        subst eo35
                        have p409 : 0 ≤ (0 : Int) := (by omega)
                        have q409 : 0 < (t400.length : Int) := of_decide_eq_true mS
                        obtain ⟨ad409, e409, hx409_0⟩ := Kd.at_int (Kd.R_reads' HO_10.out).2.2 0 p409 q409
                        cases e409
                        have qi409 : (0 < t400.length) = True := eq_true (by omega)
                        (try rw [show ((0 : Int)).toNat = 0 from rfl] at hx409_0)
                        (try rw [Addr.add_zero'] at hx409_0)
                        replace p409 := eq_true p409
                        replace q409 := eq_true q409
                        go_wp2
                        go_meet
                        case rel => exact ⟨_, (true), mF, H', ⟨by have := HJ6.out; have := HJ19.out; first | omega | exact Nat.le_refl _⟩, ⟨by (with_reducible repeat (first | apply Kd.R_alloc | apply Kd.R_drewN | apply Kd.R_drew)); exact Kd.R_mono HO_3.out (fun _ hk => hk.1)⟩, ⟨by (with_reducible repeat (first | apply Kd.R_alloc | apply Kd.R_drewN | apply Kd.R_drew)); exact Kd.R_mono HO_4.out (fun _ hk => hk.1)⟩, ⟨mB⟩⟩
                    · rw [if_neg c32] at H
                      exact absurd H (by simp)
                  · rw [if_neg c31] at H
                    have c31b0 : (t401 == 0) = false := beq_eq_false_iff_ne.mpr c31
                    have c31b1 : (t401 != 0) = true := bne_iff_ne.mpr c31
                    (first | rw [c31b0] | (simp only [i64_w, i32_w]; rw [c31b0]) | skip)
                    have H' := Aside0.mk H
                    clear H
                    go_wp2
                    go_meet
                    case rel => exact ⟨_, (false), mF, H', ⟨by have := HJ6.out; have := HJ19.out; first | omega | exact Nat.le_refl _⟩, ⟨by (with_reducible repeat (first | apply Kd.R_alloc | apply Kd.R_drewN | apply Kd.R_drew)); exact Kd.R_mono HO_3.out (fun _ hk => hk.1)⟩, ⟨by (with_reducible repeat (first | apply Kd.R_alloc | apply Kd.R_drewN | apply Kd.R_drew)); exact Kd.R_mono HO_4.out (fun _ hk => hk.1)⟩, ⟨mB⟩⟩
                case rest =>
                  clear HC30
                  try clear c1
                  try clear c2
                  try clear p2
                  try clear c3
                  try clear p4
                  try clear q4
                  try clear hx4
                  try clear qi4
                  try clear c5
                  try clear c6
                  try clear p6
                  try clear c8
                  try clear c12
                  try clear c12b0
                  try clear c12b1
                  try clear c13
                  try clear c15
                  try clear c16
                  try clear c18
                  try clear c19
                  try clear c21
                  try clear c25
                  try clear c25b0
                  try clear c25b1
                  try clear c29
                  try clear c31
                  try clear c31b0
                  try clear c31b1
                  try clear c32
                  try clear c32b0
                  try clear c32b1
                  try clear c33
                  try clear c33b0
                  try clear c33b1
                  try clear hx409_0
                  try clear p2
                  try clear p409
                  try clear q409
                  obtain ⟨kq, x81_29, rfl, HA, HJ29, HO_3, HO_4, HB⟩ := hcut
                  cases kq with
                  | zero => exact absurd HA.out (by simp [laws_FnPermutationSeries.j2])
                  | succ kj29 =>
                    have H := HA.out
                    clear HA
                    simp only [laws_FnPermutationSeries.j2] at H
                    by_cases c36 : x81_29 = true
                    · subst c36
                      have H1 : (some false) = some r := by rw [if_pos rfl] at H; exact H
                      clear H
                      have H := H1
                      clear H1
                      obtain rfl := Option.some.inj H
                      go_wp2
                      go_ret
                      exact ⟨mE, mB⟩
                    · replace c36 := Bool.eq_false_iff.mpr c36
                      subst c36
                      have H1 : (if t388 = 0 then ((impl_CountingSeries.f kj29 (([t384] : List (List Int))) 6).bind fun bt413 => ((impl_SeriesOfDegrees.f kj29 (([1] : List Int)) 6).bind fun bt420 => (if bt413.2 = 0 then (if bt420.2 = 0 then (if 6 < (bt420.1.length : Int) then (if (rd bt420.1 6) = 1 then (if 0 < (bt413.1.length : Int) then (if (rd bt413.1 0) = 1 then ((laws_sum.f kj29 t387).bind fun t426 => (some (t426 == (t384.length : Int)))) else (some false)) else (none)) else (some false)) else (none)) else (some false)) else (some false)))) else (some ((t387.length : Int) == 0))) = some r := by rw [if_neg (show ¬ (false = true) by decide)] at H; exact H
                      clear H
                      have H := H1
                      clear H1
                      by_cases c37 : t388 = 0
                      · rw [if_pos c37] at H
                        have c37b0 : (t388 == 0) = true := beq_iff_eq.mpr c37
                        have c37b1 : (t388 != 0) = false := bne_eq_false_iff_eq.mpr c37
                        clear c37
                        obtain ⟨y410, hy410⟩ : ∃ y_ : List (List Int), y_ = (([t384] : List (List Int))) := ⟨_, rfl⟩
                        replace H : ((impl_CountingSeries.f kj29 y410 6).bind fun bt413 => ((impl_SeriesOfDegrees.f kj29 (([1] : List Int)) 6).bind fun bt420 => (if bt413.2 = 0 then (if bt420.2 = 0 then (if 6 < (bt420.1.length : Int) then (if (rd bt420.1 6) = 1 then (if 0 < (bt413.1.length : Int) then (if (rd bt413.1 0) = 1 then ((laws_sum.f kj29 t387).bind fun t426 => (some (t426 == (t384.length : Int)))) else (some false)) else (none)) else (some false)) else (none)) else (some false)) else (some false)))) = some r := by first | (rw [hy410]; with_reducible exact H) | (have H2_ := (Option.bind_some _ _).symm.trans H; rw [hy410]; with_reducible exact H2_) | (have H2_ := (Option.bind_some _ _).symm.trans H; with_reducible exact H2_) | with_reducible exact H | (rw [hy410]; exact H) | exact H
                        have Ny410 := Aside0.mk hy410
                        clear hy410
                        replace H := Option.bind_eq_some_iff.mp H
                        obtain ⟨⟨t413, t414⟩, A380, H⟩ := H
                        replace H : ((impl_SeriesOfDegrees.f kj29 (([1] : List Int)) 6).bind fun bt420 => (if t414 = 0 then (if bt420.2 = 0 then (if 6 < (bt420.1.length : Int) then (if (rd bt420.1 6) = 1 then (if 0 < (t413.length : Int) then (if (rd t413 0) = 1 then ((laws_sum.f kj29 t387).bind fun t426 => (some (t426 == (t384.length : Int)))) else (some false)) else (none)) else (some false)) else (none)) else (some false)) else (some false))) = some r := H
                        have A38 := Aside0.mk A380
                        clear A380
                        obtain ⟨y417, hy417⟩ : ∃ y_ : List Int, y_ = (([1] : List Int)) := ⟨_, rfl⟩
                        replace H : ((impl_SeriesOfDegrees.f kj29 y417 6).bind fun bt420 => (if t414 = 0 then (if bt420.2 = 0 then (if 6 < (bt420.1.length : Int) then (if (rd bt420.1 6) = 1 then (if 0 < (t413.length : Int) then (if (rd t413 0) = 1 then ((laws_sum.f kj29 t387).bind fun t426 => (some (t426 == (t384.length : Int)))) else (some false)) else (none)) else (some false)) else (none)) else (some false)) else (some false))) = some r := by first | (rw [hy417]; with_reducible exact H) | (have H2_ := (Option.bind_some _ _).symm.trans H; rw [hy417]; with_reducible exact H2_) | (have H2_ := (Option.bind_some _ _).symm.trans H; with_reducible exact H2_) | with_reducible exact H | (rw [hy417]; exact H) | exact H
                        have Ny417 := Aside0.mk hy417
                        clear hy417
                        replace H := Option.bind_eq_some_iff.mp H
                        obtain ⟨⟨t420, t421⟩, A390, H⟩ := H
                        replace H : (if t414 = 0 then (if t421 = 0 then (if 6 < (t420.length : Int) then (if (rd t420 6) = 1 then (if 0 < (t413.length : Int) then (if (rd t413 0) = 1 then ((laws_sum.f kj29 t387).bind fun t426 => (some (t426 == (t384.length : Int)))) else (some false)) else (none)) else (some false)) else (none)) else (some false)) else (some false)) = some r := H
                        have A39 := Aside0.mk A390
                        clear A390
                        by_cases c40 : t414 = 0
                        · rw [if_pos c40] at H
                          have c40b0 : (t414 == 0) = true := beq_iff_eq.mpr c40
                          have c40b1 : (t414 != 0) = false := bne_eq_false_iff_eq.mpr c40
                          clear c40
                          by_cases c41 : t421 = 0
                          · rw [if_pos c41] at H
                            have c41b0 : (t421 == 0) = true := beq_iff_eq.mpr c41
                            have c41b1 : (t421 != 0) = false := bne_eq_false_iff_eq.mpr c41
                            clear c41
                            by_cases c42 : 6 < (t420.length : Int)
                            · rw [if_pos c42] at H
                              have c42b0 : decide (6 < (t420.length : Int)) = true := decide_eq_true c42
                              have c42b1 : decide (6 < t420.length) = true := decide_eq_true (by omega)
                              clear c42
                              by_cases c43 : (rd t420 6) = 1
                              · rw [if_pos c43] at H
                                have c43b0 : ((rd t420 6) == 1) = true := beq_iff_eq.mpr c43
                                have c43b1 : ((rd t420 6) != 1) = false := bne_eq_false_iff_eq.mpr c43
                                clear c43
                                by_cases c44 : 0 < (t413.length : Int)
                                · rw [if_pos c44] at H
                                  have c44b0 : decide (0 < (t413.length : Int)) = true := decide_eq_true c44
                                  have c44b1 : decide (0 < t413.length) = true := decide_eq_true (by omega)
                                  clear c44
                                  by_cases c45 : (rd t413 0) = 1
                                  · rw [if_pos c45] at H
                                    have c45b0 : ((rd t413 0) == 1) = true := beq_iff_eq.mpr c45
                                    have c45b1 : ((rd t413 0) != 1) = false := bne_eq_false_iff_eq.mpr c45
                                    clear c45
                                    replace H := Option.bind_eq_some_iff.mp H
                                    obtain ⟨t426, A460, H⟩ := H
                                    replace H : (some (t426 == (t384.length : Int))) = some r := H
                                    have A46 := Aside0.mk A460
                                    clear A460
                                    obtain rfl := Option.some.inj H
                                    go_wp2_with (first | ((with_reducible refine gate_dst (N := 89) rfl ?_); (try (refine gate_guard (by rfl) ?_; dsimp only)); refine Kd.N_lit (Kd.slice 2 (Kd.int .i64)) _ 22 ?hg (N' := 89) ?hd (xs := ([t384] : List (List Int))) (inner := [.slice Ao9 t384.length co9]) (ok := (fun k_ => some k_ ≠ (v389 : Value).ownBlock)) (okp := (fun k_ => some k_ ≠ (v389 : Value).ownBlock)) ?hr ?hp (fun _ hk => hk) ((show ∀ k_, wc.heap.size ≤ k_ → (fun k_ => some k_ ≠ (v389 : Value).ownBlock) k_ from fun k_ hk => Kd.fresh' (Kd.R_lt (mR HO_4.out)) k_ hk) _ (Nat.le_refl _)) (Below.refl _ _) (Nat.le_refl _) (by simp) ?_; (case hd => rfl); (case hg => rfl); (case hr => first | (go_simp; done) | (go_simp; rfl)); (case hp => exact (Reps.one (show Kd.FK (Kd.slice 2 (Kd.int .i64)) _ _ t384 [.slice Ao9 t384.length co9] from (Kd.FK_slice_mk (Kd.R_reads' (Kd.R_mono (ok' := (fun k_ => some k_ ≠ (v389 : Value).ownBlock)) (HO_3.out) (fun k_ hk => hk))).2.1 (Kd.R_F (Kd.R_mono (ok' := (fun k_ => some k_ ≠ (v389 : Value).ownBlock)) (HO_3.out) (fun k_ hk => hk))))) (Reps.none _ _))); intro v411 w47 ho48 hb hg_ hnew_; clear hg_ hnew_; (first | rw [← Ny410.out] at ho48 | (simp only [Int.reduceToNat] at ho48; rw [← Ny410.out] at ho48)); have n0_ := Aside0.mk (Kd.R_below (mR HO_4.out) hb); have n1_ := Aside0.mk (Kd.N_lower ho48 (below_size mB)); have n2_ := Aside0.mk (below_step mB hb); clear HO_4; clear HB; clear HO_3; have HO_4 := n0_; have HO412 := n1_; have HB := n2_; clear n0_ n1_ n2_; clear hb ho48; obtain ⟨Ao49, co49, eo49⟩ := Kd.N_slice HO412.out; subst eo49) | ((with_reducible refine gate_callee (f := 15) rfl ?_); refine goL (some 90) Try.func15 #[.slice Ao49 y410.length co49, .int .i64 6] (h := ?_); (with_reducible refine (impl_CountingSeries.calls kj29 _ _ y410 6 t413 t414 _ ?side1 ?side2 A38.out).mono ?_); (case side1 => repeat (first | exact (Kd.N_reads' HO412.out).2.2 | (with_reducible refine Kd.C_alloc ?_ _) | (with_reducible refine Kd.C_drewN ?_ _) | (with_reducible refine Kd.C_drew ?_))); (case side2 => exact (Kd.N_reads' HO412.out).2.1); rintro e w50 ⟨v415, rfl, ho0, hb⟩; refine ⟨_, rfl, ?_⟩; have n0_ := Aside0.mk (Kd.R_elder' (mR HO_4.out) (Kd.R_base ho0) hb); have n1_ := Aside0.mk (Kd.N_elder' (by (with_reducible repeat (first | apply Kd.N_alloc | apply Kd.N_drewN | apply Kd.N_drew)); exact HO412.out) (Kd.R_base ho0) hb); have n2_ := Aside0.mk (Kd.R_lower (Kd.R_new' ho0 (Kd.R_lt (mR HO_4.out))) (below_size mB)); have n3_ := Aside0.mk (below_step mB hb); clear HO_4; clear HO412; clear HB; have HO_4 := n0_; have HO412 := n1_; have HO416 := n2_; have HB := n3_; clear n0_ n1_ n2_ n3_; (try clear hb); (try clear hb2); (try clear hk); (try clear hi); (try clear ho0)) | ((with_reducible refine gate_dst (N := 94) rfl ?_); (try (refine gate_guard (by rfl) ?_; dsimp only)); refine Kd.R_lit (Kd.int .i64) _ 2 ?hg (N := 94) ?hd (xs := ([1] : List Int)) (inner := [.int .i64 1]) (ok := fun _ => True) (okp := fun _ => True) ?hr ?hp (fun _ hk => hk) trivial (Below.refl _ _) (Nat.le_refl _) (by simp) ?_; (case hd => rfl); (case hg => rfl); (case hr => first | (go_simp; done) | (go_simp; rfl)); (case hp => exact (Reps.one (show Kd.M (Kd.int .i64) _ _ _ 1 [.int .i64 1] from rfl) (Reps.none _ _))); intro v418 w51 ho52 hb hg_ hnew_; clear hg_ hnew_; (first | rw [← Ny417.out] at ho52 | (simp only [Int.reduceToNat] at ho52; rw [← Ny417.out] at ho52)); have n0_ := Aside0.mk (Kd.R_elder' (mR HO_4.out) (Kd.R_base ho52) hb); have n1_ := Aside0.mk (Kd.N_elder' (by (with_reducible repeat (first | apply Kd.N_alloc | apply Kd.N_drewN | apply Kd.N_drew)); exact HO412.out) (Kd.R_base ho52) hb); have n2_ := Aside0.mk (Kd.R_elder' (mR HO416.out) (Kd.R_base ho52) hb); have n3_ := Aside0.mk (Kd.R_lower (Kd.R_new' (Kd.R_new' ho52 (Kd.R_lt (mR HO_4.out))) (Kd.R_lt (mR HO416.out))) (below_size mB)); have n4_ := Aside0.mk (below_step mB hb); clear HO_4; clear HO412; clear HO416; clear HB; have HO_4 := n0_; have HO412 := n1_; have HO416 := n2_; have HO419 := n3_; have HB := n4_; clear n0_ n1_ n2_ n3_ n4_; clear hb ho52; obtain ⟨Ao53, co53, eo53⟩ := Kd.R_slice HO419.out; subst eo53) | ((with_reducible refine gate_callee (f := 22) rfl ?_); refine goL (some 95) Try.func22 #[.slice Ao53 y417.length co53, .int .i64 6] (h := ?_); (with_reducible refine (impl_SeriesOfDegrees.calls kj29 _ _ y417 6 t420 t421 _ ?side1 ?side2 A39.out).mono ?_); (case side1 => repeat (first | exact (Kd.R_reads' HO419.out).2.2 | (with_reducible refine Kd.C_alloc ?_ _) | (with_reducible refine Kd.C_drewN ?_ _) | (with_reducible refine Kd.C_drew ?_))); (case side2 => exact (Kd.R_reads' HO419.out).2.1); rintro e w54 ⟨v422, rfl, ho0, hb⟩; refine ⟨_, rfl, ?_⟩; have n0_ := Aside0.mk (Kd.R_elder' (mR HO_4.out) (Kd.R_base ho0) hb); have n1_ := Aside0.mk (Kd.N_elder' (by (with_reducible repeat (first | apply Kd.N_alloc | apply Kd.N_drewN | apply Kd.N_drew)); exact HO412.out) (Kd.R_base ho0) hb); have n2_ := Aside0.mk (Kd.R_elder' (mR HO416.out) (Kd.R_base ho0) hb); have n3_ := Aside0.mk (Kd.R_elder' (mR HO419.out) (Kd.R_base ho0) hb); have n4_ := Aside0.mk (Kd.R_lower (Kd.R_new' (Kd.R_new' (Kd.R_new' ho0 (Kd.R_lt (mR HO_4.out))) (Kd.R_lt (mR HO416.out))) (Kd.R_lt (mR HO419.out))) (below_size mB)); have n5_ := Aside0.mk (below_step mB hb); clear HO_4; clear HO412; clear HO416; clear HO419; clear HB; have HO_4 := n0_; have HO412 := n1_; have HO416 := n2_; have HO419 := n3_; have HO423 := n4_; have HB := n5_; clear n0_ n1_ n2_ n3_ n4_ n5_; (try clear hb); (try clear hb2); (try clear hk); (try clear hi); (try clear ho0); obtain ⟨Ao55, co55, eo55⟩ := Kd.R_slice HO423.out; subst eo55; have p424 : 0 ≤ (6 : Int) := (by omega); have q424 : 6 < (t420.length : Int) := of_decide_eq_true mS; obtain ⟨ad424, e424, hx424_0⟩ := Kd.at_int (Kd.R_reads' HO423.out).2.2 6 p424 q424; cases e424; (try simp only [show (6 : Int).toNat = 6 from rfl, Nat.reduceMul, Nat.reduceEqDiff, Go.Addr.add, ↓reduceIte] at hx424_0); have qi424 : (6 < t420.length) = True := eq_true (by omega); (try rw [show ((6 : Int)).toNat = 6 from rfl] at hx424_0); replace p424 := eq_true p424; replace q424 := eq_true q424; obtain ⟨Ao56, co56, eo56⟩ := Kd.R_slice HO416.out; subst eo56; have p425 : 0 ≤ (0 : Int) := (by omega); have q425 : 0 < (t413.length : Int) := of_decide_eq_true mS; obtain ⟨ad425, e425, hx425_0⟩ := Kd.at_int (Kd.R_reads' HO416.out).2.2 0 p425 q425; cases e425; have qi425 : (0 < t413.length) = True := eq_true (by omega); (try rw [show ((0 : Int)).toNat = 0 from rfl] at hx425_0); (try rw [Addr.add_zero'] at hx425_0); replace p425 := eq_true p425; replace q425 := eq_true q425; obtain ⟨Ao57, co57, eo57⟩ := Kd.R_slice HO_4.out; subst eo57) | ((with_reducible refine gate_callee (f := 23) rfl ?_); refine goL (some 117) Try.func23 #[.slice Ao57 t387.length co57] (h := ?_); (with_reducible refine (laws_sum.calls kj29 _ _ t387 t426 _ ?side1 ?side2 A46.out).mono ?_); (case side1 => repeat (first | exact (Kd.R_reads' HO_4.out).2.2 | (with_reducible refine Kd.C_alloc ?_ _) | (with_reducible refine Kd.C_drewN ?_ _) | (with_reducible refine Kd.C_drew ?_))); (case side2 => exact (Kd.R_reads' HO_4.out).2.1); rintro e w' ⟨rfl, ⟨nd, rfl⟩⟩; refine ⟨_, rfl, ?_⟩))
                                    go_ret
                                    exact ⟨mE, mB⟩
                                  · rw [if_neg c45] at H
                                    have c45b0 : ((rd t413 0) == 1) = false := beq_eq_false_iff_ne.mpr c45
                                    have c45b1 : ((rd t413 0) != 1) = true := bne_iff_ne.mpr c45
                                    obtain rfl := Option.some.inj H
                                    go_wp2_with (first | ((with_reducible refine gate_dst (N := 89) rfl ?_); (try (refine gate_guard (by rfl) ?_; dsimp only)); refine Kd.N_lit (Kd.slice 2 (Kd.int .i64)) _ 22 ?hg (N' := 89) ?hd (xs := ([t384] : List (List Int))) (inner := [.slice Ao9 t384.length co9]) (ok := (fun k_ => some k_ ≠ (v389 : Value).ownBlock)) (okp := (fun k_ => some k_ ≠ (v389 : Value).ownBlock)) ?hr ?hp (fun _ hk => hk) ((show ∀ k_, wc.heap.size ≤ k_ → (fun k_ => some k_ ≠ (v389 : Value).ownBlock) k_ from fun k_ hk => Kd.fresh' (Kd.R_lt (mR HO_4.out)) k_ hk) _ (Nat.le_refl _)) (Below.refl _ _) (Nat.le_refl _) (by simp) ?_; (case hd => rfl); (case hg => rfl); (case hr => first | (go_simp; done) | (go_simp; rfl)); (case hp => exact (Reps.one (show Kd.FK (Kd.slice 2 (Kd.int .i64)) _ _ t384 [.slice Ao9 t384.length co9] from (Kd.FK_slice_mk (Kd.R_reads' (Kd.R_mono (ok' := (fun k_ => some k_ ≠ (v389 : Value).ownBlock)) (HO_3.out) (fun k_ hk => hk))).2.1 (Kd.R_F (Kd.R_mono (ok' := (fun k_ => some k_ ≠ (v389 : Value).ownBlock)) (HO_3.out) (fun k_ hk => hk))))) (Reps.none _ _))); intro v411 w58 ho59 hb hg_ hnew_; clear hg_ hnew_; (first | rw [← Ny410.out] at ho59 | (simp only [Int.reduceToNat] at ho59; rw [← Ny410.out] at ho59)); have n0_ := Aside0.mk (Kd.R_below (mR HO_4.out) hb); have n1_ := Aside0.mk (Kd.N_lower ho59 (below_size mB)); have n2_ := Aside0.mk (below_step mB hb); clear HO_4; clear HB; clear HO_3; have HO_4 := n0_; have HO412 := n1_; have HB := n2_; clear n0_ n1_ n2_; clear hb ho59; obtain ⟨Ao60, co60, eo60⟩ := Kd.N_slice HO412.out; subst eo60) | ((with_reducible refine gate_callee (f := 15) rfl ?_); refine goL (some 90) Try.func15 #[.slice Ao60 y410.length co60, .int .i64 6] (h := ?_); (with_reducible refine (impl_CountingSeries.calls kj29 _ _ y410 6 t413 t414 _ ?side1 ?side2 A38.out).mono ?_); (case side1 => repeat (first | exact (Kd.N_reads' HO412.out).2.2 | (with_reducible refine Kd.C_alloc ?_ _) | (with_reducible refine Kd.C_drewN ?_ _) | (with_reducible refine Kd.C_drew ?_))); (case side2 => exact (Kd.N_reads' HO412.out).2.1); rintro e w61 ⟨v415, rfl, ho0, hb⟩; refine ⟨_, rfl, ?_⟩; have n0_ := Aside0.mk (Kd.R_elder' (mR HO_4.out) (Kd.R_base ho0) hb); have n1_ := Aside0.mk (Kd.N_elder' (by (with_reducible repeat (first | apply Kd.N_alloc | apply Kd.N_drewN | apply Kd.N_drew)); exact HO412.out) (Kd.R_base ho0) hb); have n2_ := Aside0.mk (Kd.R_lower (Kd.R_new' ho0 (Kd.R_lt (mR HO_4.out))) (below_size mB)); have n3_ := Aside0.mk (below_step mB hb); clear HO_4; clear HO412; clear HB; have HO_4 := n0_; have HO412 := n1_; have HO416 := n2_; have HB := n3_; clear n0_ n1_ n2_ n3_; (try clear hb); (try clear hb2); (try clear hk); (try clear hi); (try clear ho0)) | ((with_reducible refine gate_dst (N := 94) rfl ?_); (try (refine gate_guard (by rfl) ?_; dsimp only)); refine Kd.R_lit (Kd.int .i64) _ 2 ?hg (N := 94) ?hd (xs := ([1] : List Int)) (inner := [.int .i64 1]) (ok := fun _ => True) (okp := fun _ => True) ?hr ?hp (fun _ hk => hk) trivial (Below.refl _ _) (Nat.le_refl _) (by simp) ?_; (case hd => rfl); (case hg => rfl); (case hr => first | (go_simp; done) | (go_simp; rfl)); (case hp => exact (Reps.one (show Kd.M (Kd.int .i64) _ _ _ 1 [.int .i64 1] from rfl) (Reps.none _ _))); intro v418 w62 ho63 hb hg_ hnew_; clear hg_ hnew_; (first | rw [← Ny417.out] at ho63 | (simp only [Int.reduceToNat] at ho63; rw [← Ny417.out] at ho63)); have n0_ := Aside0.mk (Kd.R_elder' (mR HO_4.out) (Kd.R_base ho63) hb); have n1_ := Aside0.mk (Kd.N_elder' (by (with_reducible repeat (first | apply Kd.N_alloc | apply Kd.N_drewN | apply Kd.N_drew)); exact HO412.out) (Kd.R_base ho63) hb); have n2_ := Aside0.mk (Kd.R_elder' (mR HO416.out) (Kd.R_base ho63) hb); have n3_ := Aside0.mk (Kd.R_lower (Kd.R_new' (Kd.R_new' ho63 (Kd.R_lt (mR HO_4.out))) (Kd.R_lt (mR HO416.out))) (below_size mB)); have n4_ := Aside0.mk (below_step mB hb); clear HO_4; clear HO412; clear HO416; clear HB; have HO_4 := n0_; have HO412 := n1_; have HO416 := n2_; have HO419 := n3_; have HB := n4_; clear n0_ n1_ n2_ n3_ n4_; clear hb ho63; obtain ⟨Ao64, co64, eo64⟩ := Kd.R_slice HO419.out; subst eo64) | ((with_reducible refine gate_callee (f := 22) rfl ?_); refine goL (some 95) Try.func22 #[.slice Ao64 y417.length co64, .int .i64 6] (h := ?_); (with_reducible refine (impl_SeriesOfDegrees.calls kj29 _ _ y417 6 t420 t421 _ ?side1 ?side2 A39.out).mono ?_); (case side1 => repeat (first | exact (Kd.R_reads' HO419.out).2.2 | (with_reducible refine Kd.C_alloc ?_ _) | (with_reducible refine Kd.C_drewN ?_ _) | (with_reducible refine Kd.C_drew ?_))); (case side2 => exact (Kd.R_reads' HO419.out).2.1); rintro e w65 ⟨v422, rfl, ho0, hb⟩; refine ⟨_, rfl, ?_⟩; have n0_ := Aside0.mk (Kd.R_elder' (mR HO_4.out) (Kd.R_base ho0) hb); have n1_ := Aside0.mk (Kd.N_elder' (by (with_reducible repeat (first | apply Kd.N_alloc | apply Kd.N_drewN | apply Kd.N_drew)); exact HO412.out) (Kd.R_base ho0) hb); have n2_ := Aside0.mk (Kd.R_elder' (mR HO416.out) (Kd.R_base ho0) hb); have n3_ := Aside0.mk (Kd.R_elder' (mR HO419.out) (Kd.R_base ho0) hb); have n4_ := Aside0.mk (Kd.R_lower (Kd.R_new' (Kd.R_new' (Kd.R_new' ho0 (Kd.R_lt (mR HO_4.out))) (Kd.R_lt (mR HO416.out))) (Kd.R_lt (mR HO419.out))) (below_size mB)); have n5_ := Aside0.mk (below_step mB hb); clear HO_4; clear HO412; clear HO416; clear HO419; clear HB; have HO_4 := n0_; have HO412 := n1_; have HO416 := n2_; have HO419 := n3_; have HO423 := n4_; have HB := n5_; clear n0_ n1_ n2_ n3_ n4_ n5_; (try clear hb); (try clear hb2); (try clear hk); (try clear hi); (try clear ho0); obtain ⟨Ao66, co66, eo66⟩ := Kd.R_slice HO423.out; subst eo66; have p424 : 0 ≤ (6 : Int) := (by omega); have q424 : 6 < (t420.length : Int) := of_decide_eq_true mS; obtain ⟨ad424, e424, hx424_0⟩ := Kd.at_int (Kd.R_reads' HO423.out).2.2 6 p424 q424; cases e424; (try simp only [show (6 : Int).toNat = 6 from rfl, Nat.reduceMul, Nat.reduceEqDiff, Go.Addr.add, ↓reduceIte] at hx424_0); have qi424 : (6 < t420.length) = True := eq_true (by omega); (try rw [show ((6 : Int)).toNat = 6 from rfl] at hx424_0); replace p424 := eq_true p424; replace q424 := eq_true q424; obtain ⟨Ao67, co67, eo67⟩ := Kd.R_slice HO416.out; subst eo67; have p425 : 0 ≤ (0 : Int) := (by omega); have q425 : 0 < (t413.length : Int) := of_decide_eq_true mS; obtain ⟨ad425, e425, hx425_0⟩ := Kd.at_int (Kd.R_reads' HO416.out).2.2 0 p425 q425; cases e425; have qi425 : (0 < t413.length) = True := eq_true (by omega); (try rw [show ((0 : Int)).toNat = 0 from rfl] at hx425_0); (try rw [Addr.add_zero'] at hx425_0); replace p425 := eq_true p425; replace q425 := eq_true q425))
                                    go_ret
                                    exact ⟨mE, mB⟩
                                · rw [if_neg c44] at H
                                  exact absurd H (by simp)
                              · rw [if_neg c43] at H
                                have c43b0 : ((rd t420 6) == 1) = false := beq_eq_false_iff_ne.mpr c43
                                have c43b1 : ((rd t420 6) != 1) = true := bne_iff_ne.mpr c43
                                obtain rfl := Option.some.inj H
                                go_wp2_with (first | ((with_reducible refine gate_dst (N := 89) rfl ?_); (try (refine gate_guard (by rfl) ?_; dsimp only)); refine Kd.N_lit (Kd.slice 2 (Kd.int .i64)) _ 22 ?hg (N' := 89) ?hd (xs := ([t384] : List (List Int))) (inner := [.slice Ao9 t384.length co9]) (ok := (fun k_ => some k_ ≠ (v389 : Value).ownBlock)) (okp := (fun k_ => some k_ ≠ (v389 : Value).ownBlock)) ?hr ?hp (fun _ hk => hk) ((show ∀ k_, wc.heap.size ≤ k_ → (fun k_ => some k_ ≠ (v389 : Value).ownBlock) k_ from fun k_ hk => Kd.fresh' (Kd.R_lt (mR HO_4.out)) k_ hk) _ (Nat.le_refl _)) (Below.refl _ _) (Nat.le_refl _) (by simp) ?_; (case hd => rfl); (case hg => rfl); (case hr => first | (go_simp; done) | (go_simp; rfl)); (case hp => exact (Reps.one (show Kd.FK (Kd.slice 2 (Kd.int .i64)) _ _ t384 [.slice Ao9 t384.length co9] from (Kd.FK_slice_mk (Kd.R_reads' (Kd.R_mono (ok' := (fun k_ => some k_ ≠ (v389 : Value).ownBlock)) (HO_3.out) (fun k_ hk => hk))).2.1 (Kd.R_F (Kd.R_mono (ok' := (fun k_ => some k_ ≠ (v389 : Value).ownBlock)) (HO_3.out) (fun k_ hk => hk))))) (Reps.none _ _))); intro v411 w68 ho69 hb hg_ hnew_; clear hg_ hnew_; (first | rw [← Ny410.out] at ho69 | (simp only [Int.reduceToNat] at ho69; rw [← Ny410.out] at ho69)); have n0_ := Aside0.mk (Kd.R_below (mR HO_4.out) hb); have n1_ := Aside0.mk (Kd.N_lower ho69 (below_size mB)); have n2_ := Aside0.mk (below_step mB hb); clear HO_4; clear HB; clear HO_3; have HO_4 := n0_; have HO412 := n1_; have HB := n2_; clear n0_ n1_ n2_; clear hb ho69; obtain ⟨Ao70, co70, eo70⟩ := Kd.N_slice HO412.out; subst eo70) | ((with_reducible refine gate_callee (f := 15) rfl ?_); refine goL (some 90) Try.func15 #[.slice Ao70 y410.length co70, .int .i64 6] (h := ?_); (with_reducible refine (impl_CountingSeries.calls kj29 _ _ y410 6 t413 t414 _ ?side1 ?side2 A38.out).mono ?_); (case side1 => repeat (first | exact (Kd.N_reads' HO412.out).2.2 | (with_reducible refine Kd.C_alloc ?_ _) | (with_reducible refine Kd.C_drewN ?_ _) | (with_reducible refine Kd.C_drew ?_))); (case side2 => exact (Kd.N_reads' HO412.out).2.1); rintro e w71 ⟨v415, rfl, ho0, hb⟩; refine ⟨_, rfl, ?_⟩; have n0_ := Aside0.mk (Kd.R_elder' (mR HO_4.out) (Kd.R_base ho0) hb); have n1_ := Aside0.mk (Kd.N_elder' (by (with_reducible repeat (first | apply Kd.N_alloc | apply Kd.N_drewN | apply Kd.N_drew)); exact HO412.out) (Kd.R_base ho0) hb); have n2_ := Aside0.mk (Kd.R_lower (Kd.R_new' ho0 (Kd.R_lt (mR HO_4.out))) (below_size mB)); have n3_ := Aside0.mk (below_step mB hb); clear HO_4; clear HO412; clear HB; have HO_4 := n0_; have HO412 := n1_; have HO416 := n2_; have HB := n3_; clear n0_ n1_ n2_ n3_; (try clear hb); (try clear hb2); (try clear hk); (try clear hi); (try clear ho0)) | ((with_reducible refine gate_dst (N := 94) rfl ?_); (try (refine gate_guard (by rfl) ?_; dsimp only)); refine Kd.R_lit (Kd.int .i64) _ 2 ?hg (N := 94) ?hd (xs := ([1] : List Int)) (inner := [.int .i64 1]) (ok := fun _ => True) (okp := fun _ => True) ?hr ?hp (fun _ hk => hk) trivial (Below.refl _ _) (Nat.le_refl _) (by simp) ?_; (case hd => rfl); (case hg => rfl); (case hr => first | (go_simp; done) | (go_simp; rfl)); (case hp => exact (Reps.one (show Kd.M (Kd.int .i64) _ _ _ 1 [.int .i64 1] from rfl) (Reps.none _ _))); intro v418 w72 ho73 hb hg_ hnew_; clear hg_ hnew_; (first | rw [← Ny417.out] at ho73 | (simp only [Int.reduceToNat] at ho73; rw [← Ny417.out] at ho73)); have n0_ := Aside0.mk (Kd.R_elder' (mR HO_4.out) (Kd.R_base ho73) hb); have n1_ := Aside0.mk (Kd.N_elder' (by (with_reducible repeat (first | apply Kd.N_alloc | apply Kd.N_drewN | apply Kd.N_drew)); exact HO412.out) (Kd.R_base ho73) hb); have n2_ := Aside0.mk (Kd.R_elder' (mR HO416.out) (Kd.R_base ho73) hb); have n3_ := Aside0.mk (Kd.R_lower (Kd.R_new' (Kd.R_new' ho73 (Kd.R_lt (mR HO_4.out))) (Kd.R_lt (mR HO416.out))) (below_size mB)); have n4_ := Aside0.mk (below_step mB hb); clear HO_4; clear HO412; clear HO416; clear HB; have HO_4 := n0_; have HO412 := n1_; have HO416 := n2_; have HO419 := n3_; have HB := n4_; clear n0_ n1_ n2_ n3_ n4_; clear hb ho73; obtain ⟨Ao74, co74, eo74⟩ := Kd.R_slice HO419.out; subst eo74) | ((with_reducible refine gate_callee (f := 22) rfl ?_); refine goL (some 95) Try.func22 #[.slice Ao74 y417.length co74, .int .i64 6] (h := ?_); (with_reducible refine (impl_SeriesOfDegrees.calls kj29 _ _ y417 6 t420 t421 _ ?side1 ?side2 A39.out).mono ?_); (case side1 => repeat (first | exact (Kd.R_reads' HO419.out).2.2 | (with_reducible refine Kd.C_alloc ?_ _) | (with_reducible refine Kd.C_drewN ?_ _) | (with_reducible refine Kd.C_drew ?_))); (case side2 => exact (Kd.R_reads' HO419.out).2.1); rintro e w75 ⟨v422, rfl, ho0, hb⟩; refine ⟨_, rfl, ?_⟩; have n0_ := Aside0.mk (Kd.R_elder' (mR HO_4.out) (Kd.R_base ho0) hb); have n1_ := Aside0.mk (Kd.N_elder' (by (with_reducible repeat (first | apply Kd.N_alloc | apply Kd.N_drewN | apply Kd.N_drew)); exact HO412.out) (Kd.R_base ho0) hb); have n2_ := Aside0.mk (Kd.R_elder' (mR HO416.out) (Kd.R_base ho0) hb); have n3_ := Aside0.mk (Kd.R_elder' (mR HO419.out) (Kd.R_base ho0) hb); have n4_ := Aside0.mk (Kd.R_lower (Kd.R_new' (Kd.R_new' (Kd.R_new' ho0 (Kd.R_lt (mR HO_4.out))) (Kd.R_lt (mR HO416.out))) (Kd.R_lt (mR HO419.out))) (below_size mB)); have n5_ := Aside0.mk (below_step mB hb); clear HO_4; clear HO412; clear HO416; clear HO419; clear HB; have HO_4 := n0_; have HO412 := n1_; have HO416 := n2_; have HO419 := n3_; have HO423 := n4_; have HB := n5_; clear n0_ n1_ n2_ n3_ n4_ n5_; (try clear hb); (try clear hb2); (try clear hk); (try clear hi); (try clear ho0); obtain ⟨Ao76, co76, eo76⟩ := Kd.R_slice HO423.out; subst eo76; have p424 : 0 ≤ (6 : Int) := (by omega); have q424 : 6 < (t420.length : Int) := of_decide_eq_true mS; obtain ⟨ad424, e424, hx424_0⟩ := Kd.at_int (Kd.R_reads' HO423.out).2.2 6 p424 q424; cases e424; (try simp only [show (6 : Int).toNat = 6 from rfl, Nat.reduceMul, Nat.reduceEqDiff, Go.Addr.add, ↓reduceIte] at hx424_0); have qi424 : (6 < t420.length) = True := eq_true (by omega); (try rw [show ((6 : Int)).toNat = 6 from rfl] at hx424_0); replace p424 := eq_true p424; replace q424 := eq_true q424))
                                go_ret
                                exact ⟨mE, mB⟩
                            · rw [if_neg c42] at H
                              exact absurd H (by simp)
                          · rw [if_neg c41] at H
                            have c41b0 : (t421 == 0) = false := beq_eq_false_iff_ne.mpr c41
                            have c41b1 : (t421 != 0) = true := bne_iff_ne.mpr c41
                            obtain rfl := Option.some.inj H
                            go_wp2_with (first | ((with_reducible refine gate_dst (N := 89) rfl ?_); (try (refine gate_guard (by rfl) ?_; dsimp only)); refine Kd.N_lit (Kd.slice 2 (Kd.int .i64)) _ 22 ?hg (N' := 89) ?hd (xs := ([t384] : List (List Int))) (inner := [.slice Ao9 t384.length co9]) (ok := (fun k_ => some k_ ≠ (v389 : Value).ownBlock)) (okp := (fun k_ => some k_ ≠ (v389 : Value).ownBlock)) ?hr ?hp (fun _ hk => hk) ((show ∀ k_, wc.heap.size ≤ k_ → (fun k_ => some k_ ≠ (v389 : Value).ownBlock) k_ from fun k_ hk => Kd.fresh' (Kd.R_lt (mR HO_4.out)) k_ hk) _ (Nat.le_refl _)) (Below.refl _ _) (Nat.le_refl _) (by simp) ?_; (case hd => rfl); (case hg => rfl); (case hr => first | (go_simp; done) | (go_simp; rfl)); (case hp => exact (Reps.one (show Kd.FK (Kd.slice 2 (Kd.int .i64)) _ _ t384 [.slice Ao9 t384.length co9] from (Kd.FK_slice_mk (Kd.R_reads' (Kd.R_mono (ok' := (fun k_ => some k_ ≠ (v389 : Value).ownBlock)) (HO_3.out) (fun k_ hk => hk))).2.1 (Kd.R_F (Kd.R_mono (ok' := (fun k_ => some k_ ≠ (v389 : Value).ownBlock)) (HO_3.out) (fun k_ hk => hk))))) (Reps.none _ _))); intro v411 w77 ho78 hb hg_ hnew_; clear hg_ hnew_; (first | rw [← Ny410.out] at ho78 | (simp only [Int.reduceToNat] at ho78; rw [← Ny410.out] at ho78)); have n0_ := Aside0.mk (Kd.R_below (mR HO_4.out) hb); have n1_ := Aside0.mk (Kd.N_lower ho78 (below_size mB)); have n2_ := Aside0.mk (below_step mB hb); clear HO_4; clear HB; clear HO_3; have HO_4 := n0_; have HO412 := n1_; have HB := n2_; clear n0_ n1_ n2_; clear hb ho78; obtain ⟨Ao79, co79, eo79⟩ := Kd.N_slice HO412.out; subst eo79) | ((with_reducible refine gate_callee (f := 15) rfl ?_); refine goL (some 90) Try.func15 #[.slice Ao79 y410.length co79, .int .i64 6] (h := ?_); (with_reducible refine (impl_CountingSeries.calls kj29 _ _ y410 6 t413 t414 _ ?side1 ?side2 A38.out).mono ?_); (case side1 => repeat (first | exact (Kd.N_reads' HO412.out).2.2 | (with_reducible refine Kd.C_alloc ?_ _) | (with_reducible refine Kd.C_drewN ?_ _) | (with_reducible refine Kd.C_drew ?_))); (case side2 => exact (Kd.N_reads' HO412.out).2.1); rintro e w80 ⟨v415, rfl, ho0, hb⟩; refine ⟨_, rfl, ?_⟩; have n0_ := Aside0.mk (Kd.R_elder' (mR HO_4.out) (Kd.R_base ho0) hb); have n1_ := Aside0.mk (Kd.N_elder' (by (with_reducible repeat (first | apply Kd.N_alloc | apply Kd.N_drewN | apply Kd.N_drew)); exact HO412.out) (Kd.R_base ho0) hb); have n2_ := Aside0.mk (Kd.R_lower (Kd.R_new' ho0 (Kd.R_lt (mR HO_4.out))) (below_size mB)); have n3_ := Aside0.mk (below_step mB hb); clear HO_4; clear HO412; clear HB; have HO_4 := n0_; have HO412 := n1_; have HO416 := n2_; have HB := n3_; clear n0_ n1_ n2_ n3_; (try clear hb); (try clear hb2); (try clear hk); (try clear hi); (try clear ho0)) | ((with_reducible refine gate_dst (N := 94) rfl ?_); (try (refine gate_guard (by rfl) ?_; dsimp only)); refine Kd.R_lit (Kd.int .i64) _ 2 ?hg (N := 94) ?hd (xs := ([1] : List Int)) (inner := [.int .i64 1]) (ok := fun _ => True) (okp := fun _ => True) ?hr ?hp (fun _ hk => hk) trivial (Below.refl _ _) (Nat.le_refl _) (by simp) ?_; (case hd => rfl); (case hg => rfl); (case hr => first | (go_simp; done) | (go_simp; rfl)); (case hp => exact (Reps.one (show Kd.M (Kd.int .i64) _ _ _ 1 [.int .i64 1] from rfl) (Reps.none _ _))); intro v418 w81 ho82 hb hg_ hnew_; clear hg_ hnew_; (first | rw [← Ny417.out] at ho82 | (simp only [Int.reduceToNat] at ho82; rw [← Ny417.out] at ho82)); have n0_ := Aside0.mk (Kd.R_elder' (mR HO_4.out) (Kd.R_base ho82) hb); have n1_ := Aside0.mk (Kd.N_elder' (by (with_reducible repeat (first | apply Kd.N_alloc | apply Kd.N_drewN | apply Kd.N_drew)); exact HO412.out) (Kd.R_base ho82) hb); have n2_ := Aside0.mk (Kd.R_elder' (mR HO416.out) (Kd.R_base ho82) hb); have n3_ := Aside0.mk (Kd.R_lower (Kd.R_new' (Kd.R_new' ho82 (Kd.R_lt (mR HO_4.out))) (Kd.R_lt (mR HO416.out))) (below_size mB)); have n4_ := Aside0.mk (below_step mB hb); clear HO_4; clear HO412; clear HO416; clear HB; have HO_4 := n0_; have HO412 := n1_; have HO416 := n2_; have HO419 := n3_; have HB := n4_; clear n0_ n1_ n2_ n3_ n4_; clear hb ho82; obtain ⟨Ao83, co83, eo83⟩ := Kd.R_slice HO419.out; subst eo83) | ((with_reducible refine gate_callee (f := 22) rfl ?_); refine goL (some 95) Try.func22 #[.slice Ao83 y417.length co83, .int .i64 6] (h := ?_); (with_reducible refine (impl_SeriesOfDegrees.calls kj29 _ _ y417 6 t420 t421 _ ?side1 ?side2 A39.out).mono ?_); (case side1 => repeat (first | exact (Kd.R_reads' HO419.out).2.2 | (with_reducible refine Kd.C_alloc ?_ _) | (with_reducible refine Kd.C_drewN ?_ _) | (with_reducible refine Kd.C_drew ?_))); (case side2 => exact (Kd.R_reads' HO419.out).2.1); rintro e w84 ⟨v422, rfl, ho0, hb⟩; refine ⟨_, rfl, ?_⟩; have n0_ := Aside0.mk (Kd.R_elder' (mR HO_4.out) (Kd.R_base ho0) hb); have n1_ := Aside0.mk (Kd.N_elder' (by (with_reducible repeat (first | apply Kd.N_alloc | apply Kd.N_drewN | apply Kd.N_drew)); exact HO412.out) (Kd.R_base ho0) hb); have n2_ := Aside0.mk (Kd.R_elder' (mR HO416.out) (Kd.R_base ho0) hb); have n3_ := Aside0.mk (Kd.R_elder' (mR HO419.out) (Kd.R_base ho0) hb); have n4_ := Aside0.mk (Kd.R_lower (Kd.R_new' (Kd.R_new' (Kd.R_new' ho0 (Kd.R_lt (mR HO_4.out))) (Kd.R_lt (mR HO416.out))) (Kd.R_lt (mR HO419.out))) (below_size mB)); have n5_ := Aside0.mk (below_step mB hb); clear HO_4; clear HO412; clear HO416; clear HO419; clear HB; have HO_4 := n0_; have HO412 := n1_; have HO416 := n2_; have HO419 := n3_; have HO423 := n4_; have HB := n5_; clear n0_ n1_ n2_ n3_ n4_ n5_; (try clear hb); (try clear hb2); (try clear hk); (try clear hi); (try clear ho0)))
                            go_ret
                            exact ⟨mE, mB⟩
                        · rw [if_neg c40] at H
                          have c40b0 : (t414 == 0) = false := beq_eq_false_iff_ne.mpr c40
                          have c40b1 : (t414 != 0) = true := bne_iff_ne.mpr c40
                          obtain rfl := Option.some.inj H
                          go_wp2_with (first | ((with_reducible refine gate_dst (N := 89) rfl ?_); (try (refine gate_guard (by rfl) ?_; dsimp only)); refine Kd.N_lit (Kd.slice 2 (Kd.int .i64)) _ 22 ?hg (N' := 89) ?hd (xs := ([t384] : List (List Int))) (inner := [.slice Ao9 t384.length co9]) (ok := (fun k_ => some k_ ≠ (v389 : Value).ownBlock)) (okp := (fun k_ => some k_ ≠ (v389 : Value).ownBlock)) ?hr ?hp (fun _ hk => hk) ((show ∀ k_, wc.heap.size ≤ k_ → (fun k_ => some k_ ≠ (v389 : Value).ownBlock) k_ from fun k_ hk => Kd.fresh' (Kd.R_lt (mR HO_4.out)) k_ hk) _ (Nat.le_refl _)) (Below.refl _ _) (Nat.le_refl _) (by simp) ?_; (case hd => rfl); (case hg => rfl); (case hr => first | (go_simp; done) | (go_simp; rfl)); (case hp => exact (Reps.one (show Kd.FK (Kd.slice 2 (Kd.int .i64)) _ _ t384 [.slice Ao9 t384.length co9] from (Kd.FK_slice_mk (Kd.R_reads' (Kd.R_mono (ok' := (fun k_ => some k_ ≠ (v389 : Value).ownBlock)) (HO_3.out) (fun k_ hk => hk))).2.1 (Kd.R_F (Kd.R_mono (ok' := (fun k_ => some k_ ≠ (v389 : Value).ownBlock)) (HO_3.out) (fun k_ hk => hk))))) (Reps.none _ _))); intro v411 w85 ho86 hb hg_ hnew_; clear hg_ hnew_; (first | rw [← Ny410.out] at ho86 | (simp only [Int.reduceToNat] at ho86; rw [← Ny410.out] at ho86)); have n0_ := Aside0.mk (Kd.R_below (mR HO_4.out) hb); have n1_ := Aside0.mk (Kd.N_lower ho86 (below_size mB)); have n2_ := Aside0.mk (below_step mB hb); clear HO_4; clear HB; clear HO_3; have HO_4 := n0_; have HO412 := n1_; have HB := n2_; clear n0_ n1_ n2_; clear hb ho86; obtain ⟨Ao87, co87, eo87⟩ := Kd.N_slice HO412.out; subst eo87) | ((with_reducible refine gate_callee (f := 15) rfl ?_); refine goL (some 90) Try.func15 #[.slice Ao87 y410.length co87, .int .i64 6] (h := ?_); (with_reducible refine (impl_CountingSeries.calls kj29 _ _ y410 6 t413 t414 _ ?side1 ?side2 A38.out).mono ?_); (case side1 => repeat (first | exact (Kd.N_reads' HO412.out).2.2 | (with_reducible refine Kd.C_alloc ?_ _) | (with_reducible refine Kd.C_drewN ?_ _) | (with_reducible refine Kd.C_drew ?_))); (case side2 => exact (Kd.N_reads' HO412.out).2.1); rintro e w88 ⟨v415, rfl, ho0, hb⟩; refine ⟨_, rfl, ?_⟩; have n0_ := Aside0.mk (Kd.R_elder' (mR HO_4.out) (Kd.R_base ho0) hb); have n1_ := Aside0.mk (Kd.N_elder' (by (with_reducible repeat (first | apply Kd.N_alloc | apply Kd.N_drewN | apply Kd.N_drew)); exact HO412.out) (Kd.R_base ho0) hb); have n2_ := Aside0.mk (Kd.R_lower (Kd.R_new' ho0 (Kd.R_lt (mR HO_4.out))) (below_size mB)); have n3_ := Aside0.mk (below_step mB hb); clear HO_4; clear HO412; clear HB; have HO_4 := n0_; have HO412 := n1_; have HO416 := n2_; have HB := n3_; clear n0_ n1_ n2_ n3_; (try clear hb); (try clear hb2); (try clear hk); (try clear hi); (try clear ho0)) | ((with_reducible refine gate_dst (N := 94) rfl ?_); (try (refine gate_guard (by rfl) ?_; dsimp only)); refine Kd.R_lit (Kd.int .i64) _ 2 ?hg (N := 94) ?hd (xs := ([1] : List Int)) (inner := [.int .i64 1]) (ok := fun _ => True) (okp := fun _ => True) ?hr ?hp (fun _ hk => hk) trivial (Below.refl _ _) (Nat.le_refl _) (by simp) ?_; (case hd => rfl); (case hg => rfl); (case hr => first | (go_simp; done) | (go_simp; rfl)); (case hp => exact (Reps.one (show Kd.M (Kd.int .i64) _ _ _ 1 [.int .i64 1] from rfl) (Reps.none _ _))); intro v418 w89 ho90 hb hg_ hnew_; clear hg_ hnew_; (first | rw [← Ny417.out] at ho90 | (simp only [Int.reduceToNat] at ho90; rw [← Ny417.out] at ho90)); have n0_ := Aside0.mk (Kd.R_elder' (mR HO_4.out) (Kd.R_base ho90) hb); have n1_ := Aside0.mk (Kd.N_elder' (by (with_reducible repeat (first | apply Kd.N_alloc | apply Kd.N_drewN | apply Kd.N_drew)); exact HO412.out) (Kd.R_base ho90) hb); have n2_ := Aside0.mk (Kd.R_elder' (mR HO416.out) (Kd.R_base ho90) hb); have n3_ := Aside0.mk (Kd.R_lower (Kd.R_new' (Kd.R_new' ho90 (Kd.R_lt (mR HO_4.out))) (Kd.R_lt (mR HO416.out))) (below_size mB)); have n4_ := Aside0.mk (below_step mB hb); clear HO_4; clear HO412; clear HO416; clear HB; have HO_4 := n0_; have HO412 := n1_; have HO416 := n2_; have HO419 := n3_; have HB := n4_; clear n0_ n1_ n2_ n3_ n4_; clear hb ho90; obtain ⟨Ao91, co91, eo91⟩ := Kd.R_slice HO419.out; subst eo91) | ((with_reducible refine gate_callee (f := 22) rfl ?_); refine goL (some 95) Try.func22 #[.slice Ao91 y417.length co91, .int .i64 6] (h := ?_); (with_reducible refine (impl_SeriesOfDegrees.calls kj29 _ _ y417 6 t420 t421 _ ?side1 ?side2 A39.out).mono ?_); (case side1 => repeat (first | exact (Kd.R_reads' HO419.out).2.2 | (with_reducible refine Kd.C_alloc ?_ _) | (with_reducible refine Kd.C_drewN ?_ _) | (with_reducible refine Kd.C_drew ?_))); (case side2 => exact (Kd.R_reads' HO419.out).2.1); rintro e w92 ⟨v422, rfl, ho0, hb⟩; refine ⟨_, rfl, ?_⟩; have n0_ := Aside0.mk (Kd.R_elder' (mR HO_4.out) (Kd.R_base ho0) hb); have n1_ := Aside0.mk (Kd.N_elder' (by (with_reducible repeat (first | apply Kd.N_alloc | apply Kd.N_drewN | apply Kd.N_drew)); exact HO412.out) (Kd.R_base ho0) hb); have n2_ := Aside0.mk (Kd.R_elder' (mR HO416.out) (Kd.R_base ho0) hb); have n3_ := Aside0.mk (Kd.R_elder' (mR HO419.out) (Kd.R_base ho0) hb); have n4_ := Aside0.mk (Kd.R_lower (Kd.R_new' (Kd.R_new' (Kd.R_new' ho0 (Kd.R_lt (mR HO_4.out))) (Kd.R_lt (mR HO416.out))) (Kd.R_lt (mR HO419.out))) (below_size mB)); have n5_ := Aside0.mk (below_step mB hb); clear HO_4; clear HO412; clear HO416; clear HO419; clear HB; have HO_4 := n0_; have HO412 := n1_; have HO416 := n2_; have HO419 := n3_; have HO423 := n4_; have HB := n5_; clear n0_ n1_ n2_ n3_ n4_ n5_; (try clear hb); (try clear hb2); (try clear hk); (try clear hi); (try clear ho0)))
                          go_ret
                          exact ⟨mE, mB⟩
                      · rw [if_neg c37] at H
                        have c37b0 : (t388 == 0) = false := beq_eq_false_iff_ne.mpr c37
                        have c37b1 : (t388 != 0) = true := bne_iff_ne.mpr c37
                        obtain rfl := Option.some.inj H
                        obtain ⟨Ao93, co93, eo93⟩ := Kd.R_slice HO_4.out
                        subst eo93
                        go_wp2
                        go_ret
                        exact ⟨mE, mB⟩

/-- THE ONE PURE STATEMENT of laws_FnPermutationSeries: yours. -/
def laws_FnPermutationSeries.Pure : Prop := ∀ (l0 : List Int), l0.length ≤ maxLen → l0.length * 1 ≤ 140737488351232 → (∀ x ∈ l0, (Lit.int .u8 x).wf = true) → ∃ k, laws_FnPermutationSeries.f k l0 = some true
theorem laws_FnPermutationSeries.walk (P : laws_FnPermutationSeries.Pure) (a0 : Option Addr) (len0 cap0 : Nat) (z0 : List Int) (w : World) (w0 : (a0 = none ∧ len0 = 0 ∧ cap0 = 0 ∧ z0 = []) ∨ ∃ x, a0 = some x ∧ len0 ≤ cap0 ∧ cap0 ≤ maxLen ∧ z0.length = cap0 ∧ (∀ i, i < z0.length → w.cell? (x.add i) = some (.int .u8 (z0.getD i 0))) ∧ ∀ n ∈ z0, (Lit.int .u8 n).wf = true) (y0 : len0 * 1 ≤ 140737488351232) :
    Calls Try.prog 5 #[.slice a0 len0 cap0] w fun e w' => e = .returned (.bool true) ∧ Below w.heap.size w w' := by
  obtain ⟨l0, rfl, hr0, hm0, hw0, hc0⟩ := ReadsInt.ofRowC w0
  obtain ⟨k, h⟩ := P l0 hm0 y0 hw0
  refine (laws_FnPermutationSeries.calls k _ _ l0 true w (Kd.C_of_reads (d := (0 : Int)) (h1 := fun _ => rfl) hr0) hc0 h).mono ?_
  rintro e w' ⟨rfl, hd⟩
  exact ⟨rfl, hd⟩

end Go.Proofs.Ytpegpdcdcfcgdaa.EFnPermutationSeries
