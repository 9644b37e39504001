/- The functions that the law uses, as plain functions, and that the code comes to what they say. -/
import Derived.Test.YthdalmlbpmljmaaEFnSeriesx0
import Derived.Test.YthdalmlbpmljmaaEFnSeriesx2
import Derived.Test.YthdalmlbpmljmaaEFnSeriesx3
import Derived.Test.YthdalmlbpmljmaaEFnSeriesx4
import Derived.Test.YthdalmlbpmljmaaEFnSeriesx5
import Derived.Test.YthdalmlbpmljmaaEFnSeriesx6
import Derived.Test.YthdalmlbpmljmaaEFnSeriesx7
import Derived.Test.YthdalmlbpmljmaaEFnSeriesx8
import Derived.Test.YthdalmlbpmljmaaEFnSeriesx9
namespace Go.Proofs.Ythdalmlbpmljmaa.EFnSeries
open Go.RowKit Go.Proofs.YthdalmlbpmljmaaW.PrintWords Go.Proofs.YthdalmlbpmljmaaW.PrintLast Go.Proofs.YthdalmlbpmljmaaW.PrintMore Go.Proofs.YthdalmlbpmljmaaX
attribute [local go_sem] max2_int min2_int max_two min_two max_three min_three max_four min_four   -- for this text's walks alone
set_option linter.unusedVariables false
set_option linter.unusedSimpArgs false

/-! ### laws_FnSeries: function 6 -/
mutual
def laws_FnSeries.j0 : Nat → List Int → List Int → List Int → List Int → Int → Bool → Option (Bool)
  | 0, _, _, _, _, _, _ => none
  | k + 1, x0, x3, x4, x5, x6, x67 => if x67 = true then (some false) else ((spec_DrawShiftSeries.f k x0).bind fun bt409 => ((impl_ShiftSeries.f k bt409.1 bt409.2).bind fun bt413 => ((spec_ShiftSeries.f k bt409.1 bt409.2).bind fun bt417 => (if bt413.2 = bt417.2 then ((laws_likeInts.f k bt413.1 bt417.1).bind fun t421 => (laws_FnSeries.j1 k x0 x3 x4 x5 x6 bt409.1 bt409.2 bt413.1 bt413.2 (!t421))) else (laws_FnSeries.j1 k x0 x3 x4 x5 x6 bt409.1 bt409.2 bt413.1 bt413.2 true)))))
def laws_FnSeries.j1 : Nat → List Int → List Int → List Int → List Int → Int → List Int → Int → List Int → Int → Bool → Option (Bool)
  | 0, _, _, _, _, _, _, _, _, _, _ => none
  | k + 1, x0, x3, x4, x5, x6, x9, x10, x11, x12, x93 => if x93 = true then (some false) else ((spec_DrawSeriesOfDegrees.f k x0).bind fun bt422 => ((impl_SeriesOfDegrees.f k bt422.1 bt422.2).bind fun bt426 => ((spec_SeriesOfDegrees.f k bt422.1 bt422.2).bind fun bt430 => (if bt426.2 = bt430.2 then ((laws_likeInts.f k bt426.1 bt430.1).bind fun t434 => (laws_FnSeries.j2 k x0 x3 x4 x5 x6 x9 x10 x11 x12 bt422.1 bt426.1 bt426.2 (!t434))) else (laws_FnSeries.j2 k x0 x3 x4 x5 x6 x9 x10 x11 x12 bt422.1 bt426.1 bt426.2 true)))))
def laws_FnSeries.j2 : Nat → List Int → List Int → List Int → List Int → Int → List Int → Int → List Int → Int → List Int → List Int → Int → Bool → Option (Bool)
  | 0, _, _, _, _, _, _, _, _, _, _, _, _, _ => none
  | k + 1, x0, x3, x4, x5, x6, x9, x10, x11, x12, x15, x17, x18, x119 => if x119 = true then (some false) else ((spec_DrawNumeratorOf.f k x0).bind fun bt435 => ((impl_NumeratorOf.f k bt435.1 bt435.2).bind fun bt441 => ((spec_NumeratorOf.f k bt435.1 bt435.2).bind fun bt445 => (if bt441.2 = bt445.2 then ((laws_likeInts.f k bt441.1 bt445.1).bind fun t449 => (laws_FnSeries.j3 k x0 x3 x4 x5 x6 x9 x10 x11 x12 x15 x17 x18 (!t449))) else (laws_FnSeries.j3 k x0 x3 x4 x5 x6 x9 x10 x11 x12 x15 x17 x18 true)))))
def laws_FnSeries.j3 : Nat → List Int → List Int → List Int → List Int → Int → List Int → Int → List Int → Int → List Int → List Int → Int → Bool → Option (Bool)
  | 0, _, _, _, _, _, _, _, _, _, _, _, _, _ => none
  | k + 1, x0, x3, x4, x5, x6, x9, x10, x11, x12, x15, x17, x18, x145 => if x145 = true then (some false) else ((spec_DrawIsFromBehind.f k x0).bind fun t450 => ((impl_IsFromBehind.f k t450).bind fun bt453 => ((spec_IsFromBehind.f k t450).bind fun bt455 => (if bt453.2 = bt455.2 then (laws_FnSeries.j4 k x3 x4 x5 x6 x9 x10 x11 x12 x15 x17 x18 (bt453.1 != bt455.1)) else (laws_FnSeries.j4 k x3 x4 x5 x6 x9 x10 x11 x12 x15 x17 x18 true)))))
def laws_FnSeries.j4 : Nat → List Int → List Int → List Int → Int → List Int → Int → List Int → Int → List Int → List Int → Int → Bool → Option (Bool)
  | 0, _, _, _, _, _, _, _, _, _, _, _, _ => none
  | k + 1, x3, x4, x5, x6, x9, x10, x11, x12, x15, x17, x18, x165 => if x165 = true then (some false) else (if x18 = 0 then ((impl_NumeratorOf.f k x17 x15).bind fun bt457 => (if bt457.2 = 0 then (if 0 < (bt457.1.length : Int) then (laws_FnSeries.j5 k x3 x4 x5 x6 x9 x10 x11 x12 bt457.1 ((rd bt457.1 0) != 1)) else (none)) else (laws_FnSeries.j5 k x3 x4 x5 x6 x9 x10 x11 x12 bt457.1 true))) else (laws_FnSeries.j7 k x3 x4 x5 x6 x9 x10 x11 x12))
def laws_FnSeries.j7 : Nat → List Int → List Int → List Int → Int → List Int → Int → List Int → Int → Option (Bool)
  | 0, _, _, _, _, _, _, _, _ => none
  | k + 1, x3, x4, x5, x6, x9, x10, x11, x12 => if x12 = 0 then (laws_FnSeries.j8 k x3 x4 x5 x6 x9 x10 x11 (decide (x10 < (x9.length : Int)))) else (laws_FnSeries.j8 k x3 x4 x5 x6 x9 x10 x11 false)
def laws_FnSeries.j8 : Nat → List Int → List Int → List Int → Int → List Int → Int → List Int → Bool → Option (Bool)
  | 0, _, _, _, _, _, _, _, _ => none
  | k + 1, x3, x4, x5, x6, x9, x10, x11, x200 => if x200 = true then (if 0 ≤ (x9.length : Int) then (if ((x9.length : Int) : Int).toNat ≤ 35184372088832 then ((some (List.replicate ((x9.length : Int) : Int).toNat 0 : List Int)).bind fun y463 => (if 0 ≤ x10 then (if x10 < (y463.length : Int) then ((impl_MultiplySeries.f k x9 (y463.set (x10 : Int).toNat 1)).bind fun bt467 => (if bt467.2 = 0 then ((laws_likeInts.f k bt467.1 x11).bind fun t471 => (if t471 = true then (laws_FnSeries.j9 k x3 x4 x5 x6) else (some false))) else (some false))) else (none)) else (none))) else (none)) else (none)) else (laws_FnSeries.j9 k x3 x4 x5 x6)
def laws_FnSeries.j9 : Nat → List Int → List Int → List Int → Int → Option (Bool)
  | 0, _, _, _, _ => none
  | k + 1, x3, x4, x5, x6 => if x6 = 0 then ((impl_MultiplySeries.f k x4 x3).bind fun bt472 => (if bt472.2 = 0 then ((laws_likeInts.f k bt472.1 x5).bind fun t476 => (some t476)) else (some true))) else (some ((x5.length : Int) == 0))
def laws_FnSeries.j5 : Nat → List Int → List Int → List Int → Int → List Int → Int → List Int → Int → List Int → Bool → Option (Bool)
  | 0, _, _, _, _, _, _, _, _, _, _ => none
  | k + 1, x3, x4, x5, x6, x9, x10, x11, x12, x32, x181 => if x181 = true then (some false) else (laws_FnSeries.l0 k x3 x4 x5 x6 x9 x10 x11 x12 x32 1)
def laws_FnSeries.l0 : Nat → List Int → List Int → List Int → Int → List Int → Int → List Int → Int → List Int → Int → Option (Bool)
  | 0, _, _, _, _, _, _, _, _, _, _ => none
  | k + 1, x3, x4, x5, x6, x9, x10, x11, x12, x32, x34 => if x34 < (x32.length : Int) then (if 0 ≤ x34 then (if (rd x32 x34) = 0 then (laws_FnSeries.l0 k x3 x4 x5 x6 x9 x10 x11 x12 x32 (wrap64 (x34 + 1))) else (some false)) else (none)) else (laws_FnSeries.j7 k x3 x4 x5 x6 x9 x10 x11 x12)
end
def laws_FnSeries.f (k : Nat) (l0 : List Int) : Option (Bool) := (laws_big.f l0).bind fun t393 => (if t393 = true then (some true) else ((spec_DrawMultiplySeries.f k l0).bind fun bt394 => ((impl_MultiplySeries.f k bt394.1 bt394.2).bind fun bt400 => ((spec_MultiplySeries.f k bt394.1 bt394.2).bind fun bt404 => (if bt400.2 = bt404.2 then ((laws_likeInts.f k bt400.1 bt404.1).bind fun t408 => (laws_FnSeries.j0 k l0 bt394.1 bt394.2 bt400.1 bt400.2 (!t408))) else (laws_FnSeries.j0 k l0 bt394.1 bt394.2 bt400.1 bt400.2 true))))))
theorem laws_FnSeries.mono_l : ∀ k, (∀ y0 y1 y2 y3 y4 y5, LeO (laws_FnSeries.j0 k y0 y1 y2 y3 y4 y5) (laws_FnSeries.j0 (k + 1) y0 y1 y2 y3 y4 y5)) ∧ (∀ y0 y1 y2 y3 y4 y5 y6 y7 y8 y9, LeO (laws_FnSeries.j1 k y0 y1 y2 y3 y4 y5 y6 y7 y8 y9) (laws_FnSeries.j1 (k + 1) y0 y1 y2 y3 y4 y5 y6 y7 y8 y9)) ∧ (∀ y0 y1 y2 y3 y4 y5 y6 y7 y8 y9 y10 y11 y12, LeO (laws_FnSeries.j2 k y0 y1 y2 y3 y4 y5 y6 y7 y8 y9 y10 y11 y12) (laws_FnSeries.j2 (k + 1) y0 y1 y2 y3 y4 y5 y6 y7 y8 y9 y10 y11 y12)) ∧ (∀ y0 y1 y2 y3 y4 y5 y6 y7 y8 y9 y10 y11 y12, LeO (laws_FnSeries.j3 k y0 y1 y2 y3 y4 y5 y6 y7 y8 y9 y10 y11 y12) (laws_FnSeries.j3 (k + 1) y0 y1 y2 y3 y4 y5 y6 y7 y8 y9 y10 y11 y12)) ∧ (∀ y0 y1 y2 y3 y4 y5 y6 y7 y8 y9 y10 y11, LeO (laws_FnSeries.j4 k y0 y1 y2 y3 y4 y5 y6 y7 y8 y9 y10 y11) (laws_FnSeries.j4 (k + 1) y0 y1 y2 y3 y4 y5 y6 y7 y8 y9 y10 y11)) ∧ (∀ y0 y1 y2 y3 y4 y5 y6 y7, LeO (laws_FnSeries.j7 k y0 y1 y2 y3 y4 y5 y6 y7) (laws_FnSeries.j7 (k + 1) y0 y1 y2 y3 y4 y5 y6 y7)) ∧ (∀ y0 y1 y2 y3 y4 y5 y6 y7, LeO (laws_FnSeries.j8 k y0 y1 y2 y3 y4 y5 y6 y7) (laws_FnSeries.j8 (k + 1) y0 y1 y2 y3 y4 y5 y6 y7)) ∧ (∀ y0 y1 y2 y3, LeO (laws_FnSeries.j9 k y0 y1 y2 y3) (laws_FnSeries.j9 (k + 1) y0 y1 y2 y3)) ∧ (∀ y0 y1 y2 y3 y4 y5 y6 y7 y8 y9, LeO (laws_FnSeries.j5 k y0 y1 y2 y3 y4 y5 y6 y7 y8 y9) (laws_FnSeries.j5 (k + 1) y0 y1 y2 y3 y4 y5 y6 y7 y8 y9)) ∧ (∀ y0 y1 y2 y3 y4 y5 y6 y7 y8 y9, LeO (laws_FnSeries.l0 k y0 y1 y2 y3 y4 y5 y6 y7 y8 y9) (laws_FnSeries.l0 (k + 1) y0 y1 y2 y3 y4 y5 y6 y7 y8 y9))
  | 0 => ⟨fun _ _ _ _ _ _ r h => by simp [laws_FnSeries.j0] at h, fun _ _ _ _ _ _ _ _ _ _ r h => by simp [laws_FnSeries.j1] at h, fun _ _ _ _ _ _ _ _ _ _ _ _ _ r h => by simp [laws_FnSeries.j2] at h, fun _ _ _ _ _ _ _ _ _ _ _ _ _ r h => by simp [laws_FnSeries.j3] at h, fun _ _ _ _ _ _ _ _ _ _ _ _ r h => by simp [laws_FnSeries.j4] at h, fun _ _ _ _ _ _ _ _ r h => by simp [laws_FnSeries.j7] at h, fun _ _ _ _ _ _ _ _ r h => by simp [laws_FnSeries.j8] at h, fun _ _ _ _ r h => by simp [laws_FnSeries.j9] at h, fun _ _ _ _ _ _ _ _ _ _ r h => by simp [laws_FnSeries.j5] at h, fun _ _ _ _ _ _ _ _ _ _ r h => by simp [laws_FnSeries.l0] at h⟩
  | k + 1 => by
    obtain ⟨ih0, ih1, ih2, ih3, ih4, ih5, ih6, ih7, ih8, ih9⟩ := laws_FnSeries.mono_l k
    refine ⟨?_, ?_, ?_, ?_, ?_, ?_, ?_, ?_, ?_, ?_⟩
    · intro y0 y1 y2 y3 y4 y5
      unfold laws_FnSeries.j0
      repeat' first
      | (with_reducible exact ih0 _ _ _ _ _ _)
      | (with_reducible exact ih1 _ _ _ _ _ _ _ _ _ _)
      | (with_reducible exact ih2 _ _ _ _ _ _ _ _ _ _ _ _ _)
      | (with_reducible exact ih3 _ _ _ _ _ _ _ _ _ _ _ _ _)
      | (with_reducible exact ih4 _ _ _ _ _ _ _ _ _ _ _ _)
      | (with_reducible exact ih5 _ _ _ _ _ _ _ _)
      | (with_reducible exact ih6 _ _ _ _ _ _ _ _)
      | (with_reducible exact ih7 _ _ _ _)
      | (with_reducible exact ih8 _ _ _ _ _ _ _ _ _ _)
      | (with_reducible exact ih9 _ _ _ _ _ _ _ _ _ _)
      | (with_reducible exact impl_IsFromBehind.mono _ _)
      | (with_reducible exact impl_MultiplySeries.mono _ _ _)
      | (with_reducible exact impl_NumeratorOf.mono _ _ _)
      | (with_reducible exact impl_SeriesOfDegrees.mono _ _ _)
      | (with_reducible exact impl_ShiftSeries.mono _ _ _)
      | (with_reducible exact laws_likeInts.mono _ _ _)
      | (with_reducible exact spec_DrawIsFromBehind.mono _ _)
      | (with_reducible exact spec_DrawMultiplySeries.mono _ _)
      | (with_reducible exact spec_DrawNumeratorOf.mono _ _)
      | (with_reducible exact spec_DrawSeriesOfDegrees.mono _ _)
      | (with_reducible exact spec_DrawShiftSeries.mono _ _)
      | (with_reducible exact spec_IsFromBehind.mono _ _)
      | (with_reducible exact spec_MultiplySeries.mono _ _ _)
      | (with_reducible exact spec_NumeratorOf.mono _ _ _)
      | (with_reducible exact spec_SeriesOfDegrees.mono _ _ _)
      | (with_reducible exact spec_ShiftSeries.mono _ _ _)
      | (with_reducible exact LeO.refl _)
      | (with_reducible exact LeO.none _)
      | (with_reducible refine LeO.ite ?_ ?_)
      | (with_reducible refine LeO.bind ?_ (fun _ => ?_))
      | exact ih0 _ _ _ _ _ _
      | exact ih1 _ _ _ _ _ _ _ _ _ _
      | exact ih2 _ _ _ _ _ _ _ _ _ _ _ _ _
      | exact ih3 _ _ _ _ _ _ _ _ _ _ _ _ _
      | exact ih4 _ _ _ _ _ _ _ _ _ _ _ _
      | exact ih5 _ _ _ _ _ _ _ _
      | exact ih6 _ _ _ _ _ _ _ _
      | exact ih7 _ _ _ _
      | exact ih8 _ _ _ _ _ _ _ _ _ _
      | exact ih9 _ _ _ _ _ _ _ _ _ _
      | exact impl_IsFromBehind.mono _ _
      | exact impl_MultiplySeries.mono _ _ _
      | exact impl_NumeratorOf.mono _ _ _
      | exact impl_SeriesOfDegrees.mono _ _ _
      | exact impl_ShiftSeries.mono _ _ _
      | exact laws_likeInts.mono _ _ _
      | exact spec_DrawIsFromBehind.mono _ _
      | exact spec_DrawMultiplySeries.mono _ _
      | exact spec_DrawNumeratorOf.mono _ _
      | exact spec_DrawSeriesOfDegrees.mono _ _
      | exact spec_DrawShiftSeries.mono _ _
      | exact spec_IsFromBehind.mono _ _
      | exact spec_MultiplySeries.mono _ _ _
      | exact spec_NumeratorOf.mono _ _ _
      | exact spec_SeriesOfDegrees.mono _ _ _
      | exact spec_ShiftSeries.mono _ _ _
      | exact LeO.none _
      | refine LeO.ite ?_ ?_
      | refine LeO.bind ?_ (fun _ => ?_)
    · intro y0 y1 y2 y3 y4 y5 y6 y7 y8 y9
      unfold laws_FnSeries.j1
      repeat' first
      | (with_reducible exact ih0 _ _ _ _ _ _)
      | (with_reducible exact ih1 _ _ _ _ _ _ _ _ _ _)
      | (with_reducible exact ih2 _ _ _ _ _ _ _ _ _ _ _ _ _)
      | (with_reducible exact ih3 _ _ _ _ _ _ _ _ _ _ _ _ _)
      | (with_reducible exact ih4 _ _ _ _ _ _ _ _ _ _ _ _)
      | (with_reducible exact ih5 _ _ _ _ _ _ _ _)
      | (with_reducible exact ih6 _ _ _ _ _ _ _ _)
      | (with_reducible exact ih7 _ _ _ _)
      | (with_reducible exact ih8 _ _ _ _ _ _ _ _ _ _)
      | (with_reducible exact ih9 _ _ _ _ _ _ _ _ _ _)
      | (with_reducible exact impl_IsFromBehind.mono _ _)
      | (with_reducible exact impl_MultiplySeries.mono _ _ _)
      | (with_reducible exact impl_NumeratorOf.mono _ _ _)
      | (with_reducible exact impl_SeriesOfDegrees.mono _ _ _)
      | (with_reducible exact impl_ShiftSeries.mono _ _ _)
      | (with_reducible exact laws_likeInts.mono _ _ _)
      | (with_reducible exact spec_DrawIsFromBehind.mono _ _)
      | (with_reducible exact spec_DrawMultiplySeries.mono _ _)
      | (with_reducible exact spec_DrawNumeratorOf.mono _ _)
      | (with_reducible exact spec_DrawSeriesOfDegrees.mono _ _)
      | (with_reducible exact spec_DrawShiftSeries.mono _ _)
      | (with_reducible exact spec_IsFromBehind.mono _ _)
      | (with_reducible exact spec_MultiplySeries.mono _ _ _)
      | (with_reducible exact spec_NumeratorOf.mono _ _ _)
      | (with_reducible exact spec_SeriesOfDegrees.mono _ _ _)
      | (with_reducible exact spec_ShiftSeries.mono _ _ _)
      | (with_reducible exact LeO.refl _)
      | (with_reducible exact LeO.none _)
      | (with_reducible refine LeO.ite ?_ ?_)
      | (with_reducible refine LeO.bind ?_ (fun _ => ?_))
      | exact ih0 _ _ _ _ _ _
      | exact ih1 _ _ _ _ _ _ _ _ _ _
      | exact ih2 _ _ _ _ _ _ _ _ _ _ _ _ _
      | exact ih3 _ _ _ _ _ _ _ _ _ _ _ _ _
      | exact ih4 _ _ _ _ _ _ _ _ _ _ _ _
      | exact ih5 _ _ _ _ _ _ _ _
      | exact ih6 _ _ _ _ _ _ _ _
      | exact ih7 _ _ _ _
      | exact ih8 _ _ _ _ _ _ _ _ _ _
      | exact ih9 _ _ _ _ _ _ _ _ _ _
      | exact impl_IsFromBehind.mono _ _
      | exact impl_MultiplySeries.mono _ _ _
      | exact impl_NumeratorOf.mono _ _ _
      | exact impl_SeriesOfDegrees.mono _ _ _
      | exact impl_ShiftSeries.mono _ _ _
      | exact laws_likeInts.mono _ _ _
      | exact spec_DrawIsFromBehind.mono _ _
      | exact spec_DrawMultiplySeries.mono _ _
      | exact spec_DrawNumeratorOf.mono _ _
      | exact spec_DrawSeriesOfDegrees.mono _ _
      | exact spec_DrawShiftSeries.mono _ _
      | exact spec_IsFromBehind.mono _ _
      | exact spec_MultiplySeries.mono _ _ _
      | exact spec_NumeratorOf.mono _ _ _
      | exact spec_SeriesOfDegrees.mono _ _ _
      | exact spec_ShiftSeries.mono _ _ _
      | exact LeO.none _
      | refine LeO.ite ?_ ?_
      | refine LeO.bind ?_ (fun _ => ?_)
    · intro y0 y1 y2 y3 y4 y5 y6 y7 y8 y9 y10 y11 y12
      unfold laws_FnSeries.j2
      repeat' first
      | (with_reducible exact ih0 _ _ _ _ _ _)
      | (with_reducible exact ih1 _ _ _ _ _ _ _ _ _ _)
      | (with_reducible exact ih2 _ _ _ _ _ _ _ _ _ _ _ _ _)
      | (with_reducible exact ih3 _ _ _ _ _ _ _ _ _ _ _ _ _)
      | (with_reducible exact ih4 _ _ _ _ _ _ _ _ _ _ _ _)
      | (with_reducible exact ih5 _ _ _ _ _ _ _ _)
      | (with_reducible exact ih6 _ _ _ _ _ _ _ _)
      | (with_reducible exact ih7 _ _ _ _)
      | (with_reducible exact ih8 _ _ _ _ _ _ _ _ _ _)
      | (with_reducible exact ih9 _ _ _ _ _ _ _ _ _ _)
      | (with_reducible exact impl_IsFromBehind.mono _ _)
      | (with_reducible exact impl_MultiplySeries.mono _ _ _)
      | (with_reducible exact impl_NumeratorOf.mono _ _ _)
      | (with_reducible exact impl_SeriesOfDegrees.mono _ _ _)
      | (with_reducible exact impl_ShiftSeries.mono _ _ _)
      | (with_reducible exact laws_likeInts.mono _ _ _)
      | (with_reducible exact spec_DrawIsFromBehind.mono _ _)
      | (with_reducible exact spec_DrawMultiplySeries.mono _ _)
      | (with_reducible exact spec_DrawNumeratorOf.mono _ _)
      | (with_reducible exact spec_DrawSeriesOfDegrees.mono _ _)
      | (with_reducible exact spec_DrawShiftSeries.mono _ _)
      | (with_reducible exact spec_IsFromBehind.mono _ _)
      | (with_reducible exact spec_MultiplySeries.mono _ _ _)
      | (with_reducible exact spec_NumeratorOf.mono _ _ _)
      | (with_reducible exact spec_SeriesOfDegrees.mono _ _ _)
      | (with_reducible exact spec_ShiftSeries.mono _ _ _)
      | (with_reducible exact LeO.refl _)
      | (with_reducible exact LeO.none _)
      | (with_reducible refine LeO.ite ?_ ?_)
      | (with_reducible refine LeO.bind ?_ (fun _ => ?_))
      | exact ih0 _ _ _ _ _ _
      | exact ih1 _ _ _ _ _ _ _ _ _ _
      | exact ih2 _ _ _ _ _ _ _ _ _ _ _ _ _
      | exact ih3 _ _ _ _ _ _ _ _ _ _ _ _ _
      | exact ih4 _ _ _ _ _ _ _ _ _ _ _ _
      | exact ih5 _ _ _ _ _ _ _ _
      | exact ih6 _ _ _ _ _ _ _ _
      | exact ih7 _ _ _ _
      | exact ih8 _ _ _ _ _ _ _ _ _ _
      | exact ih9 _ _ _ _ _ _ _ _ _ _
      | exact impl_IsFromBehind.mono _ _
      | exact impl_MultiplySeries.mono _ _ _
      | exact impl_NumeratorOf.mono _ _ _
      | exact impl_SeriesOfDegrees.mono _ _ _
      | exact impl_ShiftSeries.mono _ _ _
      | exact laws_likeInts.mono _ _ _
      | exact spec_DrawIsFromBehind.mono _ _
      | exact spec_DrawMultiplySeries.mono _ _
      | exact spec_DrawNumeratorOf.mono _ _
      | exact spec_DrawSeriesOfDegrees.mono _ _
      | exact spec_DrawShiftSeries.mono _ _
      | exact spec_IsFromBehind.mono _ _
      | exact spec_MultiplySeries.mono _ _ _
      | exact spec_NumeratorOf.mono _ _ _
      | exact spec_SeriesOfDegrees.mono _ _ _
      | exact spec_ShiftSeries.mono _ _ _
      | exact LeO.none _
      | refine LeO.ite ?_ ?_
      | refine LeO.bind ?_ (fun _ => ?_)
    · intro y0 y1 y2 y3 y4 y5 y6 y7 y8 y9 y10 y11 y12
      unfold laws_FnSeries.j3
      repeat' first
      | (with_reducible exact ih0 _ _ _ _ _ _)
      | (with_reducible exact ih1 _ _ _ _ _ _ _ _ _ _)
      | (with_reducible exact ih2 _ _ _ _ _ _ _ _ _ _ _ _ _)
      | (with_reducible exact ih3 _ _ _ _ _ _ _ _ _ _ _ _ _)
      | (with_reducible exact ih4 _ _ _ _ _ _ _ _ _ _ _ _)
      | (with_reducible exact ih5 _ _ _ _ _ _ _ _)
      | (with_reducible exact ih6 _ _ _ _ _ _ _ _)
      | (with_reducible exact ih7 _ _ _ _)
      | (with_reducible exact ih8 _ _ _ _ _ _ _ _ _ _)
      | (with_reducible exact ih9 _ _ _ _ _ _ _ _ _ _)
      | (with_reducible exact impl_IsFromBehind.mono _ _)
      | (with_reducible exact impl_MultiplySeries.mono _ _ _)
      | (with_reducible exact impl_NumeratorOf.mono _ _ _)
      | (with_reducible exact impl_SeriesOfDegrees.mono _ _ _)
      | (with_reducible exact impl_ShiftSeries.mono _ _ _)
      | (with_reducible exact laws_likeInts.mono _ _ _)
      | (with_reducible exact spec_DrawIsFromBehind.mono _ _)
      | (with_reducible exact spec_DrawMultiplySeries.mono _ _)
      | (with_reducible exact spec_DrawNumeratorOf.mono _ _)
      | (with_reducible exact spec_DrawSeriesOfDegrees.mono _ _)
      | (with_reducible exact spec_DrawShiftSeries.mono _ _)
      | (with_reducible exact spec_IsFromBehind.mono _ _)
      | (with_reducible exact spec_MultiplySeries.mono _ _ _)
      | (with_reducible exact spec_NumeratorOf.mono _ _ _)
      | (with_reducible exact spec_SeriesOfDegrees.mono _ _ _)
      | (with_reducible exact spec_ShiftSeries.mono _ _ _)
      | (with_reducible exact LeO.refl _)
      | (with_reducible exact LeO.none _)
      | (with_reducible refine LeO.ite ?_ ?_)
      | (with_reducible refine LeO.bind ?_ (fun _ => ?_))
      | exact ih0 _ _ _ _ _ _
      | exact ih1 _ _ _ _ _ _ _ _ _ _
      | exact ih2 _ _ _ _ _ _ _ _ _ _ _ _ _
      | exact ih3 _ _ _ _ _ _ _ _ _ _ _ _ _
      | exact ih4 _ _ _ _ _ _ _ _ _ _ _ _
      | exact ih5 _ _ _ _ _ _ _ _
      | exact ih6 _ _ _ _ _ _ _ _
      | exact ih7 _ _ _ _
      | exact ih8 _ _ _ _ _ _ _ _ _ _
      | exact ih9 _ _ _ _ _ _ _ _ _ _
      | exact impl_IsFromBehind.mono _ _
      | exact impl_MultiplySeries.mono _ _ _
      | exact impl_NumeratorOf.mono _ _ _
      | exact impl_SeriesOfDegrees.mono _ _ _
      | exact impl_ShiftSeries.mono _ _ _
      | exact laws_likeInts.mono _ _ _
      | exact spec_DrawIsFromBehind.mono _ _
      | exact spec_DrawMultiplySeries.mono _ _
      | exact spec_DrawNumeratorOf.mono _ _
      | exact spec_DrawSeriesOfDegrees.mono _ _
      | exact spec_DrawShiftSeries.mono _ _
      | exact spec_IsFromBehind.mono _ _
      | exact spec_MultiplySeries.mono _ _ _
      | exact spec_NumeratorOf.mono _ _ _
      | exact spec_SeriesOfDegrees.mono _ _ _
      | exact spec_ShiftSeries.mono _ _ _
      | exact LeO.none _
      | refine LeO.ite ?_ ?_
      | refine LeO.bind ?_ (fun _ => ?_)
    · intro y0 y1 y2 y3 y4 y5 y6 y7 y8 y9 y10 y11
      unfold laws_FnSeries.j4
      repeat' first
      | (with_reducible exact ih0 _ _ _ _ _ _)
      | (with_reducible exact ih1 _ _ _ _ _ _ _ _ _ _)
      | (with_reducible exact ih2 _ _ _ _ _ _ _ _ _ _ _ _ _)
      | (with_reducible exact ih3 _ _ _ _ _ _ _ _ _ _ _ _ _)
      | (with_reducible exact ih4 _ _ _ _ _ _ _ _ _ _ _ _)
      | (with_reducible exact ih5 _ _ _ _ _ _ _ _)
      | (with_reducible exact ih6 _ _ _ _ _ _ _ _)
      | (with_reducible exact ih7 _ _ _ _)
      | (with_reducible exact ih8 _ _ _ _ _ _ _ _ _ _)
      | (with_reducible exact ih9 _ _ _ _ _ _ _ _ _ _)
      | (with_reducible exact impl_IsFromBehind.mono _ _)
      | (with_reducible exact impl_MultiplySeries.mono _ _ _)
      | (with_reducible exact impl_NumeratorOf.mono _ _ _)
      | (with_reducible exact impl_SeriesOfDegrees.mono _ _ _)
      | (with_reducible exact impl_ShiftSeries.mono _ _ _)
      | (with_reducible exact laws_likeInts.mono _ _ _)
      | (with_reducible exact spec_DrawIsFromBehind.mono _ _)
      | (with_reducible exact spec_DrawMultiplySeries.mono _ _)
      | (with_reducible exact spec_DrawNumeratorOf.mono _ _)
      | (with_reducible exact spec_DrawSeriesOfDegrees.mono _ _)
      | (with_reducible exact spec_DrawShiftSeries.mono _ _)
      | (with_reducible exact spec_IsFromBehind.mono _ _)
      | (with_reducible exact spec_MultiplySeries.mono _ _ _)
      | (with_reducible exact spec_NumeratorOf.mono _ _ _)
      | (with_reducible exact spec_SeriesOfDegrees.mono _ _ _)
      | (with_reducible exact spec_ShiftSeries.mono _ _ _)
      | (with_reducible exact LeO.refl _)
      | (with_reducible exact LeO.none _)
      | (with_reducible refine LeO.ite ?_ ?_)
      | (with_reducible refine LeO.bind ?_ (fun _ => ?_))
      | exact ih0 _ _ _ _ _ _
      | exact ih1 _ _ _ _ _ _ _ _ _ _
      | exact ih2 _ _ _ _ _ _ _ _ _ _ _ _ _
      | exact ih3 _ _ _ _ _ _ _ _ _ _ _ _ _
      | exact ih4 _ _ _ _ _ _ _ _ _ _ _ _
      | exact ih5 _ _ _ _ _ _ _ _
      | exact ih6 _ _ _ _ _ _ _ _
      | exact ih7 _ _ _ _
      | exact ih8 _ _ _ _ _ _ _ _ _ _
      | exact ih9 _ _ _ _ _ _ _ _ _ _
      | exact impl_IsFromBehind.mono _ _
      | exact impl_MultiplySeries.mono _ _ _
      | exact impl_NumeratorOf.mono _ _ _
      | exact impl_SeriesOfDegrees.mono _ _ _
      | exact impl_ShiftSeries.mono _ _ _
      | exact laws_likeInts.mono _ _ _
      | exact spec_DrawIsFromBehind.mono _ _
      | exact spec_DrawMultiplySeries.mono _ _
      | exact spec_DrawNumeratorOf.mono _ _
      | exact spec_DrawSeriesOfDegrees.mono _ _
      | exact spec_DrawShiftSeries.mono _ _
      | exact spec_IsFromBehind.mono _ _
      | exact spec_MultiplySeries.mono _ _ _
      | exact spec_NumeratorOf.mono _ _ _
      | exact spec_SeriesOfDegrees.mono _ _ _
      | exact spec_ShiftSeries.mono _ _ _
      | exact LeO.none _
      | refine LeO.ite ?_ ?_
      | refine LeO.bind ?_ (fun _ => ?_)
    · intro y0 y1 y2 y3 y4 y5 y6 y7
      unfold laws_FnSeries.j7
      repeat' first
      | (with_reducible exact ih0 _ _ _ _ _ _)
      | (with_reducible exact ih1 _ _ _ _ _ _ _ _ _ _)
      | (with_reducible exact ih2 _ _ _ _ _ _ _ _ _ _ _ _ _)
      | (with_reducible exact ih3 _ _ _ _ _ _ _ _ _ _ _ _ _)
      | (with_reducible exact ih4 _ _ _ _ _ _ _ _ _ _ _ _)
      | (with_reducible exact ih5 _ _ _ _ _ _ _ _)
      | (with_reducible exact ih6 _ _ _ _ _ _ _ _)
      | (with_reducible exact ih7 _ _ _ _)
      | (with_reducible exact ih8 _ _ _ _ _ _ _ _ _ _)
      | (with_reducible exact ih9 _ _ _ _ _ _ _ _ _ _)
      | (with_reducible exact impl_IsFromBehind.mono _ _)
      | (with_reducible exact impl_MultiplySeries.mono _ _ _)
      | (with_reducible exact impl_NumeratorOf.mono _ _ _)
      | (with_reducible exact impl_SeriesOfDegrees.mono _ _ _)
      | (with_reducible exact impl_ShiftSeries.mono _ _ _)
      | (with_reducible exact laws_likeInts.mono _ _ _)
      | (with_reducible exact spec_DrawIsFromBehind.mono _ _)
      | (with_reducible exact spec_DrawMultiplySeries.mono _ _)
      | (with_reducible exact spec_DrawNumeratorOf.mono _ _)
      | (with_reducible exact spec_DrawSeriesOfDegrees.mono _ _)
      | (with_reducible exact spec_DrawShiftSeries.mono _ _)
      | (with_reducible exact spec_IsFromBehind.mono _ _)
      | (with_reducible exact spec_MultiplySeries.mono _ _ _)
      | (with_reducible exact spec_NumeratorOf.mono _ _ _)
      | (with_reducible exact spec_SeriesOfDegrees.mono _ _ _)
      | (with_reducible exact spec_ShiftSeries.mono _ _ _)
      | (with_reducible exact LeO.refl _)
      | (with_reducible exact LeO.none _)
      | (with_reducible refine LeO.ite ?_ ?_)
      | (with_reducible refine LeO.bind ?_ (fun _ => ?_))
      | exact ih0 _ _ _ _ _ _
      | exact ih1 _ _ _ _ _ _ _ _ _ _
      | exact ih2 _ _ _ _ _ _ _ _ _ _ _ _ _
      | exact ih3 _ _ _ _ _ _ _ _ _ _ _ _ _
      | exact ih4 _ _ _ _ _ _ _ _ _ _ _ _
      | exact ih5 _ _ _ _ _ _ _ _
      | exact ih6 _ _ _ _ _ _ _ _
      | exact ih7 _ _ _ _
      | exact ih8 _ _ _ _ _ _ _ _ _ _
      | exact ih9 _ _ _ _ _ _ _ _ _ _
      | exact impl_IsFromBehind.mono _ _
      | exact impl_MultiplySeries.mono _ _ _
      | exact impl_NumeratorOf.mono _ _ _
      | exact impl_SeriesOfDegrees.mono _ _ _
      | exact impl_ShiftSeries.mono _ _ _
      | exact laws_likeInts.mono _ _ _
      | exact spec_DrawIsFromBehind.mono _ _
      | exact spec_DrawMultiplySeries.mono _ _
      | exact spec_DrawNumeratorOf.mono _ _
      | exact spec_DrawSeriesOfDegrees.mono _ _
      | exact spec_DrawShiftSeries.mono _ _
      | exact spec_IsFromBehind.mono _ _
      | exact spec_MultiplySeries.mono _ _ _
      | exact spec_NumeratorOf.mono _ _ _
      | exact spec_SeriesOfDegrees.mono _ _ _
      | exact spec_ShiftSeries.mono _ _ _
      | exact LeO.none _
      | refine LeO.ite ?_ ?_
      | refine LeO.bind ?_ (fun _ => ?_)
    · intro y0 y1 y2 y3 y4 y5 y6 y7
      unfold laws_FnSeries.j8
      repeat' first
      | (with_reducible exact ih0 _ _ _ _ _ _)
      | (with_reducible exact ih1 _ _ _ _ _ _ _ _ _ _)
      | (with_reducible exact ih2 _ _ _ _ _ _ _ _ _ _ _ _ _)
      | (with_reducible exact ih3 _ _ _ _ _ _ _ _ _ _ _ _ _)
      | (with_reducible exact ih4 _ _ _ _ _ _ _ _ _ _ _ _)
      | (with_reducible exact ih5 _ _ _ _ _ _ _ _)
      | (with_reducible exact ih6 _ _ _ _ _ _ _ _)
      | (with_reducible exact ih7 _ _ _ _)
      | (with_reducible exact ih8 _ _ _ _ _ _ _ _ _ _)
      | (with_reducible exact ih9 _ _ _ _ _ _ _ _ _ _)
      | (with_reducible exact impl_IsFromBehind.mono _ _)
      | (with_reducible exact impl_MultiplySeries.mono _ _ _)
      | (with_reducible exact impl_NumeratorOf.mono _ _ _)
      | (with_reducible exact impl_SeriesOfDegrees.mono _ _ _)
      | (with_reducible exact impl_ShiftSeries.mono _ _ _)
      | (with_reducible exact laws_likeInts.mono _ _ _)
      | (with_reducible exact spec_DrawIsFromBehind.mono _ _)
      | (with_reducible exact spec_DrawMultiplySeries.mono _ _)
      | (with_reducible exact spec_DrawNumeratorOf.mono _ _)
      | (with_reducible exact spec_DrawSeriesOfDegrees.mono _ _)
      | (with_reducible exact spec_DrawShiftSeries.mono _ _)
      | (with_reducible exact spec_IsFromBehind.mono _ _)
      | (with_reducible exact spec_MultiplySeries.mono _ _ _)
      | (with_reducible exact spec_NumeratorOf.mono _ _ _)
      | (with_reducible exact spec_SeriesOfDegrees.mono _ _ _)
      | (with_reducible exact spec_ShiftSeries.mono _ _ _)
      | (with_reducible exact LeO.refl _)
      | (with_reducible exact LeO.none _)
      | (with_reducible refine LeO.ite ?_ ?_)
      | (with_reducible refine LeO.bind ?_ (fun _ => ?_))
      | exact ih0 _ _ _ _ _ _
      | exact ih1 _ _ _ _ _ _ _ _ _ _
      | exact ih2 _ _ _ _ _ _ _ _ _ _ _ _ _
      | exact ih3 _ _ _ _ _ _ _ _ _ _ _ _ _
      | exact ih4 _ _ _ _ _ _ _ _ _ _ _ _
      | exact ih5 _ _ _ _ _ _ _ _
      | exact ih6 _ _ _ _ _ _ _ _
      | exact ih7 _ _ _ _
      | exact ih8 _ _ _ _ _ _ _ _ _ _
      | exact ih9 _ _ _ _ _ _ _ _ _ _
      | exact impl_IsFromBehind.mono _ _
      | exact impl_MultiplySeries.mono _ _ _
      | exact impl_NumeratorOf.mono _ _ _
      | exact impl_SeriesOfDegrees.mono _ _ _
      | exact impl_ShiftSeries.mono _ _ _
      | exact laws_likeInts.mono _ _ _
      | exact spec_DrawIsFromBehind.mono _ _
      | exact spec_DrawMultiplySeries.mono _ _
      | exact spec_DrawNumeratorOf.mono _ _
      | exact spec_DrawSeriesOfDegrees.mono _ _
      | exact spec_DrawShiftSeries.mono _ _
      | exact spec_IsFromBehind.mono _ _
      | exact spec_MultiplySeries.mono _ _ _
      | exact spec_NumeratorOf.mono _ _ _
      | exact spec_SeriesOfDegrees.mono _ _ _
      | exact spec_ShiftSeries.mono _ _ _
      | exact LeO.none _
      | refine LeO.ite ?_ ?_
      | refine LeO.bind ?_ (fun _ => ?_)
    · intro y0 y1 y2 y3
      unfold laws_FnSeries.j9
      repeat' first
      | (with_reducible exact ih0 _ _ _ _ _ _)
      | (with_reducible exact ih1 _ _ _ _ _ _ _ _ _ _)
      | (with_reducible exact ih2 _ _ _ _ _ _ _ _ _ _ _ _ _)
      | (with_reducible exact ih3 _ _ _ _ _ _ _ _ _ _ _ _ _)
      | (with_reducible exact ih4 _ _ _ _ _ _ _ _ _ _ _ _)
      | (with_reducible exact ih5 _ _ _ _ _ _ _ _)
      | (with_reducible exact ih6 _ _ _ _ _ _ _ _)
      | (with_reducible exact ih7 _ _ _ _)
      | (with_reducible exact ih8 _ _ _ _ _ _ _ _ _ _)
      | (with_reducible exact ih9 _ _ _ _ _ _ _ _ _ _)
      | (with_reducible exact impl_IsFromBehind.mono _ _)
      | (with_reducible exact impl_MultiplySeries.mono _ _ _)
      | (with_reducible exact impl_NumeratorOf.mono _ _ _)
      | (with_reducible exact impl_SeriesOfDegrees.mono _ _ _)
      | (with_reducible exact impl_ShiftSeries.mono _ _ _)
      | (with_reducible exact laws_likeInts.mono _ _ _)
      | (with_reducible exact spec_DrawIsFromBehind.mono _ _)
      | (with_reducible exact spec_DrawMultiplySeries.mono _ _)
      | (with_reducible exact spec_DrawNumeratorOf.mono _ _)
      | (with_reducible exact spec_DrawSeriesOfDegrees.mono _ _)
      | (with_reducible exact spec_DrawShiftSeries.mono _ _)
      | (with_reducible exact spec_IsFromBehind.mono _ _)
      | (with_reducible exact spec_MultiplySeries.mono _ _ _)
      | (with_reducible exact spec_NumeratorOf.mono _ _ _)
      | (with_reducible exact spec_SeriesOfDegrees.mono _ _ _)
      | (with_reducible exact spec_ShiftSeries.mono _ _ _)
      | (with_reducible exact LeO.refl _)
      | (with_reducible exact LeO.none _)
      | (with_reducible refine LeO.ite ?_ ?_)
      | (with_reducible refine LeO.bind ?_ (fun _ => ?_))
      | exact ih0 _ _ _ _ _ _
      | exact ih1 _ _ _ _ _ _ _ _ _ _
      | exact ih2 _ _ _ _ _ _ _ _ _ _ _ _ _
      | exact ih3 _ _ _ _ _ _ _ _ _ _ _ _ _
      | exact ih4 _ _ _ _ _ _ _ _ _ _ _ _
      | exact ih5 _ _ _ _ _ _ _ _
      | exact ih6 _ _ _ _ _ _ _ _
      | exact ih7 _ _ _ _
      | exact ih8 _ _ _ _ _ _ _ _ _ _
      | exact ih9 _ _ _ _ _ _ _ _ _ _
      | exact impl_IsFromBehind.mono _ _
      | exact impl_MultiplySeries.mono _ _ _
      | exact impl_NumeratorOf.mono _ _ _
      | exact impl_SeriesOfDegrees.mono _ _ _
      | exact impl_ShiftSeries.mono _ _ _
      | exact laws_likeInts.mono _ _ _
      | exact spec_DrawIsFromBehind.mono _ _
      | exact spec_DrawMultiplySeries.mono _ _
      | exact spec_DrawNumeratorOf.mono _ _
      | exact spec_DrawSeriesOfDegrees.mono _ _
      | exact spec_DrawShiftSeries.mono _ _
      | exact spec_IsFromBehind.mono _ _
      | exact spec_MultiplySeries.mono _ _ _
      | exact spec_NumeratorOf.mono _ _ _
      | exact spec_SeriesOfDegrees.mono _ _ _
      | exact spec_ShiftSeries.mono _ _ _
      | exact LeO.none _
      | refine LeO.ite ?_ ?_
      | refine LeO.bind ?_ (fun _ => ?_)
    · intro y0 y1 y2 y3 y4 y5 y6 y7 y8 y9
      unfold laws_FnSeries.j5
      repeat' first
      | (with_reducible exact ih0 _ _ _ _ _ _)
      | (with_reducible exact ih1 _ _ _ _ _ _ _ _ _ _)
      | (with_reducible exact ih2 _ _ _ _ _ _ _ _ _ _ _ _ _)
      | (with_reducible exact ih3 _ _ _ _ _ _ _ _ _ _ _ _ _)
      | (with_reducible exact ih4 _ _ _ _ _ _ _ _ _ _ _ _)
      | (with_reducible exact ih5 _ _ _ _ _ _ _ _)
      | (with_reducible exact ih6 _ _ _ _ _ _ _ _)
      | (with_reducible exact ih7 _ _ _ _)
      | (with_reducible exact ih8 _ _ _ _ _ _ _ _ _ _)
      | (with_reducible exact ih9 _ _ _ _ _ _ _ _ _ _)
      | (with_reducible exact impl_IsFromBehind.mono _ _)
      | (with_reducible exact impl_MultiplySeries.mono _ _ _)
      | (with_reducible exact impl_NumeratorOf.mono _ _ _)
      | (with_reducible exact impl_SeriesOfDegrees.mono _ _ _)
      | (with_reducible exact impl_ShiftSeries.mono _ _ _)
      | (with_reducible exact laws_likeInts.mono _ _ _)
      | (with_reducible exact spec_DrawIsFromBehind.mono _ _)
      | (with_reducible exact spec_DrawMultiplySeries.mono _ _)
      | (with_reducible exact spec_DrawNumeratorOf.mono _ _)
      | (with_reducible exact spec_DrawSeriesOfDegrees.mono _ _)
      | (with_reducible exact spec_DrawShiftSeries.mono _ _)
      | (with_reducible exact spec_IsFromBehind.mono _ _)
      | (with_reducible exact spec_MultiplySeries.mono _ _ _)
      | (with_reducible exact spec_NumeratorOf.mono _ _ _)
      | (with_reducible exact spec_SeriesOfDegrees.mono _ _ _)
      | (with_reducible exact spec_ShiftSeries.mono _ _ _)
      | (with_reducible exact LeO.refl _)
      | (with_reducible exact LeO.none _)
      | (with_reducible refine LeO.ite ?_ ?_)
      | (with_reducible refine LeO.bind ?_ (fun _ => ?_))
      | exact ih0 _ _ _ _ _ _
      | exact ih1 _ _ _ _ _ _ _ _ _ _
      | exact ih2 _ _ _ _ _ _ _ _ _ _ _ _ _
      | exact ih3 _ _ _ _ _ _ _ _ _ _ _ _ _
      | exact ih4 _ _ _ _ _ _ _ _ _ _ _ _
      | exact ih5 _ _ _ _ _ _ _ _
      | exact ih6 _ _ _ _ _ _ _ _
      | exact ih7 _ _ _ _
      | exact ih8 _ _ _ _ _ _ _ _ _ _
      | exact ih9 _ _ _ _ _ _ _ _ _ _
      | exact impl_IsFromBehind.mono _ _
      | exact impl_MultiplySeries.mono _ _ _
      | exact impl_NumeratorOf.mono _ _ _
      | exact impl_SeriesOfDegrees.mono _ _ _
      | exact impl_ShiftSeries.mono _ _ _
      | exact laws_likeInts.mono _ _ _
      | exact spec_DrawIsFromBehind.mono _ _
      | exact spec_DrawMultiplySeries.mono _ _
      | exact spec_DrawNumeratorOf.mono _ _
      | exact spec_DrawSeriesOfDegrees.mono _ _
      | exact spec_DrawShiftSeries.mono _ _
      | exact spec_IsFromBehind.mono _ _
      | exact spec_MultiplySeries.mono _ _ _
      | exact spec_NumeratorOf.mono _ _ _
      | exact spec_SeriesOfDegrees.mono _ _ _
      | exact spec_ShiftSeries.mono _ _ _
      | exact LeO.none _
      | refine LeO.ite ?_ ?_
      | refine LeO.bind ?_ (fun _ => ?_)
    · intro y0 y1 y2 y3 y4 y5 y6 y7 y8 y9
      unfold laws_FnSeries.l0
      repeat' first
      | (with_reducible exact ih0 _ _ _ _ _ _)
      | (with_reducible exact ih1 _ _ _ _ _ _ _ _ _ _)
      | (with_reducible exact ih2 _ _ _ _ _ _ _ _ _ _ _ _ _)
      | (with_reducible exact ih3 _ _ _ _ _ _ _ _ _ _ _ _ _)
      | (with_reducible exact ih4 _ _ _ _ _ _ _ _ _ _ _ _)
      | (with_reducible exact ih5 _ _ _ _ _ _ _ _)
      | (with_reducible exact ih6 _ _ _ _ _ _ _ _)
      | (with_reducible exact ih7 _ _ _ _)
      | (with_reducible exact ih8 _ _ _ _ _ _ _ _ _ _)
      | (with_reducible exact ih9 _ _ _ _ _ _ _ _ _ _)
      | (with_reducible exact impl_IsFromBehind.mono _ _)
      | (with_reducible exact impl_MultiplySeries.mono _ _ _)
      | (with_reducible exact impl_NumeratorOf.mono _ _ _)
      | (with_reducible exact impl_SeriesOfDegrees.mono _ _ _)
      | (with_reducible exact impl_ShiftSeries.mono _ _ _)
      | (with_reducible exact laws_likeInts.mono _ _ _)
      | (with_reducible exact spec_DrawIsFromBehind.mono _ _)
      | (with_reducible exact spec_DrawMultiplySeries.mono _ _)
      | (with_reducible exact spec_DrawNumeratorOf.mono _ _)
      | (with_reducible exact spec_DrawSeriesOfDegrees.mono _ _)
      | (with_reducible exact spec_DrawShiftSeries.mono _ _)
      | (with_reducible exact spec_IsFromBehind.mono _ _)
      | (with_reducible exact spec_MultiplySeries.mono _ _ _)
      | (with_reducible exact spec_NumeratorOf.mono _ _ _)
      | (with_reducible exact spec_SeriesOfDegrees.mono _ _ _)
      | (with_reducible exact spec_ShiftSeries.mono _ _ _)
      | (with_reducible exact LeO.refl _)
      | (with_reducible exact LeO.none _)
      | (with_reducible refine LeO.ite ?_ ?_)
      | (with_reducible refine LeO.bind ?_ (fun _ => ?_))
      | exact ih0 _ _ _ _ _ _
      | exact ih1 _ _ _ _ _ _ _ _ _ _
      | exact ih2 _ _ _ _ _ _ _ _ _ _ _ _ _
      | exact ih3 _ _ _ _ _ _ _ _ _ _ _ _ _
      | exact ih4 _ _ _ _ _ _ _ _ _ _ _ _
      | exact ih5 _ _ _ _ _ _ _ _
      | exact ih6 _ _ _ _ _ _ _ _
      | exact ih7 _ _ _ _
      | exact ih8 _ _ _ _ _ _ _ _ _ _
      | exact ih9 _ _ _ _ _ _ _ _ _ _
      | exact impl_IsFromBehind.mono _ _
      | exact impl_MultiplySeries.mono _ _ _
      | exact impl_NumeratorOf.mono _ _ _
      | exact impl_SeriesOfDegrees.mono _ _ _
      | exact impl_ShiftSeries.mono _ _ _
      | exact laws_likeInts.mono _ _ _
      | exact spec_DrawIsFromBehind.mono _ _
      | exact spec_DrawMultiplySeries.mono _ _
      | exact spec_DrawNumeratorOf.mono _ _
      | exact spec_DrawSeriesOfDegrees.mono _ _
      | exact spec_DrawShiftSeries.mono _ _
      | exact spec_IsFromBehind.mono _ _
      | exact spec_MultiplySeries.mono _ _ _
      | exact spec_NumeratorOf.mono _ _ _
      | exact spec_SeriesOfDegrees.mono _ _ _
      | exact spec_ShiftSeries.mono _ _ _
      | exact LeO.none _
      | refine LeO.ite ?_ ?_
      | refine LeO.bind ?_ (fun _ => ?_)
theorem laws_FnSeries.mono : ∀ a0 k, LeO (laws_FnSeries.f k a0) (laws_FnSeries.f (k + 1) a0) := by
  intro a0 k
  obtain ⟨ih0, ih1, ih2, ih3, ih4, ih5, ih6, ih7, ih8, ih9⟩ := laws_FnSeries.mono_l k
  unfold laws_FnSeries.f
  repeat' first
      | (with_reducible exact ih0 _ _ _ _ _ _)
      | (with_reducible exact ih1 _ _ _ _ _ _ _ _ _ _)
      | (with_reducible exact ih2 _ _ _ _ _ _ _ _ _ _ _ _ _)
      | (with_reducible exact ih3 _ _ _ _ _ _ _ _ _ _ _ _ _)
      | (with_reducible exact ih4 _ _ _ _ _ _ _ _ _ _ _ _)
      | (with_reducible exact ih5 _ _ _ _ _ _ _ _)
      | (with_reducible exact ih6 _ _ _ _ _ _ _ _)
      | (with_reducible exact ih7 _ _ _ _)
      | (with_reducible exact ih8 _ _ _ _ _ _ _ _ _ _)
      | (with_reducible exact ih9 _ _ _ _ _ _ _ _ _ _)
      | (with_reducible exact impl_IsFromBehind.mono _ _)
      | (with_reducible exact impl_MultiplySeries.mono _ _ _)
      | (with_reducible exact impl_NumeratorOf.mono _ _ _)
      | (with_reducible exact impl_SeriesOfDegrees.mono _ _ _)
      | (with_reducible exact impl_ShiftSeries.mono _ _ _)
      | (with_reducible exact laws_likeInts.mono _ _ _)
      | (with_reducible exact spec_DrawIsFromBehind.mono _ _)
      | (with_reducible exact spec_DrawMultiplySeries.mono _ _)
      | (with_reducible exact spec_DrawNumeratorOf.mono _ _)
      | (with_reducible exact spec_DrawSeriesOfDegrees.mono _ _)
      | (with_reducible exact spec_DrawShiftSeries.mono _ _)
      | (with_reducible exact spec_IsFromBehind.mono _ _)
      | (with_reducible exact spec_MultiplySeries.mono _ _ _)
      | (with_reducible exact spec_NumeratorOf.mono _ _ _)
      | (with_reducible exact spec_SeriesOfDegrees.mono _ _ _)
      | (with_reducible exact spec_ShiftSeries.mono _ _ _)
      | (with_reducible exact LeO.refl _)
      | (with_reducible exact LeO.none _)
      | (with_reducible refine LeO.ite ?_ ?_)
      | (with_reducible refine LeO.bind ?_ (fun _ => ?_))
      | exact ih0 _ _ _ _ _ _
      | exact ih1 _ _ _ _ _ _ _ _ _ _
      | exact ih2 _ _ _ _ _ _ _ _ _ _ _ _ _
      | exact ih3 _ _ _ _ _ _ _ _ _ _ _ _ _
      | exact ih4 _ _ _ _ _ _ _ _ _ _ _ _
      | exact ih5 _ _ _ _ _ _ _ _
      | exact ih6 _ _ _ _ _ _ _ _
      | exact ih7 _ _ _ _
      | exact ih8 _ _ _ _ _ _ _ _ _ _
      | exact ih9 _ _ _ _ _ _ _ _ _ _
      | exact impl_IsFromBehind.mono _ _
      | exact impl_MultiplySeries.mono _ _ _
      | exact impl_NumeratorOf.mono _ _ _
      | exact impl_SeriesOfDegrees.mono _ _ _
      | exact impl_ShiftSeries.mono _ _ _
      | exact laws_likeInts.mono _ _ _
      | exact spec_DrawIsFromBehind.mono _ _
      | exact spec_DrawMultiplySeries.mono _ _
      | exact spec_DrawNumeratorOf.mono _ _
      | exact spec_DrawSeriesOfDegrees.mono _ _
      | exact spec_DrawShiftSeries.mono _ _
      | exact spec_IsFromBehind.mono _ _
      | exact spec_MultiplySeries.mono _ _ _
      | exact spec_NumeratorOf.mono _ _ _
      | exact spec_SeriesOfDegrees.mono _ _ _
      | exact spec_ShiftSeries.mono _ _ _
      | exact LeO.none _
      | refine LeO.ite ?_ ?_
      | refine LeO.bind ?_ (fun _ => ?_)
set_option maxHeartbeats 8000000 in
set_option maxRecDepth 100000 in
theorem laws_FnSeries.calls (k : Nat) (A0 : Option Addr) (c0 : Nat) (l0 : List Int) (r : Bool) (w : World) (hr0 : Kd.C (Kd.int .u8) w A0 l0.length l0) (hc0 : l0.length ≤ c0) (h : laws_FnSeries.f k l0 = some r) :
    Calls Try.prog 6 #[.slice A0 l0.length c0] w fun e w' => e = .returned (.bool r) ∧ Below w.heap.size w w' := by
  have HR0 := Aside0.mk hr0
  have HC0 := Aside0.mk hc0
  clear hr0 hc0
  have HB := Aside0.mk (Below.refl w.heap.size w)
  have H : ((laws_big.f l0).bind fun t393 => (if t393 = true then (some true) else ((spec_DrawMultiplySeries.f k l0).bind fun bt394 => ((impl_MultiplySeries.f k bt394.1 bt394.2).bind fun bt400 => ((spec_MultiplySeries.f k bt394.1 bt394.2).bind fun bt404 => (if bt400.2 = bt404.2 then ((laws_likeInts.f k bt400.1 bt404.1).bind fun t408 => (laws_FnSeries.j0 k l0 bt394.1 bt394.2 bt400.1 bt400.2 (!t408))) else (laws_FnSeries.j0 k l0 bt394.1 bt394.2 bt400.1 bt400.2 true))))))) = some r := h
  clear h
  replace H := Option.bind_eq_some_iff.mp H
  obtain ⟨t393, A20, H⟩ := H
  replace H : (if t393 = true then (some true) else ((spec_DrawMultiplySeries.f k l0).bind fun bt394 => ((impl_MultiplySeries.f k bt394.1 bt394.2).bind fun bt400 => ((spec_MultiplySeries.f k bt394.1 bt394.2).bind fun bt404 => (if bt400.2 = bt404.2 then ((laws_likeInts.f k bt400.1 bt404.1).bind fun t408 => (laws_FnSeries.j0 k l0 bt394.1 bt394.2 bt400.1 bt400.2 (!t408))) else (laws_FnSeries.j0 k l0 bt394.1 bt394.2 bt400.1 bt400.2 true)))))) = some r := H
  have A2 := Aside0.mk A20
  clear A20
  by_cases c3 : t393 = true
  · subst c3
    have H1 : (some true) = some r := by rw [if_pos rfl] at H; exact H
    clear H
    have H := H1
    clear H1
    obtain rfl := Option.some.inj H
    go_enter Try.func6, Try.ntmps6
    go_wp2_with (first | ((with_reducible refine gate_callee (f := 30) rfl ?_); refine goL (some 41) Try.func30 #[.slice A0 l0.length c0] (h := ?_); (with_reducible refine (laws_big.calls _ _ l0 true _ ?side1 ?side2 A2.out).mono ?_); (case side1 => repeat (first | exact HR0.out | (with_reducible refine Kd.C_alloc ?_ _) | (with_reducible refine Kd.C_drewN ?_ _) | (with_reducible refine Kd.C_drew ?_))); (case side2 => exact HC0.out); rintro e w' ⟨rfl, ⟨nd, rfl⟩⟩; refine ⟨_, rfl, ?_⟩))
    go_ret
    exact ⟨mE, mB⟩
  · replace c3 := Bool.eq_false_iff.mpr c3
    subst c3
    have H1 : ((spec_DrawMultiplySeries.f k l0).bind fun bt394 => ((impl_MultiplySeries.f k bt394.1 bt394.2).bind fun bt400 => ((spec_MultiplySeries.f k bt394.1 bt394.2).bind fun bt404 => (if bt400.2 = bt404.2 then ((laws_likeInts.f k bt400.1 bt404.1).bind fun t408 => (laws_FnSeries.j0 k l0 bt394.1 bt394.2 bt400.1 bt400.2 (!t408))) else (laws_FnSeries.j0 k l0 bt394.1 bt394.2 bt400.1 bt400.2 true))))) = some r := by rw [if_neg (show ¬ (false = true) by decide)] at H; exact H
    clear H
    have H := H1
    clear H1
    replace H := Option.bind_eq_some_iff.mp H
    obtain ⟨⟨t394, t395⟩, A40, H⟩ := H
    replace H : ((impl_MultiplySeries.f k t394 t395).bind fun bt400 => ((spec_MultiplySeries.f k t394 t395).bind fun bt404 => (if bt400.2 = bt404.2 then ((laws_likeInts.f k bt400.1 bt404.1).bind fun t408 => (laws_FnSeries.j0 k l0 t394 t395 bt400.1 bt400.2 (!t408))) else (laws_FnSeries.j0 k l0 t394 t395 bt400.1 bt400.2 true)))) = some r := H
    have A4 := Aside0.mk A40
    clear A40
    replace H := Option.bind_eq_some_iff.mp H
    obtain ⟨⟨t400, t401⟩, A50, H⟩ := H
    replace H : ((spec_MultiplySeries.f k t394 t395).bind fun bt404 => (if t401 = bt404.2 then ((laws_likeInts.f k t400 bt404.1).bind fun t408 => (laws_FnSeries.j0 k l0 t394 t395 t400 t401 (!t408))) else (laws_FnSeries.j0 k l0 t394 t395 t400 t401 true))) = some r := H
    have A5 := Aside0.mk A50
    clear A50
    replace H := Option.bind_eq_some_iff.mp H
    obtain ⟨⟨t404, t405⟩, A60, H⟩ := H
    replace H : (if t401 = t405 then ((laws_likeInts.f k t400 t404).bind fun t408 => (laws_FnSeries.j0 k l0 t394 t395 t400 t401 (!t408))) else (laws_FnSeries.j0 k l0 t394 t395 t400 t401 true)) = some r := H
    have A6 := Aside0.mk A60
    clear A60
    have HC7 := Aside0.mk H
    clear H
    go_enter Try.func6, Try.ntmps6
    go_upto_region 6 with (first | ((with_reducible refine gate_callee (f := 30) rfl ?_); refine goL (some 41) Try.func30 #[.slice A0 l0.length c0] (h := ?_); (with_reducible refine (laws_big.calls _ _ l0 false _ ?side1 ?side2 A2.out).mono ?_); (case side1 => repeat (first | exact HR0.out | (with_reducible refine Kd.C_alloc ?_ _) | (with_reducible refine Kd.C_drewN ?_ _) | (with_reducible refine Kd.C_drew ?_))); (case side2 => exact HC0.out); rintro e w' ⟨rfl, ⟨nd, rfl⟩⟩; refine ⟨_, rfl, ?_⟩) | ((with_reducible refine gate_callee (f := 31) rfl ?_); refine goL (some 44) Try.func31 #[.slice A0 l0.length c0] (h := ?_); (with_reducible refine (spec_DrawMultiplySeries.calls k _ _ l0 t394 t395 _ ?side1 ?side2 A4.out).mono ?_); (case side1 => repeat (first | exact HR0.out | (with_reducible refine Kd.C_alloc ?_ _) | (with_reducible refine Kd.C_drewN ?_ _) | (with_reducible refine Kd.C_drew ?_))); (case side2 => exact HC0.out); rintro e w8 ⟨v396, v398, rfl, ho0, ho1, hb⟩; refine ⟨_, rfl, ?_⟩; have n0_ := Aside0.mk (Kd.R_lower ho0 (below_size mB)); have n1_ := Aside0.mk (Kd.R_lower ho1 (below_size mB)); have n2_ := Aside0.mk (below_step mB hb); clear HB; have HO397 := n0_; have HO399 := n1_; have HB := n2_; clear n0_ n1_ n2_; (try clear hb); (try clear hb2); (try clear hk); (try clear hi); (try clear ho0); (try clear ho1); obtain ⟨Ao9, co9, eo9⟩ := Kd.R_slice HO397.out; subst eo9; obtain ⟨Ao10, co10, eo10⟩ := Kd.R_slice HO399.out; subst eo10) | ((with_reducible refine gate_callee (f := 32) rfl ?_); refine goL (some 50) Try.func32 #[.slice Ao9 t394.length co9, .slice Ao10 t395.length co10] (h := ?_); (with_reducible refine (impl_MultiplySeries.calls k _ _ t394 _ _ t395 t400 t401 _ ?side1 ?side2 ?side3 ?side4 A5.out).mono ?_); (case side1 => repeat (first | exact (Kd.R_reads' HO397.out).2.2 | (with_reducible refine Kd.C_alloc ?_ _) | (with_reducible refine Kd.C_drewN ?_ _) | (with_reducible refine Kd.C_drew ?_))); (case side2 => exact (Kd.R_reads' HO397.out).2.1); (case side3 => repeat (first | exact (Kd.R_reads' HO399.out).2.2 | (with_reducible refine Kd.C_alloc ?_ _) | (with_reducible refine Kd.C_drewN ?_ _) | (with_reducible refine Kd.C_drew ?_))); (case side4 => exact (Kd.R_reads' HO399.out).2.1); rintro e w11 ⟨v402, rfl, ho0, hb⟩; refine ⟨_, rfl, ?_⟩; have n0_ := Aside0.mk (Kd.R_elder' (mR HO397.out) (Kd.R_base ho0) hb); have n1_ := Aside0.mk (Kd.R_elder' (mR HO399.out) (Kd.R_base ho0) hb); have n2_ := Aside0.mk (Kd.R_lower (Kd.R_new' (Kd.R_new' ho0 (Kd.R_lt (mR HO397.out))) (Kd.R_lt (mR HO399.out))) (below_size mB)); have n3_ := Aside0.mk (below_step mB hb); clear HO397; clear HO399; clear HB; have HO397 := n0_; have HO399 := n1_; have HO403 := n2_; have HB := n3_; clear n0_ n1_ n2_ n3_; (try clear hb); (try clear hb2); (try clear hk); (try clear hi); (try clear ho0)) | ((with_reducible refine gate_callee (f := 33) rfl ?_); refine goL (some 56) Try.func33 #[.slice Ao9 t394.length co9, .slice Ao10 t395.length co10] (h := ?_); (with_reducible refine (spec_MultiplySeries.calls k _ _ t394 _ _ t395 t404 t405 _ ?side1 ?side2 ?side3 ?side4 A6.out).mono ?_); (case side1 => repeat (first | exact (Kd.R_reads' HO397.out).2.2 | (with_reducible refine Kd.C_alloc ?_ _) | (with_reducible refine Kd.C_drewN ?_ _) | (with_reducible refine Kd.C_drew ?_))); (case side2 => exact (Kd.R_reads' HO397.out).2.1); (case side3 => repeat (first | exact (Kd.R_reads' HO399.out).2.2 | (with_reducible refine Kd.C_alloc ?_ _) | (with_reducible refine Kd.C_drewN ?_ _) | (with_reducible refine Kd.C_drew ?_))); (case side4 => exact (Kd.R_reads' HO399.out).2.1); rintro e w12 ⟨v406, rfl, ho0, hb⟩; refine ⟨_, rfl, ?_⟩; have n0_ := Aside0.mk (Kd.R_elder' (mR HO397.out) (Kd.R_base ho0) hb); have n1_ := Aside0.mk (Kd.R_elder' (mR HO399.out) (Kd.R_base ho0) hb); have n2_ := Aside0.mk (Kd.R_elder' (mR HO403.out) (Kd.R_base ho0) hb); have n3_ := Aside0.mk (Kd.R_lower (Kd.R_new' (Kd.R_new' (Kd.R_new' ho0 (Kd.R_lt (mR HO397.out))) (Kd.R_lt (mR HO399.out))) (Kd.R_lt (mR HO403.out))) (below_size mB)); have n4_ := Aside0.mk (below_step mB hb); clear HO397; clear HO399; clear HO403; clear HB; have HO397 := n0_; have HO399 := n1_; have HO403 := n2_; have HO407 := n3_; have HB := n4_; clear n0_ n1_ n2_ n3_ n4_; (try clear hb); (try clear hb2); (try clear hk); (try clear hi); (try clear ho0)))
    (try simp only [Act.put, List.setIfInBounds_toArray, List.set_cons_zero, List.set_cons_succ])
    go_cut [67] (fun v67 wc => ∃ (kq : Nat) (x67_6 : Bool), v67 = .bool x67_6 ∧ Aside0 (laws_FnSeries.j0 kq l0 t394 t395 t400 t401 x67_6 = some r) ∧ Aside0 (kq ≤ k) ∧ Aside0 (Kd.R (Kd.int .i64) 2 wc w.heap.size (fun k_ => some k_ ≠ ((.slice Ao10 t395.length co10) : Value).ownBlock ∧ some k_ ≠ (v402 : Value).ownBlock) (.slice Ao9 t394.length co9) t394) ∧ Aside0 (Kd.R (Kd.int .i64) 2 wc w.heap.size (fun k_ => some k_ ≠ ((.slice Ao9 t394.length co9) : Value).ownBlock ∧ some k_ ≠ (v402 : Value).ownBlock) (.slice Ao10 t395.length co10) t395) ∧ Aside0 (Kd.R (Kd.int .i64) 2 wc w.heap.size (fun k_ => some k_ ≠ ((.slice Ao9 t394.length co9) : Value).ownBlock ∧ some k_ ≠ ((.slice Ao10 t395.length co10) : Value).ownBlock) v402 t400) ∧ Aside0 (Below w.heap.size w wc))
    case first =>
      have H := HC7.out
      clear HC7
      by_cases c13 : t401 = t405
      · rw [if_pos c13] at H
        have c13b0 : (t401 == t405) = true := beq_iff_eq.mpr c13
        have c13b1 : (t401 != t405) = false := bne_eq_false_iff_eq.mpr c13
        clear c13
        (first | rw [c13b0] | (simp only [i64_w, i32_w]; rw [c13b0]) | skip)
        replace H := Option.bind_eq_some_iff.mp H
        obtain ⟨t408, A140, H⟩ := H
        replace H : (laws_FnSeries.j0 k l0 t394 t395 t400 t401 (!t408)) = some r := H
        have A14 := Aside0.mk A140
        clear A140
        have H' := Aside0.mk H
        clear H
        obtain ⟨Ao15, co15, eo15⟩ := Kd.R_slice HO403.out
        subst eo15
        obtain ⟨Ao16, co16, eo16⟩ := Kd.R_slice HO407.out
        subst eo16
        go_wp2_with (first | (go_at_call 34; (with_reducible refine (laws_likeInts.calls k _ _ t400 _ _ t404 t408 _ ?side1 ?side2 ?side3 ?side4 A14.out).mono ?_); (case side1 => repeat (first | exact (Kd.R_reads' HO403.out).2.2 | (with_reducible refine Kd.C_alloc ?_ _) | (with_reducible refine Kd.C_drewN ?_ _) | (with_reducible refine Kd.C_drew ?_))); (case side2 => exact (Kd.R_reads' HO403.out).2.1); (case side3 => repeat (first | exact (Kd.R_reads' HO407.out).2.2 | (with_reducible refine Kd.C_alloc ?_ _) | (with_reducible refine Kd.C_drewN ?_ _) | (with_reducible refine Kd.C_drew ?_))); (case side4 => exact (Kd.R_reads' HO407.out).2.1); rintro e w' ⟨rfl, ⟨nd, rfl⟩⟩))
        go_meet
        case rel => exact ⟨_, (!t408), mF, H', ⟨by first | omega | exact Nat.le_refl _⟩, ⟨by (with_reducible repeat (first | apply Kd.R_alloc | apply Kd.R_drewN | apply Kd.R_drew)); exact Kd.R_mono HO397.out (fun _ hk => ⟨hk.1.1, hk.1.2⟩)⟩, ⟨by (with_reducible repeat (first | apply Kd.R_alloc | apply Kd.R_drewN | apply Kd.R_drew)); exact Kd.R_mono HO399.out (fun _ hk => ⟨hk.1.1, hk.1.2⟩)⟩, ⟨by (with_reducible repeat (first | apply Kd.R_alloc | apply Kd.R_drewN | apply Kd.R_drew)); exact Kd.R_mono HO403.out (fun _ hk => ⟨hk.1.1.2, hk.1.2⟩)⟩, ⟨mB⟩⟩
      · rw [if_neg c13] at H
        have c13b0 : (t401 == t405) = false := beq_eq_false_iff_ne.mpr c13
        have c13b1 : (t401 != t405) = true := bne_iff_ne.mpr c13
        (first | rw [c13b0] | (simp only [i64_w, i32_w]; rw [c13b0]) | skip)
        have H' := Aside0.mk H
        clear H
        go_wp2
        go_meet
        case rel => exact ⟨_, (true), mF, H', ⟨by first | omega | exact Nat.le_refl _⟩, ⟨by (with_reducible repeat (first | apply Kd.R_alloc | apply Kd.R_drewN | apply Kd.R_drew)); exact Kd.R_mono HO397.out (fun _ hk => ⟨hk.1.1, hk.1.2⟩)⟩, ⟨by (with_reducible repeat (first | apply Kd.R_alloc | apply Kd.R_drewN | apply Kd.R_drew)); exact Kd.R_mono HO399.out (fun _ hk => ⟨hk.1.1, hk.1.2⟩)⟩, ⟨by (with_reducible repeat (first | apply Kd.R_alloc | apply Kd.R_drewN | apply Kd.R_drew)); exact Kd.R_mono HO403.out (fun _ hk => ⟨hk.1.1.2, hk.1.2⟩)⟩, ⟨mB⟩⟩
    case rest =>
      as_aux_lemma =>
      clear HC7
      try clear c1
      try clear p2
      try clear c3
      try clear c6
      try clear c13
      try clear c13b0
      try clear c13b1
      obtain ⟨kq, x67_6, rfl, HA, HJ6, HO_3, HO_4, HO_5, HB⟩ := hcut
      cases kq with
      | zero => exact absurd HA.out (by simp [laws_FnSeries.j0])
      | succ kj6 =>
        have H := HA.out
        clear HA
        simp only [laws_FnSeries.j0] at H
        by_cases c17 : x67_6 = true
        · subst c17
          have H1 : (some false) = some r := by rw [if_pos rfl] at H; exact H
          clear H
          have H := H1
          clear H1
          obtain rfl := Option.some.inj H
          go_wp2
          go_ret
          exact ⟨mE, mB⟩
        · replace c17 := Bool.eq_false_iff.mpr c17
          subst c17
          have H1 : ((spec_DrawShiftSeries.f kj6 l0).bind fun bt409 => ((impl_ShiftSeries.f kj6 bt409.1 bt409.2).bind fun bt413 => ((spec_ShiftSeries.f kj6 bt409.1 bt409.2).bind fun bt417 => (if bt413.2 = bt417.2 then ((laws_likeInts.f kj6 bt413.1 bt417.1).bind fun t421 => (laws_FnSeries.j1 kj6 l0 t394 t395 t400 t401 bt409.1 bt409.2 bt413.1 bt413.2 (!t421))) else (laws_FnSeries.j1 kj6 l0 t394 t395 t400 t401 bt409.1 bt409.2 bt413.1 bt413.2 true))))) = some r := by rw [if_neg (show ¬ (false = true) by decide)] at H; exact H
          clear H
          have H := H1
          clear H1
          replace H := Option.bind_eq_some_iff.mp H
          obtain ⟨⟨t409, t410⟩, A180, H⟩ := H
          replace H : ((impl_ShiftSeries.f kj6 t409 t410).bind fun bt413 => ((spec_ShiftSeries.f kj6 t409 t410).bind fun bt417 => (if bt413.2 = bt417.2 then ((laws_likeInts.f kj6 bt413.1 bt417.1).bind fun t421 => (laws_FnSeries.j1 kj6 l0 t394 t395 t400 t401 t409 t410 bt413.1 bt413.2 (!t421))) else (laws_FnSeries.j1 kj6 l0 t394 t395 t400 t401 t409 t410 bt413.1 bt413.2 true)))) = some r := H
          have A18 := Aside0.mk A180
          clear A180
          replace H := Option.bind_eq_some_iff.mp H
          obtain ⟨⟨t413, t414⟩, A190, H⟩ := H
          replace H : ((spec_ShiftSeries.f kj6 t409 t410).bind fun bt417 => (if t414 = bt417.2 then ((laws_likeInts.f kj6 t413 bt417.1).bind fun t421 => (laws_FnSeries.j1 kj6 l0 t394 t395 t400 t401 t409 t410 t413 t414 (!t421))) else (laws_FnSeries.j1 kj6 l0 t394 t395 t400 t401 t409 t410 t413 t414 true))) = some r := H
          have A19 := Aside0.mk A190
          clear A190
          replace H := Option.bind_eq_some_iff.mp H
          obtain ⟨⟨t417, t418⟩, A200, H⟩ := H
          replace H : (if t414 = t418 then ((laws_likeInts.f kj6 t413 t417).bind fun t421 => (laws_FnSeries.j1 kj6 l0 t394 t395 t400 t401 t409 t410 t413 t414 (!t421))) else (laws_FnSeries.j1 kj6 l0 t394 t395 t400 t401 t409 t410 t413 t414 true)) = some r := H
          have A20 := Aside0.mk A200
          clear A200
          have HC21 := Aside0.mk H
          clear H
          go_upto_region 11 with (first | ((with_reducible refine gate_callee (f := 35) rfl ?_); refine goL (some 70) Try.func35 #[.slice A0 l0.length c0] (h := ?_); (with_reducible refine (spec_DrawShiftSeries.calls kj6 _ _ l0 t409 t410 _ ?side1 ?side2 A18.out).mono ?_); (case side1 => repeat (first | exact (Kd.C_below HR0.out HB.out) | (with_reducible refine Kd.C_alloc ?_ _) | (with_reducible refine Kd.C_drewN ?_ _) | (with_reducible refine Kd.C_drew ?_))); (case side2 => exact HC0.out); rintro e w22 ⟨v411, rfl, ho0, hb⟩; refine ⟨_, rfl, ?_⟩; have n0_ := Aside0.mk (Kd.R_elder' (mR HO_3.out) (Kd.R_base ho0) hb); have n1_ := Aside0.mk (Kd.R_elder' (mR HO_4.out) (Kd.R_base ho0) hb); have n2_ := Aside0.mk (Kd.R_elder' (mR HO_5.out) (Kd.R_base ho0) hb); have n3_ := Aside0.mk (Kd.R_lower (Kd.R_new' (Kd.R_new' (Kd.R_new' ho0 (Kd.R_lt (mR HO_3.out))) (Kd.R_lt (mR HO_4.out))) (Kd.R_lt (mR HO_5.out))) (below_size mB)); have n4_ := Aside0.mk (below_step mB hb); clear HO_3; clear HO_4; clear HO_5; clear HB; have HO_3 := n0_; have HO_4 := n1_; have HO_5 := n2_; have HO412 := n3_; have HB := n4_; clear n0_ n1_ n2_ n3_ n4_; (try clear hb); (try clear hb2); (try clear hk); (try clear hi); (try clear ho0); obtain ⟨Ao23, co23, eo23⟩ := Kd.R_slice HO412.out; subst eo23) | ((with_reducible refine gate_callee (f := 36) rfl ?_); refine goL (some 76) Try.func36 #[.slice Ao23 t409.length co23, .int .i64 t410] (h := ?_); (with_reducible refine (impl_ShiftSeries.calls kj6 _ _ t409 t410 t413 t414 _ ?side1 ?side2 A19.out).mono ?_); (case side1 => repeat (first | exact (Kd.R_reads' HO412.out).2.2 | (with_reducible refine Kd.C_alloc ?_ _) | (with_reducible refine Kd.C_drewN ?_ _) | (with_reducible refine Kd.C_drew ?_))); (case side2 => exact (Kd.R_reads' HO412.out).2.1); rintro e w24 ⟨v415, rfl, ho0, hb⟩; refine ⟨_, rfl, ?_⟩; have n0_ := Aside0.mk (Kd.R_elder' (mR HO_3.out) (Kd.R_base ho0) hb); have n1_ := Aside0.mk (Kd.R_elder' (mR HO_4.out) (Kd.R_base ho0) hb); have n2_ := Aside0.mk (Kd.R_elder' (mR HO_5.out) (Kd.R_base ho0) hb); have n3_ := Aside0.mk (Kd.R_elder' (mR HO412.out) (Kd.R_base ho0) hb); have n4_ := Aside0.mk (Kd.R_lower (Kd.R_new' (Kd.R_new' (Kd.R_new' (Kd.R_new' ho0 (Kd.R_lt (mR HO_3.out))) (Kd.R_lt (mR HO_4.out))) (Kd.R_lt (mR HO_5.out))) (Kd.R_lt (mR HO412.out))) (below_size mB)); have n5_ := Aside0.mk (below_step mB hb); clear HO_3; clear HO_4; clear HO_5; clear HO412; clear HB; have HO_3 := n0_; have HO_4 := n1_; have HO_5 := n2_; have HO412 := n3_; have HO416 := n4_; have HB := n5_; clear n0_ n1_ n2_ n3_ n4_ n5_; (try clear hb); (try clear hb2); (try clear hk); (try clear hi); (try clear ho0)) | ((with_reducible refine gate_callee (f := 37) rfl ?_); refine goL (some 82) Try.func37 #[.slice Ao23 t409.length co23, .int .i64 t410] (h := ?_); (with_reducible refine (spec_ShiftSeries.calls kj6 _ _ t409 t410 t417 t418 _ ?side1 ?side2 A20.out).mono ?_); (case side1 => repeat (first | exact (Kd.R_reads' HO412.out).2.2 | (with_reducible refine Kd.C_alloc ?_ _) | (with_reducible refine Kd.C_drewN ?_ _) | (with_reducible refine Kd.C_drew ?_))); (case side2 => exact (Kd.R_reads' HO412.out).2.1); rintro e w25 ⟨v419, rfl, ho0, hb⟩; refine ⟨_, rfl, ?_⟩; have n0_ := Aside0.mk (Kd.R_elder' (mR HO_3.out) (Kd.R_base ho0) hb); have n1_ := Aside0.mk (Kd.R_elder' (mR HO_4.out) (Kd.R_base ho0) hb); have n2_ := Aside0.mk (Kd.R_elder' (mR HO_5.out) (Kd.R_base ho0) hb); have n3_ := Aside0.mk (Kd.R_elder' (mR HO412.out) (Kd.R_base ho0) hb); have n4_ := Aside0.mk (Kd.R_elder' (mR HO416.out) (Kd.R_base ho0) hb); have n5_ := Aside0.mk (Kd.R_lower (Kd.R_new' (Kd.R_new' (Kd.R_new' (Kd.R_new' (Kd.R_new' ho0 (Kd.R_lt (mR HO_3.out))) (Kd.R_lt (mR HO_4.out))) (Kd.R_lt (mR HO_5.out))) (Kd.R_lt (mR HO412.out))) (Kd.R_lt (mR HO416.out))) (below_size mB)); have n6_ := Aside0.mk (below_step mB hb); clear HO_3; clear HO_4; clear HO_5; clear HO412; clear HO416; clear HB; have HO_3 := n0_; have HO_4 := n1_; have HO_5 := n2_; have HO412 := n3_; have HO416 := n4_; have HO420 := n5_; have HB := n6_; clear n0_ n1_ n2_ n3_ n4_ n5_ n6_; (try clear hb); (try clear hb2); (try clear hk); (try clear hi); (try clear ho0)))
          (try simp only [Act.put, List.setIfInBounds_toArray, List.set_cons_zero, List.set_cons_succ])
          go_cut [93] (fun v93 wc => ∃ (kq : Nat) (x93_20 : Bool), v93 = .bool x93_20 ∧ Aside0 (laws_FnSeries.j1 kq l0 t394 t395 t400 t401 t409 t410 t413 t414 x93_20 = some r) ∧ Aside0 (kq ≤ kj6) ∧ Aside0 (Kd.R (Kd.int .i64) 2 wc w.heap.size (fun k_ => some k_ ≠ ((.slice Ao10 t395.length co10) : Value).ownBlock ∧ some k_ ≠ (v402 : Value).ownBlock ∧ some k_ ≠ ((.slice Ao23 t409.length co23) : Value).ownBlock ∧ some k_ ≠ (v415 : Value).ownBlock) (.slice Ao9 t394.length co9) t394) ∧ Aside0 (Kd.R (Kd.int .i64) 2 wc w.heap.size (fun k_ => some k_ ≠ ((.slice Ao9 t394.length co9) : Value).ownBlock ∧ some k_ ≠ (v402 : Value).ownBlock ∧ some k_ ≠ ((.slice Ao23 t409.length co23) : Value).ownBlock ∧ some k_ ≠ (v415 : Value).ownBlock) (.slice Ao10 t395.length co10) t395) ∧ Aside0 (Kd.R (Kd.int .i64) 2 wc w.heap.size (fun k_ => some k_ ≠ ((.slice Ao9 t394.length co9) : Value).ownBlock ∧ some k_ ≠ ((.slice Ao10 t395.length co10) : Value).ownBlock ∧ some k_ ≠ ((.slice Ao23 t409.length co23) : Value).ownBlock ∧ some k_ ≠ (v415 : Value).ownBlock) v402 t400) ∧ Aside0 (Kd.R (Kd.int .i64) 2 wc w.heap.size (fun k_ => some k_ ≠ ((.slice Ao9 t394.length co9) : Value).ownBlock ∧ some k_ ≠ ((.slice Ao10 t395.length co10) : Value).ownBlock ∧ some k_ ≠ (v402 : Value).ownBlock ∧ some k_ ≠ (v415 : Value).ownBlock) (.slice Ao23 t409.length co23) t409) ∧ Aside0 (Kd.R (Kd.int .i64) 2 wc w.heap.size (fun k_ => some k_ ≠ ((.slice Ao9 t394.length co9) : Value).ownBlock ∧ some k_ ≠ ((.slice Ao10 t395.length co10) : Value).ownBlock ∧ some k_ ≠ (v402 : Value).ownBlock ∧ some k_ ≠ ((.slice Ao23 t409.length co23) : Value).ownBlock) v415 t413) ∧ Aside0 (Below w.heap.size w wc))
          case first =>
            have H := HC21.out
            clear HC21
            by_cases c26 : t414 = t418
            · rw [if_pos c26] at H
              have c26b0 : (t414 == t418) = true := beq_iff_eq.mpr c26
              have c26b1 : (t414 != t418) = false := bne_eq_false_iff_eq.mpr c26
              clear c26
              (first | rw [c26b0] | (simp only [i64_w, i32_w]; rw [c26b0]) | skip)
              replace H := Option.bind_eq_some_iff.mp H
              obtain ⟨t421, A270, H⟩ := H
              replace H : (laws_FnSeries.j1 kj6 l0 t394 t395 t400 t401 t409 t410 t413 t414 (!t421)) = some r := H
              have A27 := Aside0.mk A270
              clear A270
              have H' := Aside0.mk H
              clear H
              obtain ⟨Ao28, co28, eo28⟩ := Kd.R_slice HO416.out
              subst eo28
              obtain ⟨Ao29, co29, eo29⟩ := Kd.R_slice HO420.out
              subst eo29
              go_wp2_with (first | (go_at_call 34; (with_reducible refine (laws_likeInts.calls kj6 _ _ t413 _ _ t417 t421 _ ?side1 ?side2 ?side3 ?side4 A27.out).mono ?_); (case side1 => repeat (first | exact (Kd.R_reads' HO416.out).2.2 | (with_reducible refine Kd.C_alloc ?_ _) | (with_reducible refine Kd.C_drewN ?_ _) | (with_reducible refine Kd.C_drew ?_))); (case side2 => exact (Kd.R_reads' HO416.out).2.1); (case side3 => repeat (first | exact (Kd.R_reads' HO420.out).2.2 | (with_reducible refine Kd.C_alloc ?_ _) | (with_reducible refine Kd.C_drewN ?_ _) | (with_reducible refine Kd.C_drew ?_))); (case side4 => exact (Kd.R_reads' HO420.out).2.1); rintro e w' ⟨rfl, ⟨nd, rfl⟩⟩))
              go_meet
              case rel => exact ⟨_, (!t421), mF, H', ⟨by have := HJ6.out; first | omega | exact Nat.le_refl _⟩, ⟨by (with_reducible repeat (first | apply Kd.R_alloc | apply Kd.R_drewN | apply Kd.R_drew)); exact Kd.R_mono HO_3.out (fun _ hk => ⟨hk.1.1.1.1, ⟨hk.1.1.1.2, ⟨hk.1.1.2, hk.1.2⟩⟩⟩)⟩, ⟨by (with_reducible repeat (first | apply Kd.R_alloc | apply Kd.R_drewN | apply Kd.R_drew)); exact Kd.R_mono HO_4.out (fun _ hk => ⟨hk.1.1.1.1, ⟨hk.1.1.1.2, ⟨hk.1.1.2, hk.1.2⟩⟩⟩)⟩, ⟨by (with_reducible repeat (first | apply Kd.R_alloc | apply Kd.R_drewN | apply Kd.R_drew)); exact Kd.R_mono HO_5.out (fun _ hk => ⟨hk.1.1.1.1, ⟨hk.1.1.1.2, ⟨hk.1.1.2, hk.1.2⟩⟩⟩)⟩, ⟨by (with_reducible repeat (first | apply Kd.R_alloc | apply Kd.R_drewN | apply Kd.R_drew)); exact Kd.R_mono HO412.out (fun _ hk => ⟨hk.1.1.1.1.2, ⟨hk.1.1.1.2, ⟨hk.1.1.2, hk.1.2⟩⟩⟩)⟩, ⟨by (with_reducible repeat (first | apply Kd.R_alloc | apply Kd.R_drewN | apply Kd.R_drew)); exact Kd.R_mono HO416.out (fun _ hk => ⟨hk.1.1.1.1.2, ⟨hk.1.1.1.2, ⟨hk.1.1.2, hk.1.2⟩⟩⟩)⟩, ⟨mB⟩⟩
            · rw [if_neg c26] at H
              have c26b0 : (t414 == t418) = false := beq_eq_false_iff_ne.mpr c26
              have c26b1 : (t414 != t418) = true := bne_iff_ne.mpr c26
              (first | rw [c26b0] | (simp only [i64_w, i32_w]; rw [c26b0]) | skip)
              have H' := Aside0.mk H
              clear H
              go_wp2
              go_meet
              case rel => exact ⟨_, (true), mF, H', ⟨by have := HJ6.out; first | omega | exact Nat.le_refl _⟩, ⟨by (with_reducible repeat (first | apply Kd.R_alloc | apply Kd.R_drewN | apply Kd.R_drew)); exact Kd.R_mono HO_3.out (fun _ hk => ⟨hk.1.1.1.1, ⟨hk.1.1.1.2, ⟨hk.1.1.2, hk.1.2⟩⟩⟩)⟩, ⟨by (with_reducible repeat (first | apply Kd.R_alloc | apply Kd.R_drewN | apply Kd.R_drew)); exact Kd.R_mono HO_4.out (fun _ hk => ⟨hk.1.1.1.1, ⟨hk.1.1.1.2, ⟨hk.1.1.2, hk.1.2⟩⟩⟩)⟩, ⟨by (with_reducible repeat (first | apply Kd.R_alloc | apply Kd.R_drewN | apply Kd.R_drew)); exact Kd.R_mono HO_5.out (fun _ hk => ⟨hk.1.1.1.1, ⟨hk.1.1.1.2, ⟨hk.1.1.2, hk.1.2⟩⟩⟩)⟩, ⟨by (with_reducible repeat (first | apply Kd.R_alloc | apply Kd.R_drewN | apply Kd.R_drew)); exact Kd.R_mono HO412.out (fun _ hk => ⟨hk.1.1.1.1.2, ⟨hk.1.1.1.2, ⟨hk.1.1.2, hk.1.2⟩⟩⟩)⟩, ⟨by (with_reducible repeat (first | apply Kd.R_alloc | apply Kd.R_drewN | apply Kd.R_drew)); exact Kd.R_mono HO416.out (fun _ hk => ⟨hk.1.1.1.1.2, ⟨hk.1.1.1.2, ⟨hk.1.1.2, hk.1.2⟩⟩⟩)⟩, ⟨mB⟩⟩
          case rest =>
            as_aux_lemma =>
            clear HC21
            try clear c1
            try clear c2
            try clear p2
            try clear c3
            try clear c6
            try clear c13
            try clear c13b0
            try clear c13b1
            try clear c17
            try clear c26
            try clear c26b0
            try clear c26b1
            try clear p2
            obtain ⟨kq, x93_20, rfl, HA, HJ20, HO_3, HO_4, HO_5, HO_9, HO_11, HB⟩ := hcut
            cases kq with
            | zero => exact absurd HA.out (by simp [laws_FnSeries.j1])
            | succ kj20 =>
              have H := HA.out
              clear HA
              simp only [laws_FnSeries.j1] at H
              by_cases c30 : x93_20 = true
              · subst c30
                have H1 : (some false) = some r := by rw [if_pos rfl] at H; exact H
                clear H
                have H := H1
                clear H1
                obtain rfl := Option.some.inj H
                go_wp2
                go_ret
                exact ⟨mE, mB⟩
              · replace c30 := Bool.eq_false_iff.mpr c30
                subst c30
                have H1 : ((spec_DrawSeriesOfDegrees.f kj20 l0).bind fun bt422 => ((impl_SeriesOfDegrees.f kj20 bt422.1 bt422.2).bind fun bt426 => ((spec_SeriesOfDegrees.f kj20 bt422.1 bt422.2).bind fun bt430 => (if bt426.2 = bt430.2 then ((laws_likeInts.f kj20 bt426.1 bt430.1).bind fun t434 => (laws_FnSeries.j2 kj20 l0 t394 t395 t400 t401 t409 t410 t413 t414 bt422.1 bt426.1 bt426.2 (!t434))) else (laws_FnSeries.j2 kj20 l0 t394 t395 t400 t401 t409 t410 t413 t414 bt422.1 bt426.1 bt426.2 true))))) = some r := by rw [if_neg (show ¬ (false = true) by decide)] at H; exact H
                clear H
                have H := H1
                clear H1
                replace H := Option.bind_eq_some_iff.mp H
                obtain ⟨⟨t422, t423⟩, A310, H⟩ := H
                replace H : ((impl_SeriesOfDegrees.f kj20 t422 t423).bind fun bt426 => ((spec_SeriesOfDegrees.f kj20 t422 t423).bind fun bt430 => (if bt426.2 = bt430.2 then ((laws_likeInts.f kj20 bt426.1 bt430.1).bind fun t434 => (laws_FnSeries.j2 kj20 l0 t394 t395 t400 t401 t409 t410 t413 t414 t422 bt426.1 bt426.2 (!t434))) else (laws_FnSeries.j2 kj20 l0 t394 t395 t400 t401 t409 t410 t413 t414 t422 bt426.1 bt426.2 true)))) = some r := H
                have A31 := Aside0.mk A310
                clear A310
                replace H := Option.bind_eq_some_iff.mp H
                obtain ⟨⟨t426, t427⟩, A320, H⟩ := H
                replace H : ((spec_SeriesOfDegrees.f kj20 t422 t423).bind fun bt430 => (if t427 = bt430.2 then ((laws_likeInts.f kj20 t426 bt430.1).bind fun t434 => (laws_FnSeries.j2 kj20 l0 t394 t395 t400 t401 t409 t410 t413 t414 t422 t426 t427 (!t434))) else (laws_FnSeries.j2 kj20 l0 t394 t395 t400 t401 t409 t410 t413 t414 t422 t426 t427 true))) = some r := H
                have A32 := Aside0.mk A320
                clear A320
                replace H := Option.bind_eq_some_iff.mp H
                obtain ⟨⟨t430, t431⟩, A330, H⟩ := H
                replace H : (if t427 = t431 then ((laws_likeInts.f kj20 t426 t430).bind fun t434 => (laws_FnSeries.j2 kj20 l0 t394 t395 t400 t401 t409 t410 t413 t414 t422 t426 t427 (!t434))) else (laws_FnSeries.j2 kj20 l0 t394 t395 t400 t401 t409 t410 t413 t414 t422 t426 t427 true)) = some r := H
                have A33 := Aside0.mk A330
                clear A330
                have HC34 := Aside0.mk H
                clear H
                go_upto_region 16 with (first | ((with_reducible refine gate_callee (f := 38) rfl ?_); refine goL (some 96) Try.func38 #[.slice A0 l0.length c0] (h := ?_); (with_reducible refine (spec_DrawSeriesOfDegrees.calls kj20 _ _ l0 t422 t423 _ ?side1 ?side2 A31.out).mono ?_); (case side1 => repeat (first | exact (Kd.C_below HR0.out HB.out) | (with_reducible refine Kd.C_alloc ?_ _) | (with_reducible refine Kd.C_drewN ?_ _) | (with_reducible refine Kd.C_drew ?_))); (case side2 => exact HC0.out); rintro e w35 ⟨v424, rfl, ho0, hb⟩; refine ⟨_, rfl, ?_⟩; have n0_ := Aside0.mk (Kd.R_elder' (mR HO_3.out) (Kd.R_base ho0) hb); have n1_ := Aside0.mk (Kd.R_elder' (mR HO_4.out) (Kd.R_base ho0) hb); have n2_ := Aside0.mk (Kd.R_elder' (mR HO_5.out) (Kd.R_base ho0) hb); have n3_ := Aside0.mk (Kd.R_elder' (mR HO_9.out) (Kd.R_base ho0) hb); have n4_ := Aside0.mk (Kd.R_elder' (mR HO_11.out) (Kd.R_base ho0) hb); have n5_ := Aside0.mk (Kd.R_lower (Kd.R_new' (Kd.R_new' (Kd.R_new' (Kd.R_new' (Kd.R_new' ho0 (Kd.R_lt (mR HO_3.out))) (Kd.R_lt (mR HO_4.out))) (Kd.R_lt (mR HO_5.out))) (Kd.R_lt (mR HO_9.out))) (Kd.R_lt (mR HO_11.out))) (below_size mB)); have n6_ := Aside0.mk (below_step mB hb); clear HO_3; clear HO_4; clear HO_5; clear HO_9; clear HO_11; clear HB; have HO_3 := n0_; have HO_4 := n1_; have HO_5 := n2_; have HO_9 := n3_; have HO_11 := n4_; have HO425 := n5_; have HB := n6_; clear n0_ n1_ n2_ n3_ n4_ n5_ n6_; (try clear hb); (try clear hb2); (try clear hk); (try clear hi); (try clear ho0); obtain ⟨Ao36, co36, eo36⟩ := Kd.R_slice HO425.out; subst eo36) | ((with_reducible refine gate_callee (f := 39) rfl ?_); refine goL (some 102) Try.func39 #[.slice Ao36 t422.length co36, .int .i64 t423] (h := ?_); (with_reducible refine (impl_SeriesOfDegrees.calls kj20 _ _ t422 t423 t426 t427 _ ?side1 ?side2 A32.out).mono ?_); (case side1 => repeat (first | exact (Kd.R_reads' HO425.out).2.2 | (with_reducible refine Kd.C_alloc ?_ _) | (with_reducible refine Kd.C_drewN ?_ _) | (with_reducible refine Kd.C_drew ?_))); (case side2 => exact (Kd.R_reads' HO425.out).2.1); rintro e w37 ⟨v428, rfl, ho0, hb⟩; refine ⟨_, rfl, ?_⟩; have n0_ := Aside0.mk (Kd.R_elder' (mR HO_3.out) (Kd.R_base ho0) hb); have n1_ := Aside0.mk (Kd.R_elder' (mR HO_4.out) (Kd.R_base ho0) hb); have n2_ := Aside0.mk (Kd.R_elder' (mR HO_5.out) (Kd.R_base ho0) hb); have n3_ := Aside0.mk (Kd.R_elder' (mR HO_9.out) (Kd.R_base ho0) hb); have n4_ := Aside0.mk (Kd.R_elder' (mR HO_11.out) (Kd.R_base ho0) hb); have n5_ := Aside0.mk (Kd.R_elder' (mR HO425.out) (Kd.R_base ho0) hb); have n6_ := Aside0.mk (Kd.R_lower (Kd.R_new' (Kd.R_new' (Kd.R_new' (Kd.R_new' (Kd.R_new' (Kd.R_new' ho0 (Kd.R_lt (mR HO_3.out))) (Kd.R_lt (mR HO_4.out))) (Kd.R_lt (mR HO_5.out))) (Kd.R_lt (mR HO_9.out))) (Kd.R_lt (mR HO_11.out))) (Kd.R_lt (mR HO425.out))) (below_size mB)); have n7_ := Aside0.mk (below_step mB hb); clear HO_3; clear HO_4; clear HO_5; clear HO_9; clear HO_11; clear HO425; clear HB; have HO_3 := n0_; have HO_4 := n1_; have HO_5 := n2_; have HO_9 := n3_; have HO_11 := n4_; have HO425 := n5_; have HO429 := n6_; have HB := n7_; clear n0_ n1_ n2_ n3_ n4_ n5_ n6_ n7_; (try clear hb); (try clear hb2); (try clear hk); (try clear hi); (try clear ho0)) | ((with_reducible refine gate_callee (f := 40) rfl ?_); refine goL (some 108) Try.func40 #[.slice Ao36 t422.length co36, .int .i64 t423] (h := ?_); (with_reducible refine (spec_SeriesOfDegrees.calls kj20 _ _ t422 t423 t430 t431 _ ?side1 ?side2 A33.out).mono ?_); (case side1 => repeat (first | exact (Kd.R_reads' HO425.out).2.2 | (with_reducible refine Kd.C_alloc ?_ _) | (with_reducible refine Kd.C_drewN ?_ _) | (with_reducible refine Kd.C_drew ?_))); (case side2 => exact (Kd.R_reads' HO425.out).2.1); rintro e w38 ⟨v432, rfl, ho0, hb⟩; refine ⟨_, rfl, ?_⟩; have n0_ := Aside0.mk (Kd.R_elder' (mR HO_3.out) (Kd.R_base ho0) hb); have n1_ := Aside0.mk (Kd.R_elder' (mR HO_4.out) (Kd.R_base ho0) hb); have n2_ := Aside0.mk (Kd.R_elder' (mR HO_5.out) (Kd.R_base ho0) hb); have n3_ := Aside0.mk (Kd.R_elder' (mR HO_9.out) (Kd.R_base ho0) hb); have n4_ := Aside0.mk (Kd.R_elder' (mR HO_11.out) (Kd.R_base ho0) hb); have n5_ := Aside0.mk (Kd.R_elder' (mR HO425.out) (Kd.R_base ho0) hb); have n6_ := Aside0.mk (Kd.R_elder' (mR HO429.out) (Kd.R_base ho0) hb); have n7_ := Aside0.mk (Kd.R_lower (Kd.R_new' (Kd.R_new' (Kd.R_new' (Kd.R_new' (Kd.R_new' (Kd.R_new' (Kd.R_new' ho0 (Kd.R_lt (mR HO_3.out))) (Kd.R_lt (mR HO_4.out))) (Kd.R_lt (mR HO_5.out))) (Kd.R_lt (mR HO_9.out))) (Kd.R_lt (mR HO_11.out))) (Kd.R_lt (mR HO425.out))) (Kd.R_lt (mR HO429.out))) (below_size mB)); have n8_ := Aside0.mk (below_step mB hb); clear HO_3; clear HO_4; clear HO_5; clear HO_9; clear HO_11; clear HO425; clear HO429; clear HB; have HO_3 := n0_; have HO_4 := n1_; have HO_5 := n2_; have HO_9 := n3_; have HO_11 := n4_; have HO425 := n5_; have HO429 := n6_; have HO433 := n7_; have HB := n8_; clear n0_ n1_ n2_ n3_ n4_ n5_ n6_ n7_ n8_; (try clear hb); (try clear hb2); (try clear hk); (try clear hi); (try clear ho0)))
                (try simp only [Act.put, List.setIfInBounds_toArray, List.set_cons_zero, List.set_cons_succ])
                go_cut [119] (fun v119 wc => ∃ (kq : Nat) (x119_33 : Bool), v119 = .bool x119_33 ∧ Aside0 (laws_FnSeries.j2 kq l0 t394 t395 t400 t401 t409 t410 t413 t414 t422 t426 t427 x119_33 = some r) ∧ Aside0 (kq ≤ kj20) ∧ Aside0 (Kd.R (Kd.int .i64) 2 wc w.heap.size (fun k_ => some k_ ≠ ((.slice Ao10 t395.length co10) : Value).ownBlock ∧ some k_ ≠ (v402 : Value).ownBlock ∧ some k_ ≠ ((.slice Ao23 t409.length co23) : Value).ownBlock ∧ some k_ ≠ (v415 : Value).ownBlock ∧ some k_ ≠ ((.slice Ao36 t422.length co36) : Value).ownBlock ∧ some k_ ≠ (v428 : Value).ownBlock) (.slice Ao9 t394.length co9) t394) ∧ Aside0 (Kd.R (Kd.int .i64) 2 wc w.heap.size (fun k_ => some k_ ≠ ((.slice Ao9 t394.length co9) : Value).ownBlock ∧ some k_ ≠ (v402 : Value).ownBlock ∧ some k_ ≠ ((.slice Ao23 t409.length co23) : Value).ownBlock ∧ some k_ ≠ (v415 : Value).ownBlock ∧ some k_ ≠ ((.slice Ao36 t422.length co36) : Value).ownBlock ∧ some k_ ≠ (v428 : Value).ownBlock) (.slice Ao10 t395.length co10) t395) ∧ Aside0 (Kd.R (Kd.int .i64) 2 wc w.heap.size (fun k_ => some k_ ≠ ((.slice Ao9 t394.length co9) : Value).ownBlock ∧ some k_ ≠ ((.slice Ao10 t395.length co10) : Value).ownBlock ∧ some k_ ≠ ((.slice Ao23 t409.length co23) : Value).ownBlock ∧ some k_ ≠ (v415 : Value).ownBlock ∧ some k_ ≠ ((.slice Ao36 t422.length co36) : Value).ownBlock ∧ some k_ ≠ (v428 : Value).ownBlock) v402 t400) ∧ Aside0 (Kd.R (Kd.int .i64) 2 wc w.heap.size (fun k_ => some k_ ≠ ((.slice Ao9 t394.length co9) : Value).ownBlock ∧ some k_ ≠ ((.slice Ao10 t395.length co10) : Value).ownBlock ∧ some k_ ≠ (v402 : Value).ownBlock ∧ some k_ ≠ (v415 : Value).ownBlock ∧ some k_ ≠ ((.slice Ao36 t422.length co36) : Value).ownBlock ∧ some k_ ≠ (v428 : Value).ownBlock) (.slice Ao23 t409.length co23) t409) ∧ Aside0 (Kd.R (Kd.int .i64) 2 wc w.heap.size (fun k_ => some k_ ≠ ((.slice Ao9 t394.length co9) : Value).ownBlock ∧ some k_ ≠ ((.slice Ao10 t395.length co10) : Value).ownBlock ∧ some k_ ≠ (v402 : Value).ownBlock ∧ some k_ ≠ ((.slice Ao23 t409.length co23) : Value).ownBlock ∧ some k_ ≠ ((.slice Ao36 t422.length co36) : Value).ownBlock ∧ some k_ ≠ (v428 : Value).ownBlock) v415 t413) ∧ Aside0 (Kd.R (Kd.int .i64) 2 wc w.heap.size (fun k_ => some k_ ≠ ((.slice Ao9 t394.length co9) : Value).ownBlock ∧ some k_ ≠ ((.slice Ao10 t395.length co10) : Value).ownBlock ∧ some k_ ≠ (v402 : Value).ownBlock ∧ some k_ ≠ ((.slice Ao23 t409.length co23) : Value).ownBlock ∧ some k_ ≠ (v415 : Value).ownBlock ∧ some k_ ≠ (v428 : Value).ownBlock) (.slice Ao36 t422.length co36) t422) ∧ Aside0 (Kd.R (Kd.int .i64) 2 wc w.heap.size (fun k_ => some k_ ≠ ((.slice Ao9 t394.length co9) : Value).ownBlock ∧ some k_ ≠ ((.slice Ao10 t395.length co10) : Value).ownBlock ∧ some k_ ≠ (v402 : Value).ownBlock ∧ some k_ ≠ ((.slice Ao23 t409.length co23) : Value).ownBlock ∧ some k_ ≠ (v415 : Value).ownBlock ∧ some k_ ≠ ((.slice Ao36 t422.length co36) : Value).ownBlock) v428 t426) ∧ Aside0 (Below w.heap.size w wc))
                case first =>
                  have H := HC34.out
                  clear HC34
                  by_cases c39 : t427 = t431
                  · rw [if_pos c39] at H
                    have c39b0 : (t427 == t431) = true := beq_iff_eq.mpr c39
                    have c39b1 : (t427 != t431) = false := bne_eq_false_iff_eq.mpr c39
                    clear c39
                    (first | rw [c39b0] | (simp only [i64_w, i32_w]; rw [c39b0]) | skip)
                    replace H := Option.bind_eq_some_iff.mp H
                    obtain ⟨t434, A400, H⟩ := H
                    replace H : (laws_FnSeries.j2 kj20 l0 t394 t395 t400 t401 t409 t410 t413 t414 t422 t426 t427 (!t434)) = some r := H
                    have A40 := Aside0.mk A400
                    clear A400
                    have H' := Aside0.mk H
                    clear H
                    obtain ⟨Ao41, co41, eo41⟩ := Kd.R_slice HO429.out
                    subst eo41
                    obtain ⟨Ao42, co42, eo42⟩ := Kd.R_slice HO433.out
                    subst eo42
                    go_wp2_with (first | (go_at_call 34; (with_reducible refine (laws_likeInts.calls kj20 _ _ t426 _ _ t430 t434 _ ?side1 ?side2 ?side3 ?side4 A40.out).mono ?_); (case side1 => repeat (first | exact (Kd.R_reads' HO429.out).2.2 | (with_reducible refine Kd.C_alloc ?_ _) | (with_reducible refine Kd.C_drewN ?_ _) | (with_reducible refine Kd.C_drew ?_))); (case side2 => exact (Kd.R_reads' HO429.out).2.1); (case side3 => repeat (first | exact (Kd.R_reads' HO433.out).2.2 | (with_reducible refine Kd.C_alloc ?_ _) | (with_reducible refine Kd.C_drewN ?_ _) | (with_reducible refine Kd.C_drew ?_))); (case side4 => exact (Kd.R_reads' HO433.out).2.1); rintro e w' ⟨rfl, ⟨nd, rfl⟩⟩))
                    go_meet
                    case rel => exact ⟨_, (!t434), mF, H', ⟨by have := HJ6.out; have := HJ20.out; first | omega | exact Nat.le_refl _⟩, ⟨by (with_reducible repeat (first | apply Kd.R_alloc | apply Kd.R_drewN | apply Kd.R_drew)); exact Kd.R_mono HO_3.out (fun _ hk => ⟨hk.1.1.1.1, ⟨hk.1.1.1.2.1, ⟨hk.1.1.1.2.2.1, ⟨hk.1.1.1.2.2.2, ⟨hk.1.1.2, hk.1.2⟩⟩⟩⟩⟩)⟩, ⟨by (with_reducible repeat (first | apply Kd.R_alloc | apply Kd.R_drewN | apply Kd.R_drew)); exact Kd.R_mono HO_4.out (fun _ hk => ⟨hk.1.1.1.1, ⟨hk.1.1.1.2.1, ⟨hk.1.1.1.2.2.1, ⟨hk.1.1.1.2.2.2, ⟨hk.1.1.2, hk.1.2⟩⟩⟩⟩⟩)⟩, ⟨by (with_reducible repeat (first | apply Kd.R_alloc | apply Kd.R_drewN | apply Kd.R_drew)); exact Kd.R_mono HO_5.out (fun _ hk => ⟨hk.1.1.1.1, ⟨hk.1.1.1.2.1, ⟨hk.1.1.1.2.2.1, ⟨hk.1.1.1.2.2.2, ⟨hk.1.1.2, hk.1.2⟩⟩⟩⟩⟩)⟩, ⟨by (with_reducible repeat (first | apply Kd.R_alloc | apply Kd.R_drewN | apply Kd.R_drew)); exact Kd.R_mono HO_9.out (fun _ hk => ⟨hk.1.1.1.1, ⟨hk.1.1.1.2.1, ⟨hk.1.1.1.2.2.1, ⟨hk.1.1.1.2.2.2, ⟨hk.1.1.2, hk.1.2⟩⟩⟩⟩⟩)⟩, ⟨by (with_reducible repeat (first | apply Kd.R_alloc | apply Kd.R_drewN | apply Kd.R_drew)); exact Kd.R_mono HO_11.out (fun _ hk => ⟨hk.1.1.1.1, ⟨hk.1.1.1.2.1, ⟨hk.1.1.1.2.2.1, ⟨hk.1.1.1.2.2.2, ⟨hk.1.1.2, hk.1.2⟩⟩⟩⟩⟩)⟩, ⟨by (with_reducible repeat (first | apply Kd.R_alloc | apply Kd.R_drewN | apply Kd.R_drew)); exact Kd.R_mono HO425.out (fun _ hk => ⟨hk.1.1.1.1.1.1.2, ⟨hk.1.1.1.1.1.2, ⟨hk.1.1.1.1.2, ⟨hk.1.1.1.2, ⟨hk.1.1.2, hk.1.2⟩⟩⟩⟩⟩)⟩, ⟨by (with_reducible repeat (first | apply Kd.R_alloc | apply Kd.R_drewN | apply Kd.R_drew)); exact Kd.R_mono HO429.out (fun _ hk => ⟨hk.1.1.1.1.1.1.2, ⟨hk.1.1.1.1.1.2, ⟨hk.1.1.1.1.2, ⟨hk.1.1.1.2, ⟨hk.1.1.2, hk.1.2⟩⟩⟩⟩⟩)⟩, ⟨mB⟩⟩
                  · rw [if_neg c39] at H
                    have c39b0 : (t427 == t431) = false := beq_eq_false_iff_ne.mpr c39
                    have c39b1 : (t427 != t431) = true := bne_iff_ne.mpr c39
                    (first | rw [c39b0] | (simp only [i64_w, i32_w]; rw [c39b0]) | skip)
                    have H' := Aside0.mk H
                    clear H
                    go_wp2
                    go_meet
                    case rel => exact ⟨_, (true), mF, H', ⟨by have := HJ6.out; have := HJ20.out; first | omega | exact Nat.le_refl _⟩, ⟨by (with_reducible repeat (first | apply Kd.R_alloc | apply Kd.R_drewN | apply Kd.R_drew)); exact Kd.R_mono HO_3.out (fun _ hk => ⟨hk.1.1.1.1, ⟨hk.1.1.1.2.1, ⟨hk.1.1.1.2.2.1, ⟨hk.1.1.1.2.2.2, ⟨hk.1.1.2, hk.1.2⟩⟩⟩⟩⟩)⟩, ⟨by (with_reducible repeat (first | apply Kd.R_alloc | apply Kd.R_drewN | apply Kd.R_drew)); exact Kd.R_mono HO_4.out (fun _ hk => ⟨hk.1.1.1.1, ⟨hk.1.1.1.2.1, ⟨hk.1.1.1.2.2.1, ⟨hk.1.1.1.2.2.2, ⟨hk.1.1.2, hk.1.2⟩⟩⟩⟩⟩)⟩, ⟨by (with_reducible repeat (first | apply Kd.R_alloc | apply Kd.R_drewN | apply Kd.R_drew)); exact Kd.R_mono HO_5.out (fun _ hk => ⟨hk.1.1.1.1, ⟨hk.1.1.1.2.1, ⟨hk.1.1.1.2.2.1, ⟨hk.1.1.1.2.2.2, ⟨hk.1.1.2, hk.1.2⟩⟩⟩⟩⟩)⟩, ⟨by (with_reducible repeat (first | apply Kd.R_alloc | apply Kd.R_drewN | apply Kd.R_drew)); exact Kd.R_mono HO_9.out (fun _ hk => ⟨hk.1.1.1.1, ⟨hk.1.1.1.2.1, ⟨hk.1.1.1.2.2.1, ⟨hk.1.1.1.2.2.2, ⟨hk.1.1.2, hk.1.2⟩⟩⟩⟩⟩)⟩, ⟨by (with_reducible repeat (first | apply Kd.R_alloc | apply Kd.R_drewN | apply Kd.R_drew)); exact Kd.R_mono HO_11.out (fun _ hk => ⟨hk.1.1.1.1, ⟨hk.1.1.1.2.1, ⟨hk.1.1.1.2.2.1, ⟨hk.1.1.1.2.2.2, ⟨hk.1.1.2, hk.1.2⟩⟩⟩⟩⟩)⟩, ⟨by (with_reducible repeat (first | apply Kd.R_alloc | apply Kd.R_drewN | apply Kd.R_drew)); exact Kd.R_mono HO425.out (fun _ hk => ⟨hk.1.1.1.1.1.1.2, ⟨hk.1.1.1.1.1.2, ⟨hk.1.1.1.1.2, ⟨hk.1.1.1.2, ⟨hk.1.1.2, hk.1.2⟩⟩⟩⟩⟩)⟩, ⟨by (with_reducible repeat (first | apply Kd.R_alloc | apply Kd.R_drewN | apply Kd.R_drew)); exact Kd.R_mono HO429.out (fun _ hk => ⟨hk.1.1.1.1.1.1.2, ⟨hk.1.1.1.1.1.2, ⟨hk.1.1.1.1.2, ⟨hk.1.1.1.2, ⟨hk.1.1.2, hk.1.2⟩⟩⟩⟩⟩)⟩, ⟨mB⟩⟩
                case rest =>
                  as_aux_lemma =>
                  clear HC34
                  try clear c1
                  try clear c2
                  try clear p2
                  try clear c3
                  try clear c4
                  try clear c6
                  try clear c13
                  try clear c13b0
                  try clear c13b1
                  try clear c17
                  try clear c26
                  try clear c26b0
                  try clear c26b1
                  try clear c30
                  try clear c31
                  try clear c32
                  try clear c33
                  try clear c35
                  try clear c36
                  try clear c37
                  try clear c38
                  try clear c39
                  try clear c39b0
                  try clear c39b1
                  try clear c40
                  try clear p2
                  obtain ⟨kq, x119_33, rfl, HA, HJ33, HO_3, HO_4, HO_5, HO_9, HO_11, HO_15, HO_17, HB⟩ := hcut
                  cases kq with
                  | zero => exact absurd HA.out (by simp [laws_FnSeries.j2])
                  | succ kj33 =>
                    have H := HA.out
                    clear HA
                    simp only [laws_FnSeries.j2] at H
                    by_cases c43 : x119_33 = true
                    · subst c43
                      have H1 : (some false) = some r := by rw [if_pos rfl] at H; exact H
                      clear H
                      have H := H1
                      clear H1
                      obtain rfl := Option.some.inj H
                      go_wp2
                      go_ret
                      exact ⟨mE, mB⟩
                    · replace c43 := Bool.eq_false_iff.mpr c43
                      subst c43
                      have H1 : ((spec_DrawNumeratorOf.f kj33 l0).bind fun bt435 => ((impl_NumeratorOf.f kj33 bt435.1 bt435.2).bind fun bt441 => ((spec_NumeratorOf.f kj33 bt435.1 bt435.2).bind fun bt445 => (if bt441.2 = bt445.2 then ((laws_likeInts.f kj33 bt441.1 bt445.1).bind fun t449 => (laws_FnSeries.j3 kj33 l0 t394 t395 t400 t401 t409 t410 t413 t414 t422 t426 t427 (!t449))) else (laws_FnSeries.j3 kj33 l0 t394 t395 t400 t401 t409 t410 t413 t414 t422 t426 t427 true))))) = some r := by rw [if_neg (show ¬ (false = true) by decide)] at H; exact H
                      clear H
                      have H := H1
                      clear H1
                      replace H := Option.bind_eq_some_iff.mp H
                      obtain ⟨⟨t435, t436⟩, A440, H⟩ := H
                      replace H : ((impl_NumeratorOf.f kj33 t435 t436).bind fun bt441 => ((spec_NumeratorOf.f kj33 t435 t436).bind fun bt445 => (if bt441.2 = bt445.2 then ((laws_likeInts.f kj33 bt441.1 bt445.1).bind fun t449 => (laws_FnSeries.j3 kj33 l0 t394 t395 t400 t401 t409 t410 t413 t414 t422 t426 t427 (!t449))) else (laws_FnSeries.j3 kj33 l0 t394 t395 t400 t401 t409 t410 t413 t414 t422 t426 t427 true)))) = some r := H
                      have A44 := Aside0.mk A440
                      clear A440
                      replace H := Option.bind_eq_some_iff.mp H
                      obtain ⟨⟨t441, t442⟩, A450, H⟩ := H
                      replace H : ((spec_NumeratorOf.f kj33 t435 t436).bind fun bt445 => (if t442 = bt445.2 then ((laws_likeInts.f kj33 t441 bt445.1).bind fun t449 => (laws_FnSeries.j3 kj33 l0 t394 t395 t400 t401 t409 t410 t413 t414 t422 t426 t427 (!t449))) else (laws_FnSeries.j3 kj33 l0 t394 t395 t400 t401 t409 t410 t413 t414 t422 t426 t427 true))) = some r := H
                      have A45 := Aside0.mk A450
                      clear A450
                      replace H := Option.bind_eq_some_iff.mp H
                      obtain ⟨⟨t445, t446⟩, A460, H⟩ := H
                      replace H : (if t442 = t446 then ((laws_likeInts.f kj33 t441 t445).bind fun t449 => (laws_FnSeries.j3 kj33 l0 t394 t395 t400 t401 t409 t410 t413 t414 t422 t426 t427 (!t449))) else (laws_FnSeries.j3 kj33 l0 t394 t395 t400 t401 t409 t410 t413 t414 t422 t426 t427 true)) = some r := H
                      have A46 := Aside0.mk A460
                      clear A460
                      have HC47 := Aside0.mk H
                      clear H
                      go_upto_region 21 with (first | ((with_reducible refine gate_callee (f := 41) rfl ?_); refine goL (some 122) Try.func41 #[.slice A0 l0.length c0] (h := ?_); (with_reducible refine (spec_DrawNumeratorOf.calls kj33 _ _ l0 t435 t436 _ ?side1 ?side2 A44.out).mono ?_); (case side1 => repeat (first | exact (Kd.C_below HR0.out HB.out) | (with_reducible refine Kd.C_alloc ?_ _) | (with_reducible refine Kd.C_drewN ?_ _) | (with_reducible refine Kd.C_drew ?_))); (case side2 => exact HC0.out); rintro e w48 ⟨v437, v439, rfl, ho0, ho1, hb⟩; refine ⟨_, rfl, ?_⟩; have n0_ := Aside0.mk (Kd.R_mono (Kd.R_told (Kd.R_told (Kd.R_old (mR HO_3.out) hb) (Kd.R_base ho0)) (Kd.R_base ho1)) (fun _ h_ => h_.1)); have n1_ := Aside0.mk (Kd.R_mono (Kd.R_told (Kd.R_told (Kd.R_old (mR HO_4.out) hb) (Kd.R_base ho0)) (Kd.R_base ho1)) (fun _ h_ => h_.1)); have n2_ := Aside0.mk (Kd.R_mono (Kd.R_told (Kd.R_told (Kd.R_old (mR HO_5.out) hb) (Kd.R_base ho0)) (Kd.R_base ho1)) (fun _ h_ => h_.1)); have n3_ := Aside0.mk (Kd.R_mono (Kd.R_told (Kd.R_told (Kd.R_old (mR HO_9.out) hb) (Kd.R_base ho0)) (Kd.R_base ho1)) (fun _ h_ => h_.1)); have n4_ := Aside0.mk (Kd.R_mono (Kd.R_told (Kd.R_told (Kd.R_old (mR HO_11.out) hb) (Kd.R_base ho0)) (Kd.R_base ho1)) (fun _ h_ => h_.1)); have n5_ := Aside0.mk (Kd.R_mono (Kd.R_told (Kd.R_told (Kd.R_old (mR HO_15.out) hb) (Kd.R_base ho0)) (Kd.R_base ho1)) (fun _ h_ => h_.1)); have n6_ := Aside0.mk (Kd.R_mono (Kd.R_told (Kd.R_told (Kd.R_old (mR HO_17.out) hb) (Kd.R_base ho0)) (Kd.R_base ho1)) (fun _ h_ => h_.1)); have n7_ := Aside0.mk (Kd.R_lower (Kd.R_new' (Kd.R_new' (Kd.R_new' (Kd.R_new' (Kd.R_new' (Kd.R_new' (Kd.R_new' ho0 (Kd.R_lt (mR HO_3.out))) (Kd.R_lt (mR HO_4.out))) (Kd.R_lt (mR HO_5.out))) (Kd.R_lt (mR HO_9.out))) (Kd.R_lt (mR HO_11.out))) (Kd.R_lt (mR HO_15.out))) (Kd.R_lt (mR HO_17.out))) (below_size mB)); have n8_ := Aside0.mk (Kd.R_lower (Kd.R_new' (Kd.R_new' (Kd.R_new' (Kd.R_new' (Kd.R_new' (Kd.R_new' (Kd.R_new' ho1 (Kd.R_lt (mR HO_3.out))) (Kd.R_lt (mR HO_4.out))) (Kd.R_lt (mR HO_5.out))) (Kd.R_lt (mR HO_9.out))) (Kd.R_lt (mR HO_11.out))) (Kd.R_lt (mR HO_15.out))) (Kd.R_lt (mR HO_17.out))) (below_size mB)); have n9_ := Aside0.mk (below_step mB hb); clear HO_3; clear HO_4; clear HO_5; clear HO_9; clear HO_11; clear HO_15; clear HO_17; clear HB; have HO_3 := n0_; have HO_4 := n1_; have HO_5 := n2_; have HO_9 := n3_; have HO_11 := n4_; have HO_15 := n5_; have HO_17 := n6_; have HO438 := n7_; have HO440 := n8_; have HB := n9_; clear n0_ n1_ n2_ n3_ n4_ n5_ n6_ n7_ n8_ n9_; (try clear hb); (try clear hb2); (try clear hk); (try clear hi); (try clear ho0); (try clear ho1); obtain ⟨Ao49, co49, eo49⟩ := Kd.R_slice HO438.out; subst eo49; obtain ⟨Ao50, co50, eo50⟩ := Kd.R_slice HO440.out; subst eo50) | ((with_reducible refine gate_callee (f := 17) rfl ?_); refine goL (some 128) Try.func17 #[.slice Ao49 t435.length co49, .slice Ao50 t436.length co50] (h := ?_); (with_reducible refine (impl_NumeratorOf.calls kj33 _ _ t435 _ _ t436 t441 t442 _ ?side1 ?side2 ?side3 ?side4 A45.out).mono ?_); (case side1 => repeat (first | exact (Kd.R_reads' HO438.out).2.2 | (with_reducible refine Kd.C_alloc ?_ _) | (with_reducible refine Kd.C_drewN ?_ _) | (with_reducible refine Kd.C_drew ?_))); (case side2 => exact (Kd.R_reads' HO438.out).2.1); (case side3 => repeat (first | exact (Kd.R_reads' HO440.out).2.2 | (with_reducible refine Kd.C_alloc ?_ _) | (with_reducible refine Kd.C_drewN ?_ _) | (with_reducible refine Kd.C_drew ?_))); (case side4 => exact (Kd.R_reads' HO440.out).2.1); rintro e w51 ⟨v443, rfl, ho0, hb⟩; refine ⟨_, rfl, ?_⟩; have n0_ := Aside0.mk (Kd.R_elder' (mR HO_3.out) (Kd.R_base ho0) hb); have n1_ := Aside0.mk (Kd.R_elder' (mR HO_4.out) (Kd.R_base ho0) hb); have n2_ := Aside0.mk (Kd.R_elder' (mR HO_5.out) (Kd.R_base ho0) hb); have n3_ := Aside0.mk (Kd.R_elder' (mR HO_9.out) (Kd.R_base ho0) hb); have n4_ := Aside0.mk (Kd.R_elder' (mR HO_11.out) (Kd.R_base ho0) hb); have n5_ := Aside0.mk (Kd.R_elder' (mR HO_15.out) (Kd.R_base ho0) hb); have n6_ := Aside0.mk (Kd.R_elder' (mR HO_17.out) (Kd.R_base ho0) hb); have n7_ := Aside0.mk (Kd.R_elder' (mR HO438.out) (Kd.R_base ho0) hb); have n8_ := Aside0.mk (Kd.R_elder' (mR HO440.out) (Kd.R_base ho0) hb); have n9_ := Aside0.mk (Kd.R_lower (Kd.R_new' (Kd.R_new' (Kd.R_new' (Kd.R_new' (Kd.R_new' (Kd.R_new' (Kd.R_new' (Kd.R_new' (Kd.R_new' ho0 (Kd.R_lt (mR HO_3.out))) (Kd.R_lt (mR HO_4.out))) (Kd.R_lt (mR HO_5.out))) (Kd.R_lt (mR HO_9.out))) (Kd.R_lt (mR HO_11.out))) (Kd.R_lt (mR HO_15.out))) (Kd.R_lt (mR HO_17.out))) (Kd.R_lt (mR HO438.out))) (Kd.R_lt (mR HO440.out))) (below_size mB)); have n10_ := Aside0.mk (below_step mB hb); clear HO_3; clear HO_4; clear HO_5; clear HO_9; clear HO_11; clear HO_15; clear HO_17; clear HO438; clear HO440; clear HB; have HO_3 := n0_; have HO_4 := n1_; have HO_5 := n2_; have HO_9 := n3_; have HO_11 := n4_; have HO_15 := n5_; have HO_17 := n6_; have HO438 := n7_; have HO440 := n8_; have HO444 := n9_; have HB := n10_; clear n0_ n1_ n2_ n3_ n4_ n5_ n6_ n7_ n8_ n9_ n10_; (try clear hb); (try clear hb2); (try clear hk); (try clear hi); (try clear ho0)) | ((with_reducible refine gate_callee (f := 15) rfl ?_); refine goL (some 134) Try.func15 #[.slice Ao49 t435.length co49, .slice Ao50 t436.length co50] (h := ?_); (with_reducible refine (spec_NumeratorOf.calls kj33 _ _ t435 _ _ t436 t445 t446 _ ?side1 ?side2 ?side3 ?side4 A46.out).mono ?_); (case side1 => repeat (first | exact (Kd.R_reads' HO438.out).2.2 | (with_reducible refine Kd.C_alloc ?_ _) | (with_reducible refine Kd.C_drewN ?_ _) | (with_reducible refine Kd.C_drew ?_))); (case side2 => exact (Kd.R_reads' HO438.out).2.1); (case side3 => repeat (first | exact (Kd.R_reads' HO440.out).2.2 | (with_reducible refine Kd.C_alloc ?_ _) | (with_reducible refine Kd.C_drewN ?_ _) | (with_reducible refine Kd.C_drew ?_))); (case side4 => exact (Kd.R_reads' HO440.out).2.1); rintro e w52 ⟨v447, rfl, ho0, hb⟩; refine ⟨_, rfl, ?_⟩; have n0_ := Aside0.mk (Kd.R_elder' (mR HO_3.out) (Kd.R_base ho0) hb); have n1_ := Aside0.mk (Kd.R_elder' (mR HO_4.out) (Kd.R_base ho0) hb); have n2_ := Aside0.mk (Kd.R_elder' (mR HO_5.out) (Kd.R_base ho0) hb); have n3_ := Aside0.mk (Kd.R_elder' (mR HO_9.out) (Kd.R_base ho0) hb); have n4_ := Aside0.mk (Kd.R_elder' (mR HO_11.out) (Kd.R_base ho0) hb); have n5_ := Aside0.mk (Kd.R_elder' (mR HO_15.out) (Kd.R_base ho0) hb); have n6_ := Aside0.mk (Kd.R_elder' (mR HO_17.out) (Kd.R_base ho0) hb); have n7_ := Aside0.mk (Kd.R_elder' (mR HO438.out) (Kd.R_base ho0) hb); have n8_ := Aside0.mk (Kd.R_elder' (mR HO440.out) (Kd.R_base ho0) hb); have n9_ := Aside0.mk (Kd.R_elder' (mR HO444.out) (Kd.R_base ho0) hb); have n10_ := Aside0.mk (Kd.R_lower (Kd.R_new' (Kd.R_new' (Kd.R_new' (Kd.R_new' (Kd.R_new' (Kd.R_new' (Kd.R_new' (Kd.R_new' (Kd.R_new' (Kd.R_new' ho0 (Kd.R_lt (mR HO_3.out))) (Kd.R_lt (mR HO_4.out))) (Kd.R_lt (mR HO_5.out))) (Kd.R_lt (mR HO_9.out))) (Kd.R_lt (mR HO_11.out))) (Kd.R_lt (mR HO_15.out))) (Kd.R_lt (mR HO_17.out))) (Kd.R_lt (mR HO438.out))) (Kd.R_lt (mR HO440.out))) (Kd.R_lt (mR HO444.out))) (below_size mB)); have n11_ := Aside0.mk (below_step mB hb); clear HO_3; clear HO_4; clear HO_5; clear HO_9; clear HO_11; clear HO_15; clear HO_17; clear HO438; clear HO440; clear HO444; clear HB; have HO_3 := n0_; have HO_4 := n1_; have HO_5 := n2_; have HO_9 := n3_; have HO_11 := n4_; have HO_15 := n5_; have HO_17 := n6_; have HO438 := n7_; have HO440 := n8_; have HO444 := n9_; have HO448 := n10_; have HB := n11_; clear n0_ n1_ n2_ n3_ n4_ n5_ n6_ n7_ n8_ n9_ n10_ n11_; (try clear hb); (try clear hb2); (try clear hk); (try clear hi); (try clear ho0)))
                      (try simp only [Act.put, List.setIfInBounds_toArray, List.set_cons_zero, List.set_cons_succ])
                      go_cut [145] (fun v145 wc => ∃ (kq : Nat) (x145_46 : Bool), v145 = .bool x145_46 ∧ Aside0 (laws_FnSeries.j3 kq l0 t394 t395 t400 t401 t409 t410 t413 t414 t422 t426 t427 x145_46 = some r) ∧ Aside0 (kq ≤ kj33) ∧ Aside0 (Kd.R (Kd.int .i64) 2 wc w.heap.size (fun k_ => some k_ ≠ ((.slice Ao10 t395.length co10) : Value).ownBlock ∧ some k_ ≠ (v402 : Value).ownBlock ∧ some k_ ≠ ((.slice Ao23 t409.length co23) : Value).ownBlock ∧ some k_ ≠ (v415 : Value).ownBlock ∧ some k_ ≠ ((.slice Ao36 t422.length co36) : Value).ownBlock ∧ some k_ ≠ (v428 : Value).ownBlock) (.slice Ao9 t394.length co9) t394) ∧ Aside0 (Kd.R (Kd.int .i64) 2 wc w.heap.size (fun k_ => some k_ ≠ ((.slice Ao9 t394.length co9) : Value).ownBlock ∧ some k_ ≠ (v402 : Value).ownBlock ∧ some k_ ≠ ((.slice Ao23 t409.length co23) : Value).ownBlock ∧ some k_ ≠ (v415 : Value).ownBlock ∧ some k_ ≠ ((.slice Ao36 t422.length co36) : Value).ownBlock ∧ some k_ ≠ (v428 : Value).ownBlock) (.slice Ao10 t395.length co10) t395) ∧ Aside0 (Kd.R (Kd.int .i64) 2 wc w.heap.size (fun k_ => some k_ ≠ ((.slice Ao9 t394.length co9) : Value).ownBlock ∧ some k_ ≠ ((.slice Ao10 t395.length co10) : Value).ownBlock ∧ some k_ ≠ ((.slice Ao23 t409.length co23) : Value).ownBlock ∧ some k_ ≠ (v415 : Value).ownBlock ∧ some k_ ≠ ((.slice Ao36 t422.length co36) : Value).ownBlock ∧ some k_ ≠ (v428 : Value).ownBlock) v402 t400) ∧ Aside0 (Kd.R (Kd.int .i64) 2 wc w.heap.size (fun k_ => some k_ ≠ ((.slice Ao9 t394.length co9) : Value).ownBlock ∧ some k_ ≠ ((.slice Ao10 t395.length co10) : Value).ownBlock ∧ some k_ ≠ (v402 : Value).ownBlock ∧ some k_ ≠ (v415 : Value).ownBlock ∧ some k_ ≠ ((.slice Ao36 t422.length co36) : Value).ownBlock ∧ some k_ ≠ (v428 : Value).ownBlock) (.slice Ao23 t409.length co23) t409) ∧ Aside0 (Kd.R (Kd.int .i64) 2 wc w.heap.size (fun k_ => some k_ ≠ ((.slice Ao9 t394.length co9) : Value).ownBlock ∧ some k_ ≠ ((.slice Ao10 t395.length co10) : Value).ownBlock ∧ some k_ ≠ (v402 : Value).ownBlock ∧ some k_ ≠ ((.slice Ao23 t409.length co23) : Value).ownBlock ∧ some k_ ≠ ((.slice Ao36 t422.length co36) : Value).ownBlock ∧ some k_ ≠ (v428 : Value).ownBlock) v415 t413) ∧ Aside0 (Kd.R (Kd.int .i64) 2 wc w.heap.size (fun k_ => some k_ ≠ ((.slice Ao9 t394.length co9) : Value).ownBlock ∧ some k_ ≠ ((.slice Ao10 t395.length co10) : Value).ownBlock ∧ some k_ ≠ (v402 : Value).ownBlock ∧ some k_ ≠ ((.slice Ao23 t409.length co23) : Value).ownBlock ∧ some k_ ≠ (v415 : Value).ownBlock ∧ some k_ ≠ (v428 : Value).ownBlock) (.slice Ao36 t422.length co36) t422) ∧ Aside0 (Kd.R (Kd.int .i64) 2 wc w.heap.size (fun k_ => some k_ ≠ ((.slice Ao9 t394.length co9) : Value).ownBlock ∧ some k_ ≠ ((.slice Ao10 t395.length co10) : Value).ownBlock ∧ some k_ ≠ (v402 : Value).ownBlock ∧ some k_ ≠ ((.slice Ao23 t409.length co23) : Value).ownBlock ∧ some k_ ≠ (v415 : Value).ownBlock ∧ some k_ ≠ ((.slice Ao36 t422.length co36) : Value).ownBlock) v428 t426) ∧ Aside0 (Below w.heap.size w wc))
                      case first =>
                        have H := HC47.out
                        clear HC47
                        by_cases c53 : t442 = t446
                        · rw [if_pos c53] at H
                          have c53b0 : (t442 == t446) = true := beq_iff_eq.mpr c53
                          have c53b1 : (t442 != t446) = false := bne_eq_false_iff_eq.mpr c53
                          clear c53
                          (first | rw [c53b0] | (simp only [i64_w, i32_w]; rw [c53b0]) | skip)
                          replace H := Option.bind_eq_some_iff.mp H
                          obtain ⟨t449, A540, H⟩ := H
                          replace H : (laws_FnSeries.j3 kj33 l0 t394 t395 t400 t401 t409 t410 t413 t414 t422 t426 t427 (!t449)) = some r := H
                          have A54 := Aside0.mk A540
                          clear A540
                          have H' := Aside0.mk H
                          clear H
                          obtain ⟨Ao55, co55, eo55⟩ := Kd.R_slice HO444.out
                          subst eo55
                          obtain ⟨Ao56, co56, eo56⟩ := Kd.R_slice HO448.out
                          subst eo56
                          go_wp2_with (first | (go_at_call 34; (with_reducible refine (laws_likeInts.calls kj33 _ _ t441 _ _ t445 t449 _ ?side1 ?side2 ?side3 ?side4 A54.out).mono ?_); (case side1 => repeat (first | exact (Kd.R_reads' HO444.out).2.2 | (with_reducible refine Kd.C_alloc ?_ _) | (with_reducible refine Kd.C_drewN ?_ _) | (with_reducible refine Kd.C_drew ?_))); (case side2 => exact (Kd.R_reads' HO444.out).2.1); (case side3 => repeat (first | exact (Kd.R_reads' HO448.out).2.2 | (with_reducible refine Kd.C_alloc ?_ _) | (with_reducible refine Kd.C_drewN ?_ _) | (with_reducible refine Kd.C_drew ?_))); (case side4 => exact (Kd.R_reads' HO448.out).2.1); rintro e w' ⟨rfl, ⟨nd, rfl⟩⟩))
                          go_meet
                          case rel => exact ⟨_, (!t449), mF, H', ⟨by have := HJ6.out; have := HJ20.out; have := HJ33.out; first | omega | exact Nat.le_refl _⟩, ⟨by (with_reducible repeat (first | apply Kd.R_alloc | apply Kd.R_drewN | apply Kd.R_drew)); exact Kd.R_mono HO_3.out (fun _ hk => ⟨hk.1.1.1.1.1, ⟨hk.1.1.1.1.2.1, ⟨hk.1.1.1.1.2.2.1, ⟨hk.1.1.1.1.2.2.2.1, ⟨hk.1.1.1.1.2.2.2.2.1, hk.1.1.1.1.2.2.2.2.2⟩⟩⟩⟩⟩)⟩, ⟨by (with_reducible repeat (first | apply Kd.R_alloc | apply Kd.R_drewN | apply Kd.R_drew)); exact Kd.R_mono HO_4.out (fun _ hk => ⟨hk.1.1.1.1.1, ⟨hk.1.1.1.1.2.1, ⟨hk.1.1.1.1.2.2.1, ⟨hk.1.1.1.1.2.2.2.1, ⟨hk.1.1.1.1.2.2.2.2.1, hk.1.1.1.1.2.2.2.2.2⟩⟩⟩⟩⟩)⟩, ⟨by (with_reducible repeat (first | apply Kd.R_alloc | apply Kd.R_drewN | apply Kd.R_drew)); exact Kd.R_mono HO_5.out (fun _ hk => ⟨hk.1.1.1.1.1, ⟨hk.1.1.1.1.2.1, ⟨hk.1.1.1.1.2.2.1, ⟨hk.1.1.1.1.2.2.2.1, ⟨hk.1.1.1.1.2.2.2.2.1, hk.1.1.1.1.2.2.2.2.2⟩⟩⟩⟩⟩)⟩, ⟨by (with_reducible repeat (first | apply Kd.R_alloc | apply Kd.R_drewN | apply Kd.R_drew)); exact Kd.R_mono HO_9.out (fun _ hk => ⟨hk.1.1.1.1.1, ⟨hk.1.1.1.1.2.1, ⟨hk.1.1.1.1.2.2.1, ⟨hk.1.1.1.1.2.2.2.1, ⟨hk.1.1.1.1.2.2.2.2.1, hk.1.1.1.1.2.2.2.2.2⟩⟩⟩⟩⟩)⟩, ⟨by (with_reducible repeat (first | apply Kd.R_alloc | apply Kd.R_drewN | apply Kd.R_drew)); exact Kd.R_mono HO_11.out (fun _ hk => ⟨hk.1.1.1.1.1, ⟨hk.1.1.1.1.2.1, ⟨hk.1.1.1.1.2.2.1, ⟨hk.1.1.1.1.2.2.2.1, ⟨hk.1.1.1.1.2.2.2.2.1, hk.1.1.1.1.2.2.2.2.2⟩⟩⟩⟩⟩)⟩, ⟨by (with_reducible repeat (first | apply Kd.R_alloc | apply Kd.R_drewN | apply Kd.R_drew)); exact Kd.R_mono HO_15.out (fun _ hk => ⟨hk.1.1.1.1.1, ⟨hk.1.1.1.1.2.1, ⟨hk.1.1.1.1.2.2.1, ⟨hk.1.1.1.1.2.2.2.1, ⟨hk.1.1.1.1.2.2.2.2.1, hk.1.1.1.1.2.2.2.2.2⟩⟩⟩⟩⟩)⟩, ⟨by (with_reducible repeat (first | apply Kd.R_alloc | apply Kd.R_drewN | apply Kd.R_drew)); exact Kd.R_mono HO_17.out (fun _ hk => ⟨hk.1.1.1.1.1, ⟨hk.1.1.1.1.2.1, ⟨hk.1.1.1.1.2.2.1, ⟨hk.1.1.1.1.2.2.2.1, ⟨hk.1.1.1.1.2.2.2.2.1, hk.1.1.1.1.2.2.2.2.2⟩⟩⟩⟩⟩)⟩, ⟨mB⟩⟩
                        · rw [if_neg c53] at H
                          have c53b0 : (t442 == t446) = false := beq_eq_false_iff_ne.mpr c53
                          have c53b1 : (t442 != t446) = true := bne_iff_ne.mpr c53
                          (first | rw [c53b0] | (simp only [i64_w, i32_w]; rw [c53b0]) | skip)
                          have H' := Aside0.mk H
                          clear H
                          go_wp2
                          go_meet
                          case rel => exact ⟨_, (true), mF, H', ⟨by have := HJ6.out; have := HJ20.out; have := HJ33.out; first | omega | exact Nat.le_refl _⟩, ⟨by (with_reducible repeat (first | apply Kd.R_alloc | apply Kd.R_drewN | apply Kd.R_drew)); exact Kd.R_mono HO_3.out (fun _ hk => ⟨hk.1.1.1.1.1, ⟨hk.1.1.1.1.2.1, ⟨hk.1.1.1.1.2.2.1, ⟨hk.1.1.1.1.2.2.2.1, ⟨hk.1.1.1.1.2.2.2.2.1, hk.1.1.1.1.2.2.2.2.2⟩⟩⟩⟩⟩)⟩, ⟨by (with_reducible repeat (first | apply Kd.R_alloc | apply Kd.R_drewN | apply Kd.R_drew)); exact Kd.R_mono HO_4.out (fun _ hk => ⟨hk.1.1.1.1.1, ⟨hk.1.1.1.1.2.1, ⟨hk.1.1.1.1.2.2.1, ⟨hk.1.1.1.1.2.2.2.1, ⟨hk.1.1.1.1.2.2.2.2.1, hk.1.1.1.1.2.2.2.2.2⟩⟩⟩⟩⟩)⟩, ⟨by (with_reducible repeat (first | apply Kd.R_alloc | apply Kd.R_drewN | apply Kd.R_drew)); exact Kd.R_mono HO_5.out (fun _ hk => ⟨hk.1.1.1.1.1, ⟨hk.1.1.1.1.2.1, ⟨hk.1.1.1.1.2.2.1, ⟨hk.1.1.1.1.2.2.2.1, ⟨hk.1.1.1.1.2.2.2.2.1, hk.1.1.1.1.2.2.2.2.2⟩⟩⟩⟩⟩)⟩, ⟨by (with_reducible repeat (first | apply Kd.R_alloc | apply Kd.R_drewN | apply Kd.R_drew)); exact Kd.R_mono HO_9.out (fun _ hk => ⟨hk.1.1.1.1.1, ⟨hk.1.1.1.1.2.1, ⟨hk.1.1.1.1.2.2.1, ⟨hk.1.1.1.1.2.2.2.1, ⟨hk.1.1.1.1.2.2.2.2.1, hk.1.1.1.1.2.2.2.2.2⟩⟩⟩⟩⟩)⟩, ⟨by (with_reducible repeat (first | apply Kd.R_alloc | apply Kd.R_drewN | apply Kd.R_drew)); exact Kd.R_mono HO_11.out (fun _ hk => ⟨hk.1.1.1.1.1, ⟨hk.1.1.1.1.2.1, ⟨hk.1.1.1.1.2.2.1, ⟨hk.1.1.1.1.2.2.2.1, ⟨hk.1.1.1.1.2.2.2.2.1, hk.1.1.1.1.2.2.2.2.2⟩⟩⟩⟩⟩)⟩, ⟨by (with_reducible repeat (first | apply Kd.R_alloc | apply Kd.R_drewN | apply Kd.R_drew)); exact Kd.R_mono HO_15.out (fun _ hk => ⟨hk.1.1.1.1.1, ⟨hk.1.1.1.1.2.1, ⟨hk.1.1.1.1.2.2.1, ⟨hk.1.1.1.1.2.2.2.1, ⟨hk.1.1.1.1.2.2.2.2.1, hk.1.1.1.1.2.2.2.2.2⟩⟩⟩⟩⟩)⟩, ⟨by (with_reducible repeat (first | apply Kd.R_alloc | apply Kd.R_drewN | apply Kd.R_drew)); exact Kd.R_mono HO_17.out (fun _ hk => ⟨hk.1.1.1.1.1, ⟨hk.1.1.1.1.2.1, ⟨hk.1.1.1.1.2.2.1, ⟨hk.1.1.1.1.2.2.2.1, ⟨hk.1.1.1.1.2.2.2.2.1, hk.1.1.1.1.2.2.2.2.2⟩⟩⟩⟩⟩)⟩, ⟨mB⟩⟩
                      case rest =>
                        as_aux_lemma =>
                        clear HC47
                        try clear c1
                        try clear c2
                        try clear p2
                        try clear c3
                        try clear c4
                        try clear c5
                        try clear c6
                        try clear c13
                        try clear c13b0
                        try clear c13b1
                        try clear c15
                        try clear c17
                        try clear c26
                        try clear c26b0
                        try clear c26b1
                        try clear c30
                        try clear c31
                        try clear c32
                        try clear c33
                        try clear c35
                        try clear c36
                        try clear c37
                        try clear c38
                        try clear c39
                        try clear c39b0
                        try clear c39b1
                        try clear c40
                        try clear c41
                        try clear c43
                        try clear c53
                        try clear c53b0
                        try clear c53b1
                        try clear p2
                        obtain ⟨kq, x145_46, rfl, HA, HJ46, HO_3, HO_4, HO_5, HO_9, HO_11, HO_15, HO_17, HB⟩ := hcut
                        cases kq with
                        | zero => exact absurd HA.out (by simp [laws_FnSeries.j3])
                        | succ kj46 =>
                          have H := HA.out
                          clear HA
                          simp only [laws_FnSeries.j3] at H
                          by_cases c57 : x145_46 = true
                          · subst c57
                            have H1 : (some false) = some r := by rw [if_pos rfl] at H; exact H
                            clear H
                            have H := H1
                            clear H1
                            obtain rfl := Option.some.inj H
                            go_wp2
                            go_ret
                            exact ⟨mE, mB⟩
                          · replace c57 := Bool.eq_false_iff.mpr c57
                            subst c57
                            have H1 : ((spec_DrawIsFromBehind.f kj46 l0).bind fun t450 => ((impl_IsFromBehind.f kj46 t450).bind fun bt453 => ((spec_IsFromBehind.f kj46 t450).bind fun bt455 => (if bt453.2 = bt455.2 then (laws_FnSeries.j4 kj46 t394 t395 t400 t401 t409 t410 t413 t414 t422 t426 t427 (bt453.1 != bt455.1)) else (laws_FnSeries.j4 kj46 t394 t395 t400 t401 t409 t410 t413 t414 t422 t426 t427 true))))) = some r := by rw [if_neg (show ¬ (false = true) by decide)] at H; exact H
                            clear H
                            have H := H1
                            clear H1
                            replace H := Option.bind_eq_some_iff.mp H
                            obtain ⟨t450, A580, H⟩ := H
                            replace H : ((impl_IsFromBehind.f kj46 t450).bind fun bt453 => ((spec_IsFromBehind.f kj46 t450).bind fun bt455 => (if bt453.2 = bt455.2 then (laws_FnSeries.j4 kj46 t394 t395 t400 t401 t409 t410 t413 t414 t422 t426 t427 (bt453.1 != bt455.1)) else (laws_FnSeries.j4 kj46 t394 t395 t400 t401 t409 t410 t413 t414 t422 t426 t427 true)))) = some r := H
                            have A58 := Aside0.mk A580
                            clear A580
                            replace H := Option.bind_eq_some_iff.mp H
                            obtain ⟨⟨t453, t454⟩, A590, H⟩ := H
                            replace H : ((spec_IsFromBehind.f kj46 t450).bind fun bt455 => (if t454 = bt455.2 then (laws_FnSeries.j4 kj46 t394 t395 t400 t401 t409 t410 t413 t414 t422 t426 t427 (t453 != bt455.1)) else (laws_FnSeries.j4 kj46 t394 t395 t400 t401 t409 t410 t413 t414 t422 t426 t427 true))) = some r := H
                            have A59 := Aside0.mk A590
                            clear A590
                            replace H := Option.bind_eq_some_iff.mp H
                            obtain ⟨⟨t455, t456⟩, A600, H⟩ := H
                            replace H : (if t454 = t456 then (laws_FnSeries.j4 kj46 t394 t395 t400 t401 t409 t410 t413 t414 t422 t426 t427 (t453 != t455)) else (laws_FnSeries.j4 kj46 t394 t395 t400 t401 t409 t410 t413 t414 t422 t426 t427 true)) = some r := H
                            have A60 := Aside0.mk A600
                            clear A600
                            have HC61 := Aside0.mk H
                            clear H
                            go_upto_region 26 with (first | ((with_reducible refine gate_callee (f := 42) rfl ?_); refine goL (some 147) Try.func42 #[.slice A0 l0.length c0] (h := ?_); (with_reducible refine (spec_DrawIsFromBehind.calls kj46 _ _ l0 t450 _ ?side1 ?side2 A58.out).mono ?_); (case side1 => repeat (first | exact (Kd.C_below HR0.out HB.out) | (with_reducible refine Kd.C_alloc ?_ _) | (with_reducible refine Kd.C_drewN ?_ _) | (with_reducible refine Kd.C_drew ?_))); (case side2 => exact HC0.out); rintro e w62 ⟨v451, rfl, ho0, hb⟩; refine ⟨_, rfl, ?_⟩; have n0_ := Aside0.mk (Kd.R_elder' (mR HO_3.out) (Kd.R_base ho0) hb); have n1_ := Aside0.mk (Kd.R_elder' (mR HO_4.out) (Kd.R_base ho0) hb); have n2_ := Aside0.mk (Kd.R_elder' (mR HO_5.out) (Kd.R_base ho0) hb); have n3_ := Aside0.mk (Kd.R_elder' (mR HO_9.out) (Kd.R_base ho0) hb); have n4_ := Aside0.mk (Kd.R_elder' (mR HO_11.out) (Kd.R_base ho0) hb); have n5_ := Aside0.mk (Kd.R_elder' (mR HO_15.out) (Kd.R_base ho0) hb); have n6_ := Aside0.mk (Kd.R_elder' (mR HO_17.out) (Kd.R_base ho0) hb); have n7_ := Aside0.mk (Kd.R_lower (Kd.R_new' (Kd.R_new' (Kd.R_new' (Kd.R_new' (Kd.R_new' (Kd.R_new' (Kd.R_new' ho0 (Kd.R_lt (mR HO_3.out))) (Kd.R_lt (mR HO_4.out))) (Kd.R_lt (mR HO_5.out))) (Kd.R_lt (mR HO_9.out))) (Kd.R_lt (mR HO_11.out))) (Kd.R_lt (mR HO_15.out))) (Kd.R_lt (mR HO_17.out))) (below_size mB)); have n8_ := Aside0.mk (below_step mB hb); clear HO_3; clear HO_4; clear HO_5; clear HO_9; clear HO_11; clear HO_15; clear HO_17; clear HB; have HO_3 := n0_; have HO_4 := n1_; have HO_5 := n2_; have HO_9 := n3_; have HO_11 := n4_; have HO_15 := n5_; have HO_17 := n6_; have HO452 := n7_; have HB := n8_; clear n0_ n1_ n2_ n3_ n4_ n5_ n6_ n7_ n8_; (try clear hb); (try clear hb2); (try clear hk); (try clear hi); (try clear ho0); obtain ⟨Ao63, co63, eo63⟩ := Kd.R_slice HO452.out; subst eo63) | ((with_reducible refine gate_callee (f := 43) rfl ?_); refine goL (some 150) Try.func43 #[.slice Ao63 t450.length co63] (h := ?_); (with_reducible refine (impl_IsFromBehind.calls kj46 _ _ t450 t453 t454 _ ?side1 ?side2 A59.out).mono ?_); (case side1 => repeat (first | exact (Kd.R_reads' HO452.out).2.2 | (with_reducible refine Kd.C_alloc ?_ _) | (with_reducible refine Kd.C_drewN ?_ _) | (with_reducible refine Kd.C_drew ?_))); (case side2 => exact (Kd.R_reads' HO452.out).2.1); rintro e w' ⟨rfl, ⟨nd, rfl⟩⟩; refine ⟨_, rfl, ?_⟩) | ((with_reducible refine gate_callee (f := 44) rfl ?_); refine goL (some 155) Try.func44 #[.slice Ao63 t450.length co63] (h := ?_); (with_reducible refine (spec_IsFromBehind.calls kj46 _ _ t450 t455 t456 _ ?side1 ?side2 A60.out).mono ?_); (case side1 => repeat (first | exact (Kd.R_reads' HO452.out).2.2 | (with_reducible refine Kd.C_alloc ?_ _) | (with_reducible refine Kd.C_drewN ?_ _) | (with_reducible refine Kd.C_drew ?_))); (case side2 => exact (Kd.R_reads' HO452.out).2.1); rintro e w' ⟨rfl, ⟨nd, rfl⟩⟩; refine ⟨_, rfl, ?_⟩))
                            (try simp only [Act.put, List.setIfInBounds_toArray, List.set_cons_zero, List.set_cons_succ])
                            go_cut [165] (fun v165 wc => ∃ (kq : Nat) (x165_60 : Bool), v165 = .bool x165_60 ∧ Aside0 (laws_FnSeries.j4 kq t394 t395 t400 t401 t409 t410 t413 t414 t422 t426 t427 x165_60 = some r) ∧ Aside0 (kq ≤ kj46) ∧ Aside0 (Kd.R (Kd.int .i64) 2 wc w.heap.size (fun k_ => some k_ ≠ ((.slice Ao10 t395.length co10) : Value).ownBlock ∧ some k_ ≠ (v402 : Value).ownBlock ∧ some k_ ≠ ((.slice Ao23 t409.length co23) : Value).ownBlock ∧ some k_ ≠ (v415 : Value).ownBlock ∧ some k_ ≠ ((.slice Ao36 t422.length co36) : Value).ownBlock ∧ some k_ ≠ (v428 : Value).ownBlock) (.slice Ao9 t394.length co9) t394) ∧ Aside0 (Kd.R (Kd.int .i64) 2 wc w.heap.size (fun k_ => some k_ ≠ ((.slice Ao9 t394.length co9) : Value).ownBlock ∧ some k_ ≠ (v402 : Value).ownBlock ∧ some k_ ≠ ((.slice Ao23 t409.length co23) : Value).ownBlock ∧ some k_ ≠ (v415 : Value).ownBlock ∧ some k_ ≠ ((.slice Ao36 t422.length co36) : Value).ownBlock ∧ some k_ ≠ (v428 : Value).ownBlock) (.slice Ao10 t395.length co10) t395) ∧ Aside0 (Kd.R (Kd.int .i64) 2 wc w.heap.size (fun k_ => some k_ ≠ ((.slice Ao9 t394.length co9) : Value).ownBlock ∧ some k_ ≠ ((.slice Ao10 t395.length co10) : Value).ownBlock ∧ some k_ ≠ ((.slice Ao23 t409.length co23) : Value).ownBlock ∧ some k_ ≠ (v415 : Value).ownBlock ∧ some k_ ≠ ((.slice Ao36 t422.length co36) : Value).ownBlock ∧ some k_ ≠ (v428 : Value).ownBlock) v402 t400) ∧ Aside0 (Kd.R (Kd.int .i64) 2 wc w.heap.size (fun k_ => some k_ ≠ ((.slice Ao9 t394.length co9) : Value).ownBlock ∧ some k_ ≠ ((.slice Ao10 t395.length co10) : Value).ownBlock ∧ some k_ ≠ (v402 : Value).ownBlock ∧ some k_ ≠ (v415 : Value).ownBlock ∧ some k_ ≠ ((.slice Ao36 t422.length co36) : Value).ownBlock ∧ some k_ ≠ (v428 : Value).ownBlock) (.slice Ao23 t409.length co23) t409) ∧ Aside0 (Kd.R (Kd.int .i64) 2 wc w.heap.size (fun k_ => some k_ ≠ ((.slice Ao9 t394.length co9) : Value).ownBlock ∧ some k_ ≠ ((.slice Ao10 t395.length co10) : Value).ownBlock ∧ some k_ ≠ (v402 : Value).ownBlock ∧ some k_ ≠ ((.slice Ao23 t409.length co23) : Value).ownBlock ∧ some k_ ≠ ((.slice Ao36 t422.length co36) : Value).ownBlock ∧ some k_ ≠ (v428 : Value).ownBlock) v415 t413) ∧ Aside0 (Kd.R (Kd.int .i64) 2 wc w.heap.size (fun k_ => some k_ ≠ ((.slice Ao9 t394.length co9) : Value).ownBlock ∧ some k_ ≠ ((.slice Ao10 t395.length co10) : Value).ownBlock ∧ some k_ ≠ (v402 : Value).ownBlock ∧ some k_ ≠ ((.slice Ao23 t409.length co23) : Value).ownBlock ∧ some k_ ≠ (v415 : Value).ownBlock ∧ some k_ ≠ (v428 : Value).ownBlock) (.slice Ao36 t422.length co36) t422) ∧ Aside0 (Kd.R (Kd.int .i64) 2 wc w.heap.size (fun k_ => some k_ ≠ ((.slice Ao9 t394.length co9) : Value).ownBlock ∧ some k_ ≠ ((.slice Ao10 t395.length co10) : Value).ownBlock ∧ some k_ ≠ (v402 : Value).ownBlock ∧ some k_ ≠ ((.slice Ao23 t409.length co23) : Value).ownBlock ∧ some k_ ≠ (v415 : Value).ownBlock ∧ some k_ ≠ ((.slice Ao36 t422.length co36) : Value).ownBlock) v428 t426) ∧ Aside0 (Below w.heap.size w wc))
                            case first =>
                              have H := HC61.out
                              clear HC61
                              by_cases c64 : t454 = t456
                              · rw [if_pos c64] at H
                                have c64b0 : (t454 == t456) = true := beq_iff_eq.mpr c64
                                have c64b1 : (t454 != t456) = false := bne_eq_false_iff_eq.mpr c64
                                clear c64
                                (first | rw [c64b0] | (simp only [i64_w, i32_w]; rw [c64b0]) | skip)
                                have H' := Aside0.mk H
                                clear H
                                go_wp2
                                go_meet
                                case rel => exact ⟨_, ((t453 != t455)), mF, H', ⟨by have := HJ6.out; have := HJ20.out; have := HJ33.out; have := HJ46.out; first | omega | exact Nat.le_refl _⟩, ⟨by (with_reducible repeat (first | apply Kd.R_alloc | apply Kd.R_drewN | apply Kd.R_drew)); exact Kd.R_mono HO_3.out (fun _ hk => ⟨hk.1.1, ⟨hk.1.2.1, ⟨hk.1.2.2.1, ⟨hk.1.2.2.2.1, ⟨hk.1.2.2.2.2.1, hk.1.2.2.2.2.2⟩⟩⟩⟩⟩)⟩, ⟨by (with_reducible repeat (first | apply Kd.R_alloc | apply Kd.R_drewN | apply Kd.R_drew)); exact Kd.R_mono HO_4.out (fun _ hk => ⟨hk.1.1, ⟨hk.1.2.1, ⟨hk.1.2.2.1, ⟨hk.1.2.2.2.1, ⟨hk.1.2.2.2.2.1, hk.1.2.2.2.2.2⟩⟩⟩⟩⟩)⟩, ⟨by (with_reducible repeat (first | apply Kd.R_alloc | apply Kd.R_drewN | apply Kd.R_drew)); exact Kd.R_mono HO_5.out (fun _ hk => ⟨hk.1.1, ⟨hk.1.2.1, ⟨hk.1.2.2.1, ⟨hk.1.2.2.2.1, ⟨hk.1.2.2.2.2.1, hk.1.2.2.2.2.2⟩⟩⟩⟩⟩)⟩, ⟨by (with_reducible repeat (first | apply Kd.R_alloc | apply Kd.R_drewN | apply Kd.R_drew)); exact Kd.R_mono HO_9.out (fun _ hk => ⟨hk.1.1, ⟨hk.1.2.1, ⟨hk.1.2.2.1, ⟨hk.1.2.2.2.1, ⟨hk.1.2.2.2.2.1, hk.1.2.2.2.2.2⟩⟩⟩⟩⟩)⟩, ⟨by (with_reducible repeat (first | apply Kd.R_alloc | apply Kd.R_drewN | apply Kd.R_drew)); exact Kd.R_mono HO_11.out (fun _ hk => ⟨hk.1.1, ⟨hk.1.2.1, ⟨hk.1.2.2.1, ⟨hk.1.2.2.2.1, ⟨hk.1.2.2.2.2.1, hk.1.2.2.2.2.2⟩⟩⟩⟩⟩)⟩, ⟨by (with_reducible repeat (first | apply Kd.R_alloc | apply Kd.R_drewN | apply Kd.R_drew)); exact Kd.R_mono HO_15.out (fun _ hk => ⟨hk.1.1, ⟨hk.1.2.1, ⟨hk.1.2.2.1, ⟨hk.1.2.2.2.1, ⟨hk.1.2.2.2.2.1, hk.1.2.2.2.2.2⟩⟩⟩⟩⟩)⟩, ⟨by (with_reducible repeat (first | apply Kd.R_alloc | apply Kd.R_drewN | apply Kd.R_drew)); exact Kd.R_mono HO_17.out (fun _ hk => ⟨hk.1.1, ⟨hk.1.2.1, ⟨hk.1.2.2.1, ⟨hk.1.2.2.2.1, ⟨hk.1.2.2.2.2.1, hk.1.2.2.2.2.2⟩⟩⟩⟩⟩)⟩, ⟨mB⟩⟩
                              · rw [if_neg c64] at H
                                have c64b0 : (t454 == t456) = false := beq_eq_false_iff_ne.mpr c64
                                have c64b1 : (t454 != t456) = true := bne_iff_ne.mpr c64
                                (first | rw [c64b0] | (simp only [i64_w, i32_w]; rw [c64b0]) | skip)
                                have H' := Aside0.mk H
                                clear H
                                go_wp2
                                go_meet
                                case rel => exact ⟨_, (true), mF, H', ⟨by have := HJ6.out; have := HJ20.out; have := HJ33.out; have := HJ46.out; first | omega | exact Nat.le_refl _⟩, ⟨by (with_reducible repeat (first | apply Kd.R_alloc | apply Kd.R_drewN | apply Kd.R_drew)); exact Kd.R_mono HO_3.out (fun _ hk => ⟨hk.1.1, ⟨hk.1.2.1, ⟨hk.1.2.2.1, ⟨hk.1.2.2.2.1, ⟨hk.1.2.2.2.2.1, hk.1.2.2.2.2.2⟩⟩⟩⟩⟩)⟩, ⟨by (with_reducible repeat (first | apply Kd.R_alloc | apply Kd.R_drewN | apply Kd.R_drew)); exact Kd.R_mono HO_4.out (fun _ hk => ⟨hk.1.1, ⟨hk.1.2.1, ⟨hk.1.2.2.1, ⟨hk.1.2.2.2.1, ⟨hk.1.2.2.2.2.1, hk.1.2.2.2.2.2⟩⟩⟩⟩⟩)⟩, ⟨by (with_reducible repeat (first | apply Kd.R_alloc | apply Kd.R_drewN | apply Kd.R_drew)); exact Kd.R_mono HO_5.out (fun _ hk => ⟨hk.1.1, ⟨hk.1.2.1, ⟨hk.1.2.2.1, ⟨hk.1.2.2.2.1, ⟨hk.1.2.2.2.2.1, hk.1.2.2.2.2.2⟩⟩⟩⟩⟩)⟩, ⟨by (with_reducible repeat (first | apply Kd.R_alloc | apply Kd.R_drewN | apply Kd.R_drew)); exact Kd.R_mono HO_9.out (fun _ hk => ⟨hk.1.1, ⟨hk.1.2.1, ⟨hk.1.2.2.1, ⟨hk.1.2.2.2.1, ⟨hk.1.2.2.2.2.1, hk.1.2.2.2.2.2⟩⟩⟩⟩⟩)⟩, ⟨by (with_reducible repeat (first | apply Kd.R_alloc | apply Kd.R_drewN | apply Kd.R_drew)); exact Kd.R_mono HO_11.out (fun _ hk => ⟨hk.1.1, ⟨hk.1.2.1, ⟨hk.1.2.2.1, ⟨hk.1.2.2.2.1, ⟨hk.1.2.2.2.2.1, hk.1.2.2.2.2.2⟩⟩⟩⟩⟩)⟩, ⟨by (with_reducible repeat (first | apply Kd.R_alloc | apply Kd.R_drewN | apply Kd.R_drew)); exact Kd.R_mono HO_15.out (fun _ hk => ⟨hk.1.1, ⟨hk.1.2.1, ⟨hk.1.2.2.1, ⟨hk.1.2.2.2.1, ⟨hk.1.2.2.2.2.1, hk.1.2.2.2.2.2⟩⟩⟩⟩⟩)⟩, ⟨by (with_reducible repeat (first | apply Kd.R_alloc | apply Kd.R_drewN | apply Kd.R_drew)); exact Kd.R_mono HO_17.out (fun _ hk => ⟨hk.1.1, ⟨hk.1.2.1, ⟨hk.1.2.2.1, ⟨hk.1.2.2.2.1, ⟨hk.1.2.2.2.2.1, hk.1.2.2.2.2.2⟩⟩⟩⟩⟩)⟩, ⟨mB⟩⟩
                            case rest =>
                              as_aux_lemma =>
                              clear HC61
                              try clear c1
                              try clear c2
                              try clear p2
                              try clear c3
                              try clear c4
                              try clear c5
                              try clear c6
                              try clear c13
                              try clear c13b0
                              try clear c13b1
                              try clear c15
                              try clear c17
                              try clear c26
                              try clear c26b0
                              try clear c26b1
                              try clear c30
                              try clear c31
                              try clear c32
                              try clear c33
                              try clear c35
                              try clear c36
                              try clear c37
                              try clear c38
                              try clear c39
                              try clear c39b0
                              try clear c39b1
                              try clear c40
                              try clear c41
                              try clear c42
                              try clear c43
                              try clear c44
                              try clear c53
                              try clear c53b0
                              try clear c53b1
                              try clear c57
                              try clear c64
                              try clear c64b0
                              try clear c64b1
                              try clear p2
                              obtain ⟨kq, x165_60, rfl, HA, HJ60, HO_3, HO_4, HO_5, HO_9, HO_11, HO_15, HO_17, HB⟩ := hcut
                              cases kq with
                              | zero => exact absurd HA.out (by simp [laws_FnSeries.j4])
                              | succ kj60 =>
                                have H := HA.out
                                clear HA
                                simp only [laws_FnSeries.j4] at H
                                by_cases c65 : x165_60 = true
                                · subst c65
                                  have H1 : (some false) = some r := by rw [if_pos rfl] at H; exact H
                                  clear H
                                  have H := H1
                                  clear H1
                                  obtain rfl := Option.some.inj H
                                  go_wp2
                                  go_ret
                                  exact ⟨mE, mB⟩
                                · replace c65 := Bool.eq_false_iff.mpr c65
                                  subst c65
                                  have H1 : (if t427 = 0 then ((impl_NumeratorOf.f kj60 t426 t422).bind fun bt457 => (if bt457.2 = 0 then (if 0 < (bt457.1.length : Int) then (laws_FnSeries.j5 kj60 t394 t395 t400 t401 t409 t410 t413 t414 bt457.1 ((rd bt457.1 0) != 1)) else (none)) else (laws_FnSeries.j5 kj60 t394 t395 t400 t401 t409 t410 t413 t414 bt457.1 true))) else (laws_FnSeries.j7 kj60 t394 t395 t400 t401 t409 t410 t413 t414)) = some r := by rw [if_neg (show ¬ (false = true) by decide)] at H; exact H
                                  clear H
                                  have H := H1
                                  clear H1
                                  have HC66 := Aside0.mk H
                                  clear H
                                  go_upto_if 167 with (fail)
                                  go_cut [] (fun wc => ∃ (kq : Nat), Aside0 (laws_FnSeries.j7 kq t394 t395 t400 t401 t409 t410 t413 t414 = some r) ∧ Aside0 (kq ≤ kj60) ∧ Aside0 (Kd.R (Kd.int .i64) 2 wc w.heap.size (fun k_ => some k_ ≠ ((.slice Ao10 t395.length co10) : Value).ownBlock ∧ some k_ ≠ (v402 : Value).ownBlock ∧ some k_ ≠ ((.slice Ao23 t409.length co23) : Value).ownBlock ∧ some k_ ≠ (v415 : Value).ownBlock) (.slice Ao9 t394.length co9) t394) ∧ Aside0 (Kd.R (Kd.int .i64) 2 wc w.heap.size (fun k_ => some k_ ≠ ((.slice Ao9 t394.length co9) : Value).ownBlock ∧ some k_ ≠ (v402 : Value).ownBlock ∧ some k_ ≠ ((.slice Ao23 t409.length co23) : Value).ownBlock ∧ some k_ ≠ (v415 : Value).ownBlock) (.slice Ao10 t395.length co10) t395) ∧ Aside0 (Kd.R (Kd.int .i64) 2 wc w.heap.size (fun k_ => some k_ ≠ ((.slice Ao9 t394.length co9) : Value).ownBlock ∧ some k_ ≠ ((.slice Ao10 t395.length co10) : Value).ownBlock ∧ some k_ ≠ ((.slice Ao23 t409.length co23) : Value).ownBlock ∧ some k_ ≠ (v415 : Value).ownBlock) v402 t400) ∧ Aside0 (Kd.R (Kd.int .i64) 2 wc w.heap.size (fun k_ => some k_ ≠ ((.slice Ao9 t394.length co9) : Value).ownBlock ∧ some k_ ≠ ((.slice Ao10 t395.length co10) : Value).ownBlock ∧ some k_ ≠ (v402 : Value).ownBlock ∧ some k_ ≠ (v415 : Value).ownBlock) (.slice Ao23 t409.length co23) t409) ∧ Aside0 (Kd.R (Kd.int .i64) 2 wc w.heap.size (fun k_ => some k_ ≠ ((.slice Ao9 t394.length co9) : Value).ownBlock ∧ some k_ ≠ ((.slice Ao10 t395.length co10) : Value).ownBlock ∧ some k_ ≠ (v402 : Value).ownBlock ∧ some k_ ≠ ((.slice Ao23 t409.length co23) : Value).ownBlock) v415 t413) ∧ Aside0 (Below w.heap.size w wc))
                                  case first =>
                                    have H := HC66.out
                                    clear HC66
                                    by_cases c67 : t427 = 0
                                    · rw [if_pos c67] at H
                                      have c67b0 : (t427 == 0) = true := beq_iff_eq.mpr c67
                                      have c67b1 : (t427 != 0) = false := bne_eq_false_iff_eq.mpr c67
                                      clear c67
                                      (first | rw [c67b0] | (simp only [i64_w, i32_w]; rw [c67b0]) | skip)
                                      replace H := Option.bind_eq_some_iff.mp H
                                      obtain ⟨⟨t457, t458⟩, A680, H⟩ := H
                                      replace H : (if t458 = 0 then (if 0 < (t457.length : Int) then (laws_FnSeries.j5 kj60 t394 t395 t400 t401 t409 t410 t413 t414 t457 ((rd t457 0) != 1)) else (none)) else (laws_FnSeries.j5 kj60 t394 t395 t400 t401 t409 t410 t413 t414 t457 true)) = some r := H
                                      have A68 := Aside0.mk A680
                                      clear A680
                                      have HC69 := Aside0.mk H
                                      clear H
                                      obtain ⟨Ao70, co70, eo70⟩ := Kd.R_slice HO_17.out
                                      subst eo70
                                      go_upto_region 30 with (first | ((with_reducible refine gate_callee (f := 17) rfl ?_); refine goL (some 171) Try.func17 #[.slice Ao70 t426.length co70, .slice Ao36 t422.length co36] (h := ?_); (with_reducible refine (impl_NumeratorOf.calls kj60 _ _ t426 _ _ t422 t457 t458 _ ?side1 ?side2 ?side3 ?side4 A68.out).mono ?_); (case side1 => repeat (first | exact (Kd.R_reads' HO_17.out).2.2 | (with_reducible refine Kd.C_alloc ?_ _) | (with_reducible refine Kd.C_drewN ?_ _) | (with_reducible refine Kd.C_drew ?_))); (case side2 => exact (Kd.R_reads' HO_17.out).2.1); (case side3 => repeat (first | exact (Kd.R_reads' HO_15.out).2.2 | (with_reducible refine Kd.C_alloc ?_ _) | (with_reducible refine Kd.C_drewN ?_ _) | (with_reducible refine Kd.C_drew ?_))); (case side4 => exact (Kd.R_reads' HO_15.out).2.1); rintro e w71 ⟨v459, rfl, ho0, hb⟩; refine ⟨_, rfl, ?_⟩; have n0_ := Aside0.mk (Kd.R_elder' (mR HO_3.out) (Kd.R_base ho0) hb); have n1_ := Aside0.mk (Kd.R_elder' (mR HO_4.out) (Kd.R_base ho0) hb); have n2_ := Aside0.mk (Kd.R_elder' (mR HO_5.out) (Kd.R_base ho0) hb); have n3_ := Aside0.mk (Kd.R_elder' (mR HO_9.out) (Kd.R_base ho0) hb); have n4_ := Aside0.mk (Kd.R_elder' (mR HO_11.out) (Kd.R_base ho0) hb); have n5_ := Aside0.mk (Kd.R_elder' (mR HO_15.out) (Kd.R_base ho0) hb); have n6_ := Aside0.mk (Kd.R_elder' (mR HO_17.out) (Kd.R_base ho0) hb); have n7_ := Aside0.mk (Kd.R_lower (Kd.R_new' (Kd.R_new' (Kd.R_new' (Kd.R_new' (Kd.R_new' (Kd.R_new' (Kd.R_new' ho0 (Kd.R_lt (mR HO_3.out))) (Kd.R_lt (mR HO_4.out))) (Kd.R_lt (mR HO_5.out))) (Kd.R_lt (mR HO_9.out))) (Kd.R_lt (mR HO_11.out))) (Kd.R_lt (mR HO_15.out))) (Kd.R_lt (mR HO_17.out))) (below_size mB)); have n8_ := Aside0.mk (below_step mB hb); clear HO_3; clear HO_4; clear HO_5; clear HO_9; clear HO_11; clear HO_15; clear HO_17; clear HB; have HO_3 := n0_; have HO_4 := n1_; have HO_5 := n2_; have HO_9 := n3_; have HO_11 := n4_; have HO_15 := n5_; have HO_17 := n6_; have HO460 := n7_; have HB := n8_; clear n0_ n1_ n2_ n3_ n4_ n5_ n6_ n7_ n8_; (try clear hb); (try clear hb2); (try clear hk); (try clear hi); (try clear ho0)))
                                      (try simp only [Act.put, List.setIfInBounds_toArray, List.set_cons_zero, List.set_cons_succ])
                                      go_cut [181] (fun v181 wc => ∃ (kq : Nat) (x181_68 : Bool), v181 = .bool x181_68 ∧ Aside0 (laws_FnSeries.j5 kq t394 t395 t400 t401 t409 t410 t413 t414 t457 x181_68 = some r) ∧ Aside0 (kq ≤ kj60) ∧ Aside0 (Kd.R (Kd.int .i64) 2 wc w.heap.size (fun k_ => some k_ ≠ ((.slice Ao10 t395.length co10) : Value).ownBlock ∧ some k_ ≠ (v402 : Value).ownBlock ∧ some k_ ≠ ((.slice Ao23 t409.length co23) : Value).ownBlock ∧ some k_ ≠ (v415 : Value).ownBlock ∧ some k_ ≠ (v459 : Value).ownBlock) (.slice Ao9 t394.length co9) t394) ∧ Aside0 (Kd.R (Kd.int .i64) 2 wc w.heap.size (fun k_ => some k_ ≠ ((.slice Ao9 t394.length co9) : Value).ownBlock ∧ some k_ ≠ (v402 : Value).ownBlock ∧ some k_ ≠ ((.slice Ao23 t409.length co23) : Value).ownBlock ∧ some k_ ≠ (v415 : Value).ownBlock ∧ some k_ ≠ (v459 : Value).ownBlock) (.slice Ao10 t395.length co10) t395) ∧ Aside0 (Kd.R (Kd.int .i64) 2 wc w.heap.size (fun k_ => some k_ ≠ ((.slice Ao9 t394.length co9) : Value).ownBlock ∧ some k_ ≠ ((.slice Ao10 t395.length co10) : Value).ownBlock ∧ some k_ ≠ ((.slice Ao23 t409.length co23) : Value).ownBlock ∧ some k_ ≠ (v415 : Value).ownBlock ∧ some k_ ≠ (v459 : Value).ownBlock) v402 t400) ∧ Aside0 (Kd.R (Kd.int .i64) 2 wc w.heap.size (fun k_ => some k_ ≠ ((.slice Ao9 t394.length co9) : Value).ownBlock ∧ some k_ ≠ ((.slice Ao10 t395.length co10) : Value).ownBlock ∧ some k_ ≠ (v402 : Value).ownBlock ∧ some k_ ≠ (v415 : Value).ownBlock ∧ some k_ ≠ (v459 : Value).ownBlock) (.slice Ao23 t409.length co23) t409) ∧ Aside0 (Kd.R (Kd.int .i64) 2 wc w.heap.size (fun k_ => some k_ ≠ ((.slice Ao9 t394.length co9) : Value).ownBlock ∧ some k_ ≠ ((.slice Ao10 t395.length co10) : Value).ownBlock ∧ some k_ ≠ (v402 : Value).ownBlock ∧ some k_ ≠ ((.slice Ao23 t409.length co23) : Value).ownBlock ∧ some k_ ≠ (v459 : Value).ownBlock) v415 t413) ∧ Aside0 (Kd.R (Kd.int .i64) 2 wc w.heap.size (fun k_ => some k_ ≠ ((.slice Ao9 t394.length co9) : Value).ownBlock ∧ some k_ ≠ ((.slice Ao10 t395.length co10) : Value).ownBlock ∧ some k_ ≠ (v402 : Value).ownBlock ∧ some k_ ≠ ((.slice Ao23 t409.length co23) : Value).ownBlock ∧ some k_ ≠ (v415 : Value).ownBlock) v459 t457) ∧ Aside0 (Below w.heap.size w wc))
                                      case first =>
                                        have H := HC69.out
                                        clear HC69
                                        by_cases c72 : t458 = 0
                                        · rw [if_pos c72] at H
                                          have c72b0 : (t458 == 0) = true := beq_iff_eq.mpr c72
                                          have c72b1 : (t458 != 0) = false := bne_eq_false_iff_eq.mpr c72
                                          clear c72
                                          (first | rw [c72b0] | (simp only [i64_w, i32_w]; rw [c72b0]) | skip)
                                          by_cases c73 : 0 < (t457.length : Int)
                                          · rw [if_pos c73] at H
                                            have c73b0 : decide (0 < (t457.length : Int)) = true := decide_eq_true c73
                                            have c73b1 : decide (0 < t457.length) = true := decide_eq_true (by omega)
                                            clear c73
                                            have H' := Aside0.mk H
                                            clear H
                                            obtain ⟨Ao74, co74, eo74⟩ := Kd.R_slice HO460.out
                                            subst eo74
                                            have p461 : 0 ≤ (0 : Int) := (by omega)
                                            have q461 : 0 < (t457.length : Int) := of_decide_eq_true mS
                                            obtain ⟨ad461, e461, hx461_0⟩ := Kd.at_int (Kd.R_reads' HO460.out).2.2 0 p461 q461
                                            cases e461
                                            have qi461 : (0 < t457.length) = True := eq_true (by omega)
                                            (try rw [show ((0 : Int)).toNat = 0 from rfl] at hx461_0)
                                            (try rw [Addr.add_zero'] at hx461_0)
                                            replace p461 := eq_true p461
                                            replace q461 := eq_true q461
                                            go_wp2
                                            go_meet
                                            case rel => exact ⟨_, (((rd t457 0) != 1)), mF, H', ⟨by have := HJ6.out; have := HJ20.out; have := HJ33.out; have := HJ46.out; have := HJ60.out; first | omega | exact Nat.le_refl _⟩, ⟨by (with_reducible repeat (first | apply Kd.R_alloc | apply Kd.R_drewN | apply Kd.R_drew)); exact Kd.R_mono HO_3.out (fun _ hk => ⟨hk.1.1, ⟨hk.1.2.1, ⟨hk.1.2.2.1, ⟨hk.1.2.2.2.1, hk.2⟩⟩⟩⟩)⟩, ⟨by (with_reducible repeat (first | apply Kd.R_alloc | apply Kd.R_drewN | apply Kd.R_drew)); exact Kd.R_mono HO_4.out (fun _ hk => ⟨hk.1.1, ⟨hk.1.2.1, ⟨hk.1.2.2.1, ⟨hk.1.2.2.2.1, hk.2⟩⟩⟩⟩)⟩, ⟨by (with_reducible repeat (first | apply Kd.R_alloc | apply Kd.R_drewN | apply Kd.R_drew)); exact Kd.R_mono HO_5.out (fun _ hk => ⟨hk.1.1, ⟨hk.1.2.1, ⟨hk.1.2.2.1, ⟨hk.1.2.2.2.1, hk.2⟩⟩⟩⟩)⟩, ⟨by (with_reducible repeat (first | apply Kd.R_alloc | apply Kd.R_drewN | apply Kd.R_drew)); exact Kd.R_mono HO_9.out (fun _ hk => ⟨hk.1.1, ⟨hk.1.2.1, ⟨hk.1.2.2.1, ⟨hk.1.2.2.2.1, hk.2⟩⟩⟩⟩)⟩, ⟨by (with_reducible repeat (first | apply Kd.R_alloc | apply Kd.R_drewN | apply Kd.R_drew)); exact Kd.R_mono HO_11.out (fun _ hk => ⟨hk.1.1, ⟨hk.1.2.1, ⟨hk.1.2.2.1, ⟨hk.1.2.2.2.1, hk.2⟩⟩⟩⟩)⟩, ⟨by (with_reducible repeat (first | apply Kd.R_alloc | apply Kd.R_drewN | apply Kd.R_drew)); exact Kd.R_mono HO460.out (fun _ hk => ⟨hk.1.1.1.1.1.1.2, ⟨hk.1.1.1.1.1.2, ⟨hk.1.1.1.1.2, ⟨hk.1.1.1.2, hk.1.1.2⟩⟩⟩⟩)⟩, ⟨mB⟩⟩
                                          · rw [if_neg c73] at H
                                            exact absurd H (by simp)
                                        · rw [if_neg c72] at H
                                          have c72b0 : (t458 == 0) = false := beq_eq_false_iff_ne.mpr c72
                                          have c72b1 : (t458 != 0) = true := bne_iff_ne.mpr c72
                                          (first | rw [c72b0] | (simp only [i64_w, i32_w]; rw [c72b0]) | skip)
                                          have H' := Aside0.mk H
                                          clear H
                                          go_wp2
                                          go_meet
                                          case rel => exact ⟨_, (true), mF, H', ⟨by have := HJ6.out; have := HJ20.out; have := HJ33.out; have := HJ46.out; have := HJ60.out; first | omega | exact Nat.le_refl _⟩, ⟨by (with_reducible repeat (first | apply Kd.R_alloc | apply Kd.R_drewN | apply Kd.R_drew)); exact Kd.R_mono HO_3.out (fun _ hk => ⟨hk.1.1, ⟨hk.1.2.1, ⟨hk.1.2.2.1, ⟨hk.1.2.2.2.1, hk.2⟩⟩⟩⟩)⟩, ⟨by (with_reducible repeat (first | apply Kd.R_alloc | apply Kd.R_drewN | apply Kd.R_drew)); exact Kd.R_mono HO_4.out (fun _ hk => ⟨hk.1.1, ⟨hk.1.2.1, ⟨hk.1.2.2.1, ⟨hk.1.2.2.2.1, hk.2⟩⟩⟩⟩)⟩, ⟨by (with_reducible repeat (first | apply Kd.R_alloc | apply Kd.R_drewN | apply Kd.R_drew)); exact Kd.R_mono HO_5.out (fun _ hk => ⟨hk.1.1, ⟨hk.1.2.1, ⟨hk.1.2.2.1, ⟨hk.1.2.2.2.1, hk.2⟩⟩⟩⟩)⟩, ⟨by (with_reducible repeat (first | apply Kd.R_alloc | apply Kd.R_drewN | apply Kd.R_drew)); exact Kd.R_mono HO_9.out (fun _ hk => ⟨hk.1.1, ⟨hk.1.2.1, ⟨hk.1.2.2.1, ⟨hk.1.2.2.2.1, hk.2⟩⟩⟩⟩)⟩, ⟨by (with_reducible repeat (first | apply Kd.R_alloc | apply Kd.R_drewN | apply Kd.R_drew)); exact Kd.R_mono HO_11.out (fun _ hk => ⟨hk.1.1, ⟨hk.1.2.1, ⟨hk.1.2.2.1, ⟨hk.1.2.2.2.1, hk.2⟩⟩⟩⟩)⟩, ⟨by (with_reducible repeat (first | apply Kd.R_alloc | apply Kd.R_drewN | apply Kd.R_drew)); exact Kd.R_mono HO460.out (fun _ hk => ⟨hk.1.1.1.1.1.1.2, ⟨hk.1.1.1.1.1.2, ⟨hk.1.1.1.1.2, ⟨hk.1.1.1.2, hk.1.1.2⟩⟩⟩⟩)⟩, ⟨mB⟩⟩
                                      case rest =>
                                        as_aux_lemma =>
                                        clear HC69
                                        try clear c1
                                        try clear c2
                                        try clear p2
                                        try clear c3
                                        try clear c4
                                        try clear p4
                                        try clear q4
                                        try clear hx4
                                        try clear qi4
                                        try clear c5
                                        try clear c6
                                        try clear c7
                                        try clear c13
                                        try clear c13b0
                                        try clear c13b1
                                        try clear c15
                                        try clear c17
                                        try clear c26
                                        try clear c26b0
                                        try clear c26b1
                                        try clear c30
                                        try clear c31
                                        try clear c32
                                        try clear c33
                                        try clear c35
                                        try clear c36
                                        try clear c37
                                        try clear c38
                                        try clear c39
                                        try clear c39b0
                                        try clear c39b1
                                        try clear c40
                                        try clear c41
                                        try clear c42
                                        try clear c43
                                        try clear c44
                                        try clear p46
                                        try clear q46
                                        try clear hx46
                                        try clear qi46
                                        try clear c53
                                        try clear c53b0
                                        try clear c53b1
                                        try clear c57
                                        try clear c64
                                        try clear c64b0
                                        try clear c64b1
                                        try clear c65
                                        try clear c67
                                        try clear c67b0
                                        try clear c67b1
                                        try clear c72
                                        try clear c72b0
                                        try clear c72b1
                                        try clear c73
                                        try clear c73b0
                                        try clear c73b1
                                        try clear hx461_0
                                        try clear p2
                                        try clear p461
                                        try clear q461
                                        obtain ⟨kq, x181_68, rfl, HA, HJ68, HO_3, HO_4, HO_5, HO_9, HO_11, HO_32, HB⟩ := hcut
                                        cases kq with
                                        | zero => exact absurd HA.out (by simp [laws_FnSeries.j5])
                                        | succ kj68 =>
                                          have H := HA.out
                                          clear HA
                                          simp only [laws_FnSeries.j5] at H
                                          by_cases c75 : x181_68 = true
                                          · subst c75
                                            have H1 : (some false) = some r := by rw [if_pos rfl] at H; exact H
                                            clear H
                                            have H := H1
                                            clear H1
                                            obtain rfl := Option.some.inj H
                                            go_wp2
                                            go_ret
                                            exact ⟨mE, mB⟩
                                          · replace c75 := Bool.eq_false_iff.mpr c75
                                            subst c75
                                            have H1 : (laws_FnSeries.l0 kj68 t394 t395 t400 t401 t409 t410 t413 t414 t457 1) = some r := by rw [if_neg (show ¬ (false = true) by decide)] at H; exact H
                                            clear H
                                            have H := H1
                                            clear H1
                                            have H' := Aside0.mk H
                                            clear H
                                            go_wp2
                                            go_loopg [34] kj68 (fun kq v34 w' => ∃ (x34_7 : Int), v34 = .int .i64 x34_7 ∧ Aside0 (laws_FnSeries.l0 kq t394 t395 t400 t401 t409 t410 t413 t414 t457 x34_7 = some r) ∧ Aside0 (kq ≤ kj68) ∧ Aside0 (Kd.R (Kd.int .i64) 2 w' w.heap.size (fun k_ => some k_ ≠ ((.slice Ao10 t395.length co10) : Value).ownBlock ∧ some k_ ≠ (v402 : Value).ownBlock ∧ some k_ ≠ ((.slice Ao23 t409.length co23) : Value).ownBlock ∧ some k_ ≠ (v415 : Value).ownBlock ∧ some k_ ≠ (v459 : Value).ownBlock) (.slice Ao9 t394.length co9) t394) ∧ Aside0 (Kd.R (Kd.int .i64) 2 w' w.heap.size (fun k_ => some k_ ≠ ((.slice Ao9 t394.length co9) : Value).ownBlock ∧ some k_ ≠ (v402 : Value).ownBlock ∧ some k_ ≠ ((.slice Ao23 t409.length co23) : Value).ownBlock ∧ some k_ ≠ (v415 : Value).ownBlock ∧ some k_ ≠ (v459 : Value).ownBlock) (.slice Ao10 t395.length co10) t395) ∧ Aside0 (Kd.R (Kd.int .i64) 2 w' w.heap.size (fun k_ => some k_ ≠ ((.slice Ao9 t394.length co9) : Value).ownBlock ∧ some k_ ≠ ((.slice Ao10 t395.length co10) : Value).ownBlock ∧ some k_ ≠ ((.slice Ao23 t409.length co23) : Value).ownBlock ∧ some k_ ≠ (v415 : Value).ownBlock ∧ some k_ ≠ (v459 : Value).ownBlock) v402 t400) ∧ Aside0 (Kd.R (Kd.int .i64) 2 w' w.heap.size (fun k_ => some k_ ≠ ((.slice Ao9 t394.length co9) : Value).ownBlock ∧ some k_ ≠ ((.slice Ao10 t395.length co10) : Value).ownBlock ∧ some k_ ≠ (v402 : Value).ownBlock ∧ some k_ ≠ (v415 : Value).ownBlock ∧ some k_ ≠ (v459 : Value).ownBlock) (.slice Ao23 t409.length co23) t409) ∧ Aside0 (Kd.R (Kd.int .i64) 2 w' w.heap.size (fun k_ => some k_ ≠ ((.slice Ao9 t394.length co9) : Value).ownBlock ∧ some k_ ≠ ((.slice Ao10 t395.length co10) : Value).ownBlock ∧ some k_ ≠ (v402 : Value).ownBlock ∧ some k_ ≠ ((.slice Ao23 t409.length co23) : Value).ownBlock ∧ some k_ ≠ (v459 : Value).ownBlock) v415 t413) ∧ Aside0 (Kd.R (Kd.int .i64) 2 w' w.heap.size (fun k_ => some k_ ≠ ((.slice Ao9 t394.length co9) : Value).ownBlock ∧ some k_ ≠ ((.slice Ao10 t395.length co10) : Value).ownBlock ∧ some k_ ≠ (v402 : Value).ownBlock ∧ some k_ ≠ ((.slice Ao23 t409.length co23) : Value).ownBlock ∧ some k_ ≠ (v415 : Value).ownBlock) v459 t457) ∧ Aside0 (Below w.heap.size w w'))
                                            case atStart => exact ⟨(1), mF, H', ⟨Nat.le_refl _⟩, ⟨mR HO_3.out⟩, ⟨mR HO_4.out⟩, ⟨mR HO_5.out⟩, ⟨mR HO_9.out⟩, ⟨mR HO_11.out⟩, ⟨mR HO_32.out⟩, ⟨mB⟩⟩
                                            case round =>
                                              clear H'
                                              try clear c1
                                              try clear c2
                                              try clear p2
                                              try clear c3
                                              try clear c4
                                              try clear p4
                                              try clear q4
                                              try clear hx4
                                              try clear qi4
                                              try clear c5
                                              try clear c6
                                              try clear c7
                                              try clear c13
                                              try clear c13b0
                                              try clear c13b1
                                              try clear c15
                                              try clear c17
                                              try clear c26
                                              try clear c26b0
                                              try clear c26b1
                                              try clear c30
                                              try clear c31
                                              try clear c32
                                              try clear c33
                                              try clear c35
                                              try clear c36
                                              try clear c37
                                              try clear c38
                                              try clear c39
                                              try clear c39b0
                                              try clear c39b1
                                              try clear c40
                                              try clear c41
                                              try clear c42
                                              try clear c43
                                              try clear c44
                                              try clear p46
                                              try clear q46
                                              try clear hx46
                                              try clear qi46
                                              try clear c53
                                              try clear c53b0
                                              try clear c53b1
                                              try clear c57
                                              try clear c64
                                              try clear c64b0
                                              try clear c64b1
                                              try clear c65
                                              try clear c67
                                              try clear c67b0
                                              try clear c67b1
                                              try clear c72
                                              try clear c72b0
                                              try clear c72b1
                                              try clear c73
                                              try clear c73b0
                                              try clear c73b1
                                              try clear c75
                                              try clear hx461_0
                                              try clear p2
                                              try clear p4
                                              try clear p46
                                              try clear p461
                                              try clear q4
                                              try clear q46
                                              try clear q461
                                              obtain ⟨x34_7, rfl, HA, HK7, HO_3, HO_4, HO_5, HO_9, HO_11, HO_32, HB⟩ := hrel
                                              cases gk with
                                              | zero => exact absurd HA.out (by simp [laws_FnSeries.l0])
                                              | succ k7 =>
                                                have H := HA.out
                                                clear HA
                                                simp only [laws_FnSeries.l0] at H
                                                by_cases c76 : x34_7 < (t457.length : Int)
                                                · rw [if_pos c76] at H
                                                  have c76b0 : decide (x34_7 < (t457.length : Int)) = true := decide_eq_true c76
                                                  clear c76
                                                  by_cases c77 : 0 ≤ x34_7
                                                  · rw [if_pos c77] at H
                                                    have c77b0 : decide (0 ≤ x34_7) = true := decide_eq_true c77
                                                    clear c77
                                                    by_cases c78 : (rd t457 x34_7) = 0
                                                    · rw [if_pos c78] at H
                                                      have c78b0 : ((rd t457 x34_7) == 0) = true := beq_iff_eq.mpr c78
                                                      have c78b1 : ((rd t457 x34_7) != 0) = false := bne_eq_false_iff_eq.mpr c78
                                                      clear c78
                                                      have H' := Aside0.mk H
                                                      clear H
                                                      obtain ⟨Ao79, co79, eo79⟩ := Kd.R_slice HO_32.out
                                                      subst eo79
                                                      have p462 : 0 ≤ (x34_7 : Int) := of_decide_eq_true mS
                                                      have q462 : x34_7 < (t457.length : Int) := of_decide_eq_true mS
                                                      obtain ⟨ad462, e462, hx462_0⟩ := Kd.at_int (Kd.R_reads' HO_32.out).2.2 x34_7 p462 q462
                                                      cases e462
                                                      replace p462 := eq_true p462
                                                      replace q462 := eq_true q462
                                                      go_wp2
                                                      go_roundg k7
                                                      case measure => have := HJ6.out; have := HJ20.out; have := HJ33.out; have := HJ46.out; have := HJ60.out; have := HJ68.out; have := HK7.out; omega
                                                      case rel => exact ⟨(wrap64 (x34_7 + 1)), mF, H', ⟨by have := HJ6.out; have := HJ20.out; have := HJ33.out; have := HJ46.out; have := HJ60.out; have := HJ68.out; have := HK7.out; omega⟩, ⟨mR HO_3.out⟩, ⟨mR HO_4.out⟩, ⟨mR HO_5.out⟩, ⟨mR HO_9.out⟩, ⟨mR HO_11.out⟩, ⟨mR HO_32.out⟩, ⟨mB⟩⟩
                                                    · rw [if_neg c78] at H
                                                      have c78b0 : ((rd t457 x34_7) == 0) = false := beq_eq_false_iff_ne.mpr c78
                                                      have c78b1 : ((rd t457 x34_7) != 0) = true := bne_iff_ne.mpr c78
                                                      obtain rfl := Option.some.inj H
                                                      obtain ⟨Ao80, co80, eo80⟩ := Kd.R_slice HO_32.out
                                                      subst eo80
                                                      have p462 : 0 ≤ (x34_7 : Int) := of_decide_eq_true mS
                                                      have q462 : x34_7 < (t457.length : Int) := of_decide_eq_true mS
                                                      obtain ⟨ad462, e462, hx462_0⟩ := Kd.at_int (Kd.R_reads' HO_32.out).2.2 x34_7 p462 q462
                                                      cases e462
                                                      replace p462 := eq_true p462
                                                      replace q462 := eq_true q462
                                                      go_wp2
                                                      go_ret
                                                      exact ⟨mE, mB⟩
                                                  · rw [if_neg c77] at H
                                                    exact absurd H (by simp)
                                                · rw [if_neg c76] at H
                                                  have c76b0 : decide (x34_7 < (t457.length : Int)) = false := decide_eq_false c76
                                                  clear c76
                                                  have H' := Aside0.mk H
                                                  clear H
                                                  obtain ⟨Ao81, co81, eo81⟩ := Kd.R_slice HO_32.out
                                                  subst eo81
                                                  go_wp2
                                                  go_meet
                                                  case rel => exact ⟨_, H', ⟨by have := HJ6.out; have := HJ20.out; have := HJ33.out; have := HJ46.out; have := HJ60.out; have := HJ68.out; have := HK7.out; first | omega | exact Nat.le_refl _⟩, ⟨by (with_reducible repeat (first | apply Kd.R_alloc | apply Kd.R_drewN | apply Kd.R_drew)); exact Kd.R_mono HO_3.out (fun _ hk => ⟨hk.1, ⟨hk.2.1, ⟨hk.2.2.1, hk.2.2.2.1⟩⟩⟩)⟩, ⟨by (with_reducible repeat (first | apply Kd.R_alloc | apply Kd.R_drewN | apply Kd.R_drew)); exact Kd.R_mono HO_4.out (fun _ hk => ⟨hk.1, ⟨hk.2.1, ⟨hk.2.2.1, hk.2.2.2.1⟩⟩⟩)⟩, ⟨by (with_reducible repeat (first | apply Kd.R_alloc | apply Kd.R_drewN | apply Kd.R_drew)); exact Kd.R_mono HO_5.out (fun _ hk => ⟨hk.1, ⟨hk.2.1, ⟨hk.2.2.1, hk.2.2.2.1⟩⟩⟩)⟩, ⟨by (with_reducible repeat (first | apply Kd.R_alloc | apply Kd.R_drewN | apply Kd.R_drew)); exact Kd.R_mono HO_9.out (fun _ hk => ⟨hk.1, ⟨hk.2.1, ⟨hk.2.2.1, hk.2.2.2.1⟩⟩⟩)⟩, ⟨by (with_reducible repeat (first | apply Kd.R_alloc | apply Kd.R_drewN | apply Kd.R_drew)); exact Kd.R_mono HO_11.out (fun _ hk => ⟨hk.1, ⟨hk.2.1, ⟨hk.2.2.1, hk.2.2.2.1⟩⟩⟩)⟩, ⟨mB⟩⟩
                                    · rw [if_neg c67] at H
                                      have c67b0 : (t427 == 0) = false := beq_eq_false_iff_ne.mpr c67
                                      have c67b1 : (t427 != 0) = true := bne_iff_ne.mpr c67
                                      (first | rw [c67b0] | (simp only [i64_w, i32_w]; rw [c67b0]) | skip)
                                      have H' := Aside0.mk H
                                      clear H
                                      go_wp2
                                      go_meet
                                      case rel => exact ⟨_, H', ⟨by have := HJ6.out; have := HJ20.out; have := HJ33.out; have := HJ46.out; have := HJ60.out; first | omega | exact Nat.le_refl _⟩, ⟨by (with_reducible repeat (first | apply Kd.R_alloc | apply Kd.R_drewN | apply Kd.R_drew)); exact Kd.R_mono HO_3.out (fun _ hk => ⟨hk.1, ⟨hk.2.1, ⟨hk.2.2.1, hk.2.2.2.1⟩⟩⟩)⟩, ⟨by (with_reducible repeat (first | apply Kd.R_alloc | apply Kd.R_drewN | apply Kd.R_drew)); exact Kd.R_mono HO_4.out (fun _ hk => ⟨hk.1, ⟨hk.2.1, ⟨hk.2.2.1, hk.2.2.2.1⟩⟩⟩)⟩, ⟨by (with_reducible repeat (first | apply Kd.R_alloc | apply Kd.R_drewN | apply Kd.R_drew)); exact Kd.R_mono HO_5.out (fun _ hk => ⟨hk.1, ⟨hk.2.1, ⟨hk.2.2.1, hk.2.2.2.1⟩⟩⟩)⟩, ⟨by (with_reducible repeat (first | apply Kd.R_alloc | apply Kd.R_drewN | apply Kd.R_drew)); exact Kd.R_mono HO_9.out (fun _ hk => ⟨hk.1, ⟨hk.2.1, ⟨hk.2.2.1, hk.2.2.2.1⟩⟩⟩)⟩, ⟨by (with_reducible repeat (first | apply Kd.R_alloc | apply Kd.R_drewN | apply Kd.R_drew)); exact Kd.R_mono HO_11.out (fun _ hk => ⟨hk.1, ⟨hk.2.1, ⟨hk.2.2.1, hk.2.2.2.1⟩⟩⟩)⟩, ⟨mB⟩⟩
                                  case rest =>
                                    as_aux_lemma =>
                                    clear HC66
                                    try clear c1
                                    try clear c2
                                    try clear p2
                                    try clear c3
                                    try clear c4
                                    try clear p4
                                    try clear q4
                                    try clear hx4
                                    try clear qi4
                                    try clear c5
                                    try clear c6
                                    try clear p6
                                    try clear c7
                                    try clear c13
                                    try clear c13b0
                                    try clear c13b1
                                    try clear c15
                                    try clear c17
                                    try clear c26
                                    try clear c26b0
                                    try clear c26b1
                                    try clear c30
                                    try clear c31
                                    try clear c32
                                    try clear c33
                                    try clear c35
                                    try clear c36
                                    try clear c37
                                    try clear c38
                                    try clear c39
                                    try clear c39b0
                                    try clear c39b1
                                    try clear c40
                                    try clear c41
                                    try clear c42
                                    try clear c43
                                    try clear c44
                                    try clear p46
                                    try clear q46
                                    try clear hx46
                                    try clear qi46
                                    try clear c53
                                    try clear c53b0
                                    try clear c53b1
                                    try clear c57
                                    try clear c64
                                    try clear c64b0
                                    try clear c64b1
                                    try clear p64
                                    try clear c65
                                    try clear c67
                                    try clear c67b0
                                    try clear c67b1
                                    try clear c72
                                    try clear c72b0
                                    try clear c72b1
                                    try clear c73
                                    try clear c73b0
                                    try clear c73b1
                                    try clear c75
                                    try clear c76
                                    try clear c76b0
                                    try clear c77
                                    try clear c77b0
                                    try clear c78
                                    try clear c78b0
                                    try clear c78b1
                                    try clear hx461_0
                                    try clear hx462_0
                                    try clear p2
                                    try clear p4
                                    try clear p46
                                    try clear p461
                                    try clear p462
                                    try clear q4
                                    try clear q46
                                    try clear q461
                                    try clear q462
                                    obtain ⟨kq, HA, HJ65, HO_3, HO_4, HO_5, HO_9, HO_11, HB⟩ := hcut
                                    cases kq with
                                    | zero => exact absurd HA.out (by simp [laws_FnSeries.j7])
                                    | succ kj65 =>
                                      have H := HA.out
                                      clear HA
                                      simp only [laws_FnSeries.j7] at H
                                      have HC82 := Aside0.mk H
                                      clear H
                                      go_upto_region 37 with (fail)
                                      go_cut [200] (fun v200 wc => ∃ (kq : Nat) (x200_81 : Bool), v200 = .bool x200_81 ∧ Aside0 (laws_FnSeries.j8 kq t394 t395 t400 t401 t409 t410 t413 x200_81 = some r) ∧ Aside0 (kq ≤ kj65) ∧ Aside0 (Kd.R (Kd.int .i64) 2 wc w.heap.size (fun k_ => some k_ ≠ ((.slice Ao10 t395.length co10) : Value).ownBlock ∧ some k_ ≠ (v402 : Value).ownBlock ∧ some k_ ≠ ((.slice Ao23 t409.length co23) : Value).ownBlock ∧ some k_ ≠ (v415 : Value).ownBlock) (.slice Ao9 t394.length co9) t394) ∧ Aside0 (Kd.R (Kd.int .i64) 2 wc w.heap.size (fun k_ => some k_ ≠ ((.slice Ao9 t394.length co9) : Value).ownBlock ∧ some k_ ≠ (v402 : Value).ownBlock ∧ some k_ ≠ ((.slice Ao23 t409.length co23) : Value).ownBlock ∧ some k_ ≠ (v415 : Value).ownBlock) (.slice Ao10 t395.length co10) t395) ∧ Aside0 (Kd.R (Kd.int .i64) 2 wc w.heap.size (fun k_ => some k_ ≠ ((.slice Ao9 t394.length co9) : Value).ownBlock ∧ some k_ ≠ ((.slice Ao10 t395.length co10) : Value).ownBlock ∧ some k_ ≠ ((.slice Ao23 t409.length co23) : Value).ownBlock ∧ some k_ ≠ (v415 : Value).ownBlock) v402 t400) ∧ Aside0 (Kd.R (Kd.int .i64) 2 wc w.heap.size (fun k_ => some k_ ≠ ((.slice Ao9 t394.length co9) : Value).ownBlock ∧ some k_ ≠ ((.slice Ao10 t395.length co10) : Value).ownBlock ∧ some k_ ≠ (v402 : Value).ownBlock ∧ some k_ ≠ (v415 : Value).ownBlock) (.slice Ao23 t409.length co23) t409) ∧ Aside0 (Kd.R (Kd.int .i64) 2 wc w.heap.size (fun k_ => some k_ ≠ ((.slice Ao9 t394.length co9) : Value).ownBlock ∧ some k_ ≠ ((.slice Ao10 t395.length co10) : Value).ownBlock ∧ some k_ ≠ (v402 : Value).ownBlock ∧ some k_ ≠ ((.slice Ao23 t409.length co23) : Value).ownBlock) v415 t413) ∧ Aside0 (Below w.heap.size w wc))
                                      case first =>
                                        have H := HC82.out
                                        clear HC82
                                        by_cases c83 : t414 = 0
                                        · rw [if_pos c83] at H
                                          have c83b0 : (t414 == 0) = true := beq_iff_eq.mpr c83
                                          have c83b1 : (t414 != 0) = false := bne_eq_false_iff_eq.mpr c83
                                          clear c83
                                          (first | rw [c83b0] | (simp only [i64_w, i32_w]; rw [c83b0]) | skip)
                                          have H' := Aside0.mk H
                                          clear H
                                          go_wp2
                                          go_meet
                                          case rel => exact ⟨_, (decide (t410 < (t409.length : Int))), mF, H', ⟨by have := HJ6.out; have := HJ20.out; have := HJ33.out; have := HJ46.out; have := HJ60.out; have := HJ65.out; first | omega | exact Nat.le_refl _⟩, ⟨mR HO_3.out⟩, ⟨mR HO_4.out⟩, ⟨mR HO_5.out⟩, ⟨mR HO_9.out⟩, ⟨mR HO_11.out⟩, ⟨mB⟩⟩
                                        · rw [if_neg c83] at H
                                          have c83b0 : (t414 == 0) = false := beq_eq_false_iff_ne.mpr c83
                                          have c83b1 : (t414 != 0) = true := bne_iff_ne.mpr c83
                                          (first | rw [c83b0] | (simp only [i64_w, i32_w]; rw [c83b0]) | skip)
                                          have H' := Aside0.mk H
                                          clear H
                                          go_wp2
                                          go_meet
                                          case rel => exact ⟨_, (false), mF, H', ⟨by have := HJ6.out; have := HJ20.out; have := HJ33.out; have := HJ46.out; have := HJ60.out; have := HJ65.out; first | omega | exact Nat.le_refl _⟩, ⟨mR HO_3.out⟩, ⟨mR HO_4.out⟩, ⟨mR HO_5.out⟩, ⟨mR HO_9.out⟩, ⟨mR HO_11.out⟩, ⟨mB⟩⟩
                                      case rest =>
                                        as_aux_lemma =>
                                        clear HC82
                                        try clear c1
                                        try clear c2
                                        try clear p2
                                        try clear c3
                                        try clear c4
                                        try clear p4
                                        try clear q4
                                        try clear hx4
                                        try clear qi4
                                        try clear c5
                                        try clear c6
                                        try clear p6
                                        try clear c7
                                        try clear c8
                                        try clear c13
                                        try clear c13b0
                                        try clear c13b1
                                        try clear c15
                                        try clear c17
                                        try clear c26
                                        try clear c26b0
                                        try clear c26b1
                                        try clear c30
                                        try clear c31
                                        try clear c32
                                        try clear c33
                                        try clear c35
                                        try clear c36
                                        try clear c37
                                        try clear c38
                                        try clear c39
                                        try clear c39b0
                                        try clear c39b1
                                        try clear c40
                                        try clear c41
                                        try clear c42
                                        try clear c43
                                        try clear c44
                                        try clear p46
                                        try clear q46
                                        try clear hx46
                                        try clear qi46
                                        try clear c53
                                        try clear c53b0
                                        try clear c53b1
                                        try clear c57
                                        try clear c64
                                        try clear c64b0
                                        try clear c64b1
                                        try clear p64
                                        try clear c65
                                        try clear c67
                                        try clear c67b0
                                        try clear c67b1
                                        try clear c72
                                        try clear c72b0
                                        try clear c72b1
                                        try clear c73
                                        try clear c73b0
                                        try clear c73b1
                                        try clear c75
                                        try clear c76
                                        try clear c76b0
                                        try clear c77
                                        try clear c77b0
                                        try clear c78
                                        try clear c78b0
                                        try clear c78b1
                                        try clear c83
                                        try clear c83b0
                                        try clear c83b1
                                        try clear hx461_0
                                        try clear hx462_0
                                        try clear p2
                                        try clear p4
                                        try clear p46
                                        try clear p461
                                        try clear p462
                                        try clear p6
                                        try clear p64
                                        try clear q4
                                        try clear q46
                                        try clear q461
                                        try clear q462
                                        obtain ⟨kq, x200_81, rfl, HA, HJ81, HO_3, HO_4, HO_5, HO_9, HO_11, HB⟩ := hcut
                                        cases kq with
                                        | zero => exact absurd HA.out (by simp [laws_FnSeries.j8])
                                        | succ kj81 =>
                                          have H := HA.out
                                          clear HA
                                          simp only [laws_FnSeries.j8] at H
                                          have HC84 := Aside0.mk H
                                          clear H
                                          go_upto_if 200 with (fail)
                                          go_cut [] (fun wc => ∃ (kq : Nat) (x3_83 : List Int) (x4_83 : List Int) (x5_83 : List Int), Aside0 (laws_FnSeries.j9 kq x3_83 x4_83 x5_83 t401 = some r) ∧ Aside0 (kq ≤ kj81) ∧ Aside0 (Kd.R (Kd.int .i64) 2 wc w.heap.size (fun k_ => some k_ ≠ ((.slice Ao10 t395.length co10) : Value).ownBlock ∧ some k_ ≠ (v402 : Value).ownBlock) (.slice Ao9 t394.length co9) x3_83) ∧ Aside0 (Kd.R (Kd.int .i64) 2 wc w.heap.size (fun k_ => some k_ ≠ ((.slice Ao9 t394.length co9) : Value).ownBlock ∧ some k_ ≠ (v402 : Value).ownBlock) (.slice Ao10 t395.length co10) x4_83) ∧ Aside0 (Kd.R (Kd.int .i64) 2 wc w.heap.size (fun k_ => some k_ ≠ ((.slice Ao9 t394.length co9) : Value).ownBlock ∧ some k_ ≠ ((.slice Ao10 t395.length co10) : Value).ownBlock) v402 x5_83) ∧ Aside0 (Below w.heap.size w wc))
                                          case first =>
                                            have H := HC84.out
                                            clear HC84
                                            by_cases c85 : x200_81 = true
                                            · subst c85
                                              have H1 : (if 0 ≤ (t409.length : Int) then (if ((t409.length : Int) : Int).toNat ≤ 35184372088832 then ((some (List.replicate ((t409.length : Int) : Int).toNat 0 : List Int)).bind fun y463 => (if 0 ≤ t410 then (if t410 < (y463.length : Int) then ((impl_MultiplySeries.f kj81 t409 (y463.set (t410 : Int).toNat 1)).bind fun bt467 => (if bt467.2 = 0 then ((laws_likeInts.f kj81 bt467.1 t413).bind fun t471 => (if t471 = true then (laws_FnSeries.j9 kj81 t394 t395 t400 t401) else (some false))) else (some false))) else (none)) else (none))) else (none)) else (none)) = some r := by rw [if_pos rfl] at H; exact H
                                              clear H
                                              have H := H1
                                              clear H1
                                              by_cases c86 : 0 ≤ (t409.length : Int)
                                              · rw [if_pos c86] at H
                                                have c86b0 := eq_true c86
                                                have c86b1 : decide (0 ≤ (t409.length : Int)) = true := decide_eq_true c86
                                                clear c86
                                                by_cases c87 : ((t409.length : Int) : Int).toNat ≤ 35184372088832
                                                · rw [if_pos c87] at H
                                                  have c87b0 := eq_true c87
                                                  have c87b1 : decide (((t409.length : Int) : Int).toNat ≤ 35184372088832) = true := decide_eq_true c87
                                                  clear c87
                                                  obtain ⟨y463, hy463⟩ : ∃ y_ : List Int, y_ = (List.replicate ((t409.length : Int) : Int).toNat 0) := ⟨_, rfl⟩
                                                  replace H : (if 0 ≤ t410 then (if t410 < (y463.length : Int) then ((impl_MultiplySeries.f kj81 t409 (y463.set (t410 : Int).toNat 1)).bind fun bt467 => (if bt467.2 = 0 then ((laws_likeInts.f kj81 bt467.1 t413).bind fun t471 => (if t471 = true then (laws_FnSeries.j9 kj81 t394 t395 t400 t401) else (some false))) else (some false))) else (none)) else (none)) = some r := by first | (rw [hy463]; with_reducible exact H) | (have H2_ := (Option.bind_some _ _).symm.trans H; rw [hy463]; with_reducible exact H2_) | (have H2_ := (Option.bind_some _ _).symm.trans H; with_reducible exact H2_) | with_reducible exact H | (rw [hy463]; exact H) | exact H
                                                  have Ny463 := Aside0.mk hy463
                                                  clear hy463
                                                  by_cases c88 : 0 ≤ t410
                                                  · rw [if_pos c88] at H
                                                    have c88b0 : decide (0 ≤ t410) = true := decide_eq_true c88
                                                    clear c88
                                                    (first | rw [c88b0] | (simp only [i64_w, i32_w]; rw [c88b0]) | skip)
                                                    by_cases c89 : t410 < (y463.length : Int)
                                                    · rw [if_pos c89] at H
                                                      have c89b0 : decide (t410 < (y463.length : Int)) = true := decide_eq_true c89
                                                      clear c89
                                                      obtain ⟨y466, hy466⟩ : ∃ y_ : List Int, y_ = (y463.set (t410 : Int).toNat 1) := ⟨_, rfl⟩
                                                      replace H : ((impl_MultiplySeries.f kj81 t409 y466).bind fun bt467 => (if bt467.2 = 0 then ((laws_likeInts.f kj81 bt467.1 t413).bind fun t471 => (if t471 = true then (laws_FnSeries.j9 kj81 t394 t395 t400 t401) else (some false))) else (some false))) = some r := by first | (rw [hy466]; with_reducible exact H) | (have H2_ := (Option.bind_some _ _).symm.trans H; rw [hy466]; with_reducible exact H2_) | (have H2_ := (Option.bind_some _ _).symm.trans H; with_reducible exact H2_) | with_reducible exact H | (rw [hy466]; exact H) | exact H
                                                      have Ny466 := Aside0.mk hy466
                                                      clear hy466
                                                      replace H := Option.bind_eq_some_iff.mp H
                                                      obtain ⟨⟨t467, t468⟩, A910, H⟩ := H
                                                      replace H : (if t468 = 0 then ((laws_likeInts.f kj81 t467 t413).bind fun t471 => (if t471 = true then (laws_FnSeries.j9 kj81 t394 t395 t400 t401) else (some false))) else (some false)) = some r := H
                                                      have A91 := Aside0.mk A910
                                                      clear A910
                                                      by_cases c92 : t468 = 0
                                                      · rw [if_pos c92] at H
                                                        have c92b0 : (t468 == 0) = true := beq_iff_eq.mpr c92
                                                        have c92b1 : (t468 != 0) = false := bne_eq_false_iff_eq.mpr c92
                                                        clear c92
                                                        replace H := Option.bind_eq_some_iff.mp H
                                                        obtain ⟨t471, A930, H⟩ := H
                                                        replace H : (if t471 = true then (laws_FnSeries.j9 kj81 t394 t395 t400 t401) else (some false)) = some r := H
                                                        have A93 := Aside0.mk A930
                                                        clear A930
                                                        by_cases c94 : t471 = true
                                                        · subst c94
                                                          have H1 : (laws_FnSeries.j9 kj81 t394 t395 t400 t401) = some r := by rw [if_pos rfl] at H; exact H
                                                          clear H
                                                          have H := H1
                                                          clear H1
                                                          have H' := Aside0.mk H
                                                          clear H
                                                          go_wp2_with (first | ((with_reducible refine gate_dst (N := 203) rfl ?_); (try (refine gate_guard (by rfl) ?_; dsimp only)); refine Kd.R_make (Kd.int .i64) _ 2 rfl (N := 203) rfl 22 _ _ rfl (t409.length : Int) rfl rfl Try.underlying22 (.int .i64 0) 8 info2 rfl (by decide) (by omega) 0 (ok := fun _ => True) (okp := fun _ => True) rfl (fun _ hk => hk) trivial (of_decide_eq_true mS) (Nat.le_trans (Nat.mul_le_mul_right _ (of_decide_eq_true mS : (t409.length : Int).toNat ≤ 35184372088832)) (by omega)) (Below.refl _ _) (Nat.le_refl _) ?_; intro v464 w95 ho96 hb hg_ hnew_; clear hg_ hnew_; (first | rw [← Ny463.out] at ho96 | (simp only [Int.reduceToNat] at ho96; rw [← Ny463.out] at ho96)); have n0_ := Aside0.mk (Kd.R_elder' (mR HO_3.out) (Kd.R_base ho96) hb); have n1_ := Aside0.mk (Kd.R_elder' (mR HO_4.out) (Kd.R_base ho96) hb); have n2_ := Aside0.mk (Kd.R_elder' (mR HO_5.out) (Kd.R_base ho96) hb); have n3_ := Aside0.mk (Kd.R_elder' (mR HO_9.out) (Kd.R_base ho96) hb); have n4_ := Aside0.mk (Kd.R_elder' (mR HO_11.out) (Kd.R_base ho96) hb); have n5_ := Aside0.mk (Kd.R_lower (Kd.R_new' (Kd.R_new' (Kd.R_new' (Kd.R_new' (Kd.R_new' ho96 (Kd.R_lt (mR HO_3.out))) (Kd.R_lt (mR HO_4.out))) (Kd.R_lt (mR HO_5.out))) (Kd.R_lt (mR HO_9.out))) (Kd.R_lt (mR HO_11.out))) (below_size mB)); have n6_ := Aside0.mk (below_step mB hb); clear HO_3; clear HO_4; clear HO_5; clear HO_9; clear HO_11; clear HB; have HO_3 := n0_; have HO_4 := n1_; have HO_5 := n2_; have HO_9 := n3_; have HO_11 := n4_; have HO465 := n5_; have HB := n6_; clear n0_ n1_ n2_ n3_ n4_ n5_ n6_; clear hb ho96; have p90 : 0 ≤ (t410 : Int) := of_decide_eq_true mS; have q90 : (t410 : Int) < ((y463.length : Int) : Int) := of_decide_eq_true mS; obtain ⟨go90, co90, eo90, gb90, gl90, cl90, HG90⟩ := Kd.R_form HO465.out (by omega); (first | cases eo90 | (injection eo90 with ea_ en_ ec_; (first | subst ea_ | (injection ea_ with ea_; subst ea_)); subst ec_; clear en_)); have GB90 := Aside0.mk gb90; have GG90 := Aside0.mk HG90; clear gb90 gl90 HG90; obtain ⟨hx90_0, hf90_0⟩ := Kd.R_celln 0 HO465.out (t410 : Int) p90 q90; replace p90 := eq_true p90; replace q90 := eq_true q90; have n_ := Aside0.mk (Kd.R_mono (ok' := (fun k_ => some k_ ≠ (.slice Ao9 t394.length co9 : Value).ownBlock ∧ some k_ ≠ (.slice Ao10 t395.length co10 : Value).ownBlock ∧ some k_ ≠ (v402 : Value).ownBlock ∧ some k_ ≠ (.slice Ao23 t409.length co23 : Value).ownBlock ∧ some k_ ≠ (v415 : Value).ownBlock)) HO465.out (fun k_ hk => ⟨hk.1.1.1.1.2, ⟨hk.1.1.1.2, ⟨hk.1.1.2, ⟨hk.1.2, hk.2⟩⟩⟩⟩)); clear HO465; have HO465 := n_; clear n_; obtain ⟨hy97_, hz97_⟩ := Kd.R_celln 0 HO465.out (t410 : Int) (of_decide_eq_true mS) (of_decide_eq_true mS); have HP97 := Kd.R_putg HO465.out (t410 : Int) 1) | ((with_reducible refine gate_store (t := 2) (p := 206) rfl ?_); refine store_event (t := 2) (p := 206) (v := ?vo_w98) (w1 := (w95.setCell ⟨go90, (t410 : Int).toNat, none⟩ (.int .i64 1))) ?hg ?ho ?hn ?hr ?_; (case ho => rfl); (case hg => rfl); (case hn => rfl); (case hr => first | (go_simp; done) | (go_simp; rfl)); intro w98 hw; have hg : w95.grownBy w98 (some go90) := (by rw [hw]; exact HP97.2); have hp_ : Kd.R (Kd.int .i64) 2 w98 w.heap.size (fun k_ => some k_ ≠ (.slice Ao9 t394.length co9 : Value).ownBlock ∧ some k_ ≠ (.slice Ao10 t395.length co10 : Value).ownBlock ∧ some k_ ≠ (v402 : Value).ownBlock ∧ some k_ ≠ (.slice Ao23 t409.length co23 : Value).ownBlock ∧ some k_ ≠ (v415 : Value).ownBlock) (.slice (some ⟨go90, 0, none⟩) y463.length co90) y466 := (by rw [hw, Ny466.out]; exact HP97.1); clear HP97; have n0_ := Aside0.mk (Kd.R_after (v := (.slice (some ⟨go90, 0, none⟩) y463.length co90)) (v1 := (.slice (some ⟨go90, 0, none⟩) y463.length co90)) (ok := (fun k_ => some k_ ≠ (.slice Ao10 t395.length co10 : Value).ownBlock ∧ some k_ ≠ (v402 : Value).ownBlock ∧ some k_ ≠ (.slice Ao23 t409.length co23 : Value).ownBlock ∧ some k_ ≠ (v415 : Value).ownBlock)) (mR HO_3.out) hg (.inl rfl)); have n1_ := Aside0.mk (Kd.R_after (v := (.slice (some ⟨go90, 0, none⟩) y463.length co90)) (v1 := (.slice (some ⟨go90, 0, none⟩) y463.length co90)) (ok := (fun k_ => some k_ ≠ (.slice Ao9 t394.length co9 : Value).ownBlock ∧ some k_ ≠ (v402 : Value).ownBlock ∧ some k_ ≠ (.slice Ao23 t409.length co23 : Value).ownBlock ∧ some k_ ≠ (v415 : Value).ownBlock)) (mR HO_4.out) hg (.inl rfl)); have n2_ := Aside0.mk (Kd.R_after (v := (.slice (some ⟨go90, 0, none⟩) y463.length co90)) (v1 := (.slice (some ⟨go90, 0, none⟩) y463.length co90)) (ok := (fun k_ => some k_ ≠ (.slice Ao9 t394.length co9 : Value).ownBlock ∧ some k_ ≠ (.slice Ao10 t395.length co10 : Value).ownBlock ∧ some k_ ≠ (.slice Ao23 t409.length co23 : Value).ownBlock ∧ some k_ ≠ (v415 : Value).ownBlock)) (mR HO_5.out) hg (.inl rfl)); have n3_ := Aside0.mk (Kd.R_after (v := (.slice (some ⟨go90, 0, none⟩) y463.length co90)) (v1 := (.slice (some ⟨go90, 0, none⟩) y463.length co90)) (ok := (fun k_ => some k_ ≠ (.slice Ao9 t394.length co9 : Value).ownBlock ∧ some k_ ≠ (.slice Ao10 t395.length co10 : Value).ownBlock ∧ some k_ ≠ (v402 : Value).ownBlock ∧ some k_ ≠ (v415 : Value).ownBlock)) (mR HO_9.out) hg (.inl rfl)); have n4_ := Aside0.mk (Kd.R_after (v := (.slice (some ⟨go90, 0, none⟩) y463.length co90)) (v1 := (.slice (some ⟨go90, 0, none⟩) y463.length co90)) (ok := (fun k_ => some k_ ≠ (.slice Ao9 t394.length co9 : Value).ownBlock ∧ some k_ ≠ (.slice Ao10 t395.length co10 : Value).ownBlock ∧ some k_ ≠ (v402 : Value).ownBlock ∧ some k_ ≠ (.slice Ao23 t409.length co23 : Value).ownBlock)) (mR HO_11.out) hg (.inl rfl)); have n5_ := Aside0.mk (hp_); have n6_ := Aside0.mk ((by rw [hw]; exact below_set (HB.out) GB90.out : Below w.heap.size w w98)); clear HO_3; clear HO_4; clear HO_5; clear HO_9; clear HO_11; clear HO465; clear HB; have HO_3 := n0_; have HO_4 := n1_; have HO_5 := n2_; have HO_9 := n3_; have HO_11 := n4_; have HO465 := n5_; have HB := n6_; clear n0_ n1_ n2_ n3_ n4_ n5_ n6_; clear hg hw hp_) | ((with_reducible refine gate_callee (f := 32) rfl ?_); refine goesL_ (some 210) rfl rfl Try.func32 (by kernel_rfl) rfl #[.slice Ao23 t409.length co23, .slice (some ⟨go90, 0, none⟩) y466.length co90] rfl (by (try simp only [List.map_toArray, List.map_cons, List.map_nil]); first | done | (rw [show y466.length = y463.length from (Kd.R_reads' HO465.out).1.symm] <;> rfl) | rfl | (simp only [List.length_drop, List.length_take]; rfl)) ?_; (with_reducible refine (impl_MultiplySeries.calls kj81 _ _ t409 _ _ y466 t467 t468 _ ?side1 ?side2 ?side3 ?side4 A91.out).mono ?_); (case side1 => repeat (first | exact (Kd.R_reads' HO_9.out).2.2 | (with_reducible refine Kd.C_alloc ?_ _) | (with_reducible refine Kd.C_drewN ?_ _) | (with_reducible refine Kd.C_drew ?_))); (case side2 => exact (Kd.R_reads' HO_9.out).2.1); (case side3 => repeat (first | exact (Kd.R_reads' HO465.out).2.2 | (with_reducible refine Kd.C_alloc ?_ _) | (with_reducible refine Kd.C_drewN ?_ _) | (with_reducible refine Kd.C_drew ?_))); (case side4 => rw [show y466.length = y463.length from (Kd.R_reads' HO465.out).1.symm]; exact (Kd.R_reads' HO465.out).2.1); rintro e w99 ⟨v469, rfl, ho0, hb⟩; refine ⟨_, rfl, ?_⟩; have n0_ := Aside0.mk (Kd.R_elder' (mR HO_3.out) (Kd.R_base ho0) hb); have n1_ := Aside0.mk (Kd.R_elder' (mR HO_4.out) (Kd.R_base ho0) hb); have n2_ := Aside0.mk (Kd.R_elder' (mR HO_5.out) (Kd.R_base ho0) hb); have n3_ := Aside0.mk (Kd.R_elder' (mR HO_9.out) (Kd.R_base ho0) hb); have n4_ := Aside0.mk (Kd.R_elder' (mR HO_11.out) (Kd.R_base ho0) hb); have n5_ := Aside0.mk (Kd.R_elder' (mR HO465.out) (Kd.R_base ho0) hb); have n6_ := Aside0.mk (Kd.R_lower (Kd.R_new' (Kd.R_new' (Kd.R_new' (Kd.R_new' (Kd.R_new' (Kd.R_new' ho0 (Kd.R_lt (mR HO_3.out))) (Kd.R_lt (mR HO_4.out))) (Kd.R_lt (mR HO_5.out))) (Kd.R_lt (mR HO_9.out))) (Kd.R_lt (mR HO_11.out))) (Kd.R_lt (mR HO465.out))) (below_size mB)); have n7_ := Aside0.mk (below_step mB hb); clear HO_3; clear HO_4; clear HO_5; clear HO_9; clear HO_11; clear HO465; clear HB; have HO_3 := n0_; have HO_4 := n1_; have HO_5 := n2_; have HO_9 := n3_; have HO_11 := n4_; have HO465 := n5_; have HO470 := n6_; have HB := n7_; clear n0_ n1_ n2_ n3_ n4_ n5_ n6_ n7_; (try clear hb); (try clear hb2); (try clear hk); (try clear hi); (try clear ho0); obtain ⟨Ao100, co100, eo100⟩ := Kd.R_slice HO470.out; subst eo100; obtain ⟨Ao101, co101, eo101⟩ := Kd.R_slice HO_11.out; subst eo101) | (go_at_call 34; (with_reducible refine (laws_likeInts.calls kj81 _ _ t467 _ _ t413 true _ ?side1 ?side2 ?side3 ?side4 A93.out).mono ?_); (case side1 => repeat (first | exact (Kd.R_reads' HO470.out).2.2 | (with_reducible refine Kd.C_alloc ?_ _) | (with_reducible refine Kd.C_drewN ?_ _) | (with_reducible refine Kd.C_drew ?_))); (case side2 => exact (Kd.R_reads' HO470.out).2.1); (case side3 => repeat (first | exact (Kd.R_reads' HO_11.out).2.2 | (with_reducible refine Kd.C_alloc ?_ _) | (with_reducible refine Kd.C_drewN ?_ _) | (with_reducible refine Kd.C_drew ?_))); (case side4 => exact (Kd.R_reads' HO_11.out).2.1); rintro e w' ⟨rfl, ⟨nd, rfl⟩⟩))
                                                          go_meet
                                                          case rel => exact ⟨_, (t394), (t395), (t400), H', ⟨by have := HJ6.out; have := HJ20.out; have := HJ33.out; have := HJ46.out; have := HJ60.out; have := HJ65.out; have := HJ81.out; first | omega | exact Nat.le_refl _⟩, ⟨by (with_reducible repeat (first | apply Kd.R_alloc | apply Kd.R_drewN | apply Kd.R_drew)); exact Kd.R_mono HO_3.out (fun _ hk => ⟨hk.1.1.1, hk.1.1.2.1⟩)⟩, ⟨by (with_reducible repeat (first | apply Kd.R_alloc | apply Kd.R_drewN | apply Kd.R_drew)); exact Kd.R_mono HO_4.out (fun _ hk => ⟨hk.1.1.1, hk.1.1.2.1⟩)⟩, ⟨by (with_reducible repeat (first | apply Kd.R_alloc | apply Kd.R_drewN | apply Kd.R_drew)); exact Kd.R_mono HO_5.out (fun _ hk => ⟨hk.1.1.1, hk.1.1.2.1⟩)⟩, ⟨mB⟩⟩
                                                        · replace c94 := Bool.eq_false_iff.mpr c94
                                                          subst c94
                                                          have H1 : (some false) = some r := by rw [if_neg (show ¬ (false = true) by decide)] at H; exact H
                                                          clear H
                                                          have H := H1
                                                          clear H1
                                                          obtain rfl := Option.some.inj H
                                                          go_wp2_with (first | ((with_reducible refine gate_dst (N := 203) rfl ?_); (try (refine gate_guard (by rfl) ?_; dsimp only)); refine Kd.R_make (Kd.int .i64) _ 2 rfl (N := 203) rfl 22 _ _ rfl (t409.length : Int) rfl rfl Try.underlying22 (.int .i64 0) 8 info2 rfl (by decide) (by omega) 0 (ok := fun _ => True) (okp := fun _ => True) rfl (fun _ hk => hk) trivial (of_decide_eq_true mS) (Nat.le_trans (Nat.mul_le_mul_right _ (of_decide_eq_true mS : (t409.length : Int).toNat ≤ 35184372088832)) (by omega)) (Below.refl _ _) (Nat.le_refl _) ?_; intro v464 w102 ho103 hb hg_ hnew_; clear hg_ hnew_; (first | rw [← Ny463.out] at ho103 | (simp only [Int.reduceToNat] at ho103; rw [← Ny463.out] at ho103)); have n0_ := Aside0.mk (Kd.R_elder' (mR HO_3.out) (Kd.R_base ho103) hb); have n1_ := Aside0.mk (Kd.R_elder' (mR HO_4.out) (Kd.R_base ho103) hb); have n2_ := Aside0.mk (Kd.R_elder' (mR HO_5.out) (Kd.R_base ho103) hb); have n3_ := Aside0.mk (Kd.R_elder' (mR HO_9.out) (Kd.R_base ho103) hb); have n4_ := Aside0.mk (Kd.R_elder' (mR HO_11.out) (Kd.R_base ho103) hb); have n5_ := Aside0.mk (Kd.R_lower (Kd.R_new' (Kd.R_new' (Kd.R_new' (Kd.R_new' (Kd.R_new' ho103 (Kd.R_lt (mR HO_3.out))) (Kd.R_lt (mR HO_4.out))) (Kd.R_lt (mR HO_5.out))) (Kd.R_lt (mR HO_9.out))) (Kd.R_lt (mR HO_11.out))) (below_size mB)); have n6_ := Aside0.mk (below_step mB hb); clear HO_3; clear HO_4; clear HO_5; clear HO_9; clear HO_11; clear HB; have HO_3 := n0_; have HO_4 := n1_; have HO_5 := n2_; have HO_9 := n3_; have HO_11 := n4_; have HO465 := n5_; have HB := n6_; clear n0_ n1_ n2_ n3_ n4_ n5_ n6_; clear hb ho103; have p90 : 0 ≤ (t410 : Int) := of_decide_eq_true mS; have q90 : (t410 : Int) < ((y463.length : Int) : Int) := of_decide_eq_true mS; obtain ⟨go90, co90, eo90, gb90, gl90, cl90, HG90⟩ := Kd.R_form HO465.out (by omega); (first | cases eo90 | (injection eo90 with ea_ en_ ec_; (first | subst ea_ | (injection ea_ with ea_; subst ea_)); subst ec_; clear en_)); have GB90 := Aside0.mk gb90; have GG90 := Aside0.mk HG90; clear gb90 gl90 HG90; obtain ⟨hx90_0, hf90_0⟩ := Kd.R_celln 0 HO465.out (t410 : Int) p90 q90; replace p90 := eq_true p90; replace q90 := eq_true q90; have n_ := Aside0.mk (Kd.R_mono (ok' := (fun k_ => some k_ ≠ (.slice Ao9 t394.length co9 : Value).ownBlock ∧ some k_ ≠ (.slice Ao10 t395.length co10 : Value).ownBlock ∧ some k_ ≠ (v402 : Value).ownBlock ∧ some k_ ≠ (.slice Ao23 t409.length co23 : Value).ownBlock ∧ some k_ ≠ (v415 : Value).ownBlock)) HO465.out (fun k_ hk => ⟨hk.1.1.1.1.2, ⟨hk.1.1.1.2, ⟨hk.1.1.2, ⟨hk.1.2, hk.2⟩⟩⟩⟩)); clear HO465; have HO465 := n_; clear n_; obtain ⟨hy104_, hz104_⟩ := Kd.R_celln 0 HO465.out (t410 : Int) (of_decide_eq_true mS) (of_decide_eq_true mS); have HP104 := Kd.R_putg HO465.out (t410 : Int) 1) | ((with_reducible refine gate_store (t := 2) (p := 206) rfl ?_); refine store_event (t := 2) (p := 206) (v := ?vo_w105) (w1 := (w102.setCell ⟨go90, (t410 : Int).toNat, none⟩ (.int .i64 1))) ?hg ?ho ?hn ?hr ?_; (case ho => rfl); (case hg => rfl); (case hn => rfl); (case hr => first | (go_simp; done) | (go_simp; rfl)); intro w105 hw; have hg : w102.grownBy w105 (some go90) := (by rw [hw]; exact HP104.2); have hp_ : Kd.R (Kd.int .i64) 2 w105 w.heap.size (fun k_ => some k_ ≠ (.slice Ao9 t394.length co9 : Value).ownBlock ∧ some k_ ≠ (.slice Ao10 t395.length co10 : Value).ownBlock ∧ some k_ ≠ (v402 : Value).ownBlock ∧ some k_ ≠ (.slice Ao23 t409.length co23 : Value).ownBlock ∧ some k_ ≠ (v415 : Value).ownBlock) (.slice (some ⟨go90, 0, none⟩) y463.length co90) y466 := (by rw [hw, Ny466.out]; exact HP104.1); clear HP104; have n0_ := Aside0.mk (Kd.R_after (v := (.slice (some ⟨go90, 0, none⟩) y463.length co90)) (v1 := (.slice (some ⟨go90, 0, none⟩) y463.length co90)) (ok := (fun k_ => some k_ ≠ (.slice Ao10 t395.length co10 : Value).ownBlock ∧ some k_ ≠ (v402 : Value).ownBlock ∧ some k_ ≠ (.slice Ao23 t409.length co23 : Value).ownBlock ∧ some k_ ≠ (v415 : Value).ownBlock)) (mR HO_3.out) hg (.inl rfl)); have n1_ := Aside0.mk (Kd.R_after (v := (.slice (some ⟨go90, 0, none⟩) y463.length co90)) (v1 := (.slice (some ⟨go90, 0, none⟩) y463.length co90)) (ok := (fun k_ => some k_ ≠ (.slice Ao9 t394.length co9 : Value).ownBlock ∧ some k_ ≠ (v402 : Value).ownBlock ∧ some k_ ≠ (.slice Ao23 t409.length co23 : Value).ownBlock ∧ some k_ ≠ (v415 : Value).ownBlock)) (mR HO_4.out) hg (.inl rfl)); have n2_ := Aside0.mk (Kd.R_after (v := (.slice (some ⟨go90, 0, none⟩) y463.length co90)) (v1 := (.slice (some ⟨go90, 0, none⟩) y463.length co90)) (ok := (fun k_ => some k_ ≠ (.slice Ao9 t394.length co9 : Value).ownBlock ∧ some k_ ≠ (.slice Ao10 t395.length co10 : Value).ownBlock ∧ some k_ ≠ (.slice Ao23 t409.length co23 : Value).ownBlock ∧ some k_ ≠ (v415 : Value).ownBlock)) (mR HO_5.out) hg (.inl rfl)); have n3_ := Aside0.mk (Kd.R_after (v := (.slice (some ⟨go90, 0, none⟩) y463.length co90)) (v1 := (.slice (some ⟨go90, 0, none⟩) y463.length co90)) (ok := (fun k_ => some k_ ≠ (.slice Ao9 t394.length co9 : Value).ownBlock ∧ some k_ ≠ (.slice Ao10 t395.length co10 : Value).ownBlock ∧ some k_ ≠ (v402 : Value).ownBlock ∧ some k_ ≠ (v415 : Value).ownBlock)) (mR HO_9.out) hg (.inl rfl)); have n4_ := Aside0.mk (Kd.R_after (v := (.slice (some ⟨go90, 0, none⟩) y463.length co90)) (v1 := (.slice (some ⟨go90, 0, none⟩) y463.length co90)) (ok := (fun k_ => some k_ ≠ (.slice Ao9 t394.length co9 : Value).ownBlock ∧ some k_ ≠ (.slice Ao10 t395.length co10 : Value).ownBlock ∧ some k_ ≠ (v402 : Value).ownBlock ∧ some k_ ≠ (.slice Ao23 t409.length co23 : Value).ownBlock)) (mR HO_11.out) hg (.inl rfl)); have n5_ := Aside0.mk (hp_); have n6_ := Aside0.mk ((by rw [hw]; exact below_set (HB.out) GB90.out : Below w.heap.size w w105)); clear HO_3; clear HO_4; clear HO_5; clear HO_9; clear HO_11; clear HO465; clear HB; have HO_3 := n0_; have HO_4 := n1_; have HO_5 := n2_; have HO_9 := n3_; have HO_11 := n4_; have HO465 := n5_; have HB := n6_; clear n0_ n1_ n2_ n3_ n4_ n5_ n6_; clear hg hw hp_) | ((with_reducible refine gate_callee (f := 32) rfl ?_); refine goesL_ (some 210) rfl rfl Try.func32 (by kernel_rfl) rfl #[.slice Ao23 t409.length co23, .slice (some ⟨go90, 0, none⟩) y466.length co90] rfl (by (try simp only [List.map_toArray, List.map_cons, List.map_nil]); first | done | (rw [show y466.length = y463.length from (Kd.R_reads' HO465.out).1.symm] <;> rfl) | rfl | (simp only [List.length_drop, List.length_take]; rfl)) ?_; (with_reducible refine (impl_MultiplySeries.calls kj81 _ _ t409 _ _ y466 t467 t468 _ ?side1 ?side2 ?side3 ?side4 A91.out).mono ?_); (case side1 => repeat (first | exact (Kd.R_reads' HO_9.out).2.2 | (with_reducible refine Kd.C_alloc ?_ _) | (with_reducible refine Kd.C_drewN ?_ _) | (with_reducible refine Kd.C_drew ?_))); (case side2 => exact (Kd.R_reads' HO_9.out).2.1); (case side3 => repeat (first | exact (Kd.R_reads' HO465.out).2.2 | (with_reducible refine Kd.C_alloc ?_ _) | (with_reducible refine Kd.C_drewN ?_ _) | (with_reducible refine Kd.C_drew ?_))); (case side4 => rw [show y466.length = y463.length from (Kd.R_reads' HO465.out).1.symm]; exact (Kd.R_reads' HO465.out).2.1); rintro e w106 ⟨v469, rfl, ho0, hb⟩; refine ⟨_, rfl, ?_⟩; have n0_ := Aside0.mk (Kd.R_elder' (mR HO_3.out) (Kd.R_base ho0) hb); have n1_ := Aside0.mk (Kd.R_elder' (mR HO_4.out) (Kd.R_base ho0) hb); have n2_ := Aside0.mk (Kd.R_elder' (mR HO_5.out) (Kd.R_base ho0) hb); have n3_ := Aside0.mk (Kd.R_elder' (mR HO_9.out) (Kd.R_base ho0) hb); have n4_ := Aside0.mk (Kd.R_elder' (mR HO_11.out) (Kd.R_base ho0) hb); have n5_ := Aside0.mk (Kd.R_elder' (mR HO465.out) (Kd.R_base ho0) hb); have n6_ := Aside0.mk (Kd.R_lower (Kd.R_new' (Kd.R_new' (Kd.R_new' (Kd.R_new' (Kd.R_new' (Kd.R_new' ho0 (Kd.R_lt (mR HO_3.out))) (Kd.R_lt (mR HO_4.out))) (Kd.R_lt (mR HO_5.out))) (Kd.R_lt (mR HO_9.out))) (Kd.R_lt (mR HO_11.out))) (Kd.R_lt (mR HO465.out))) (below_size mB)); have n7_ := Aside0.mk (below_step mB hb); clear HO_3; clear HO_4; clear HO_5; clear HO_9; clear HO_11; clear HO465; clear HB; have HO_3 := n0_; have HO_4 := n1_; have HO_5 := n2_; have HO_9 := n3_; have HO_11 := n4_; have HO465 := n5_; have HO470 := n6_; have HB := n7_; clear n0_ n1_ n2_ n3_ n4_ n5_ n6_ n7_; (try clear hb); (try clear hb2); (try clear hk); (try clear hi); (try clear ho0); obtain ⟨Ao107, co107, eo107⟩ := Kd.R_slice HO470.out; subst eo107; obtain ⟨Ao108, co108, eo108⟩ := Kd.R_slice HO_11.out; subst eo108) | (go_at_call 34; (with_reducible refine (laws_likeInts.calls kj81 _ _ t467 _ _ t413 false _ ?side1 ?side2 ?side3 ?side4 A93.out).mono ?_); (case side1 => repeat (first | exact (Kd.R_reads' HO470.out).2.2 | (with_reducible refine Kd.C_alloc ?_ _) | (with_reducible refine Kd.C_drewN ?_ _) | (with_reducible refine Kd.C_drew ?_))); (case side2 => exact (Kd.R_reads' HO470.out).2.1); (case side3 => repeat (first | exact (Kd.R_reads' HO_11.out).2.2 | (with_reducible refine Kd.C_alloc ?_ _) | (with_reducible refine Kd.C_drewN ?_ _) | (with_reducible refine Kd.C_drew ?_))); (case side4 => exact (Kd.R_reads' HO_11.out).2.1); rintro e w' ⟨rfl, ⟨nd, rfl⟩⟩))
                                                          go_ret
                                                          exact ⟨mE, mB⟩
                                                      · rw [if_neg c92] at H
                                                        have c92b0 : (t468 == 0) = false := beq_eq_false_iff_ne.mpr c92
                                                        have c92b1 : (t468 != 0) = true := bne_iff_ne.mpr c92
                                                        obtain rfl := Option.some.inj H
                                                        go_wp2_with (first | ((with_reducible refine gate_dst (N := 203) rfl ?_); (try (refine gate_guard (by rfl) ?_; dsimp only)); refine Kd.R_make (Kd.int .i64) _ 2 rfl (N := 203) rfl 22 _ _ rfl (t409.length : Int) rfl rfl Try.underlying22 (.int .i64 0) 8 info2 rfl (by decide) (by omega) 0 (ok := fun _ => True) (okp := fun _ => True) rfl (fun _ hk => hk) trivial (of_decide_eq_true mS) (Nat.le_trans (Nat.mul_le_mul_right _ (of_decide_eq_true mS : (t409.length : Int).toNat ≤ 35184372088832)) (by omega)) (Below.refl _ _) (Nat.le_refl _) ?_; intro v464 w109 ho110 hb hg_ hnew_; clear hg_ hnew_; (first | rw [← Ny463.out] at ho110 | (simp only [Int.reduceToNat] at ho110; rw [← Ny463.out] at ho110)); have n0_ := Aside0.mk (Kd.R_elder' (mR HO_3.out) (Kd.R_base ho110) hb); have n1_ := Aside0.mk (Kd.R_elder' (mR HO_4.out) (Kd.R_base ho110) hb); have n2_ := Aside0.mk (Kd.R_elder' (mR HO_5.out) (Kd.R_base ho110) hb); have n3_ := Aside0.mk (Kd.R_elder' (mR HO_9.out) (Kd.R_base ho110) hb); have n4_ := Aside0.mk (Kd.R_elder' (mR HO_11.out) (Kd.R_base ho110) hb); have n5_ := Aside0.mk (Kd.R_lower (Kd.R_new' (Kd.R_new' (Kd.R_new' (Kd.R_new' (Kd.R_new' ho110 (Kd.R_lt (mR HO_3.out))) (Kd.R_lt (mR HO_4.out))) (Kd.R_lt (mR HO_5.out))) (Kd.R_lt (mR HO_9.out))) (Kd.R_lt (mR HO_11.out))) (below_size mB)); have n6_ := Aside0.mk (below_step mB hb); clear HO_3; clear HO_4; clear HO_5; clear HO_9; clear HO_11; clear HB; have HO_3 := n0_; have HO_4 := n1_; have HO_5 := n2_; have HO_9 := n3_; have HO_11 := n4_; have HO465 := n5_; have HB := n6_; clear n0_ n1_ n2_ n3_ n4_ n5_ n6_; clear hb ho110; have p90 : 0 ≤ (t410 : Int) := of_decide_eq_true mS; have q90 : (t410 : Int) < ((y463.length : Int) : Int) := of_decide_eq_true mS; obtain ⟨go90, co90, eo90, gb90, gl90, cl90, HG90⟩ := Kd.R_form HO465.out (by omega); (first | cases eo90 | (injection eo90 with ea_ en_ ec_; (first | subst ea_ | (injection ea_ with ea_; subst ea_)); subst ec_; clear en_)); have GB90 := Aside0.mk gb90; have GG90 := Aside0.mk HG90; clear gb90 gl90 HG90; obtain ⟨hx90_0, hf90_0⟩ := Kd.R_celln 0 HO465.out (t410 : Int) p90 q90; replace p90 := eq_true p90; replace q90 := eq_true q90; have n_ := Aside0.mk (Kd.R_mono (ok' := (fun k_ => some k_ ≠ (.slice Ao9 t394.length co9 : Value).ownBlock ∧ some k_ ≠ (.slice Ao10 t395.length co10 : Value).ownBlock ∧ some k_ ≠ (v402 : Value).ownBlock ∧ some k_ ≠ (.slice Ao23 t409.length co23 : Value).ownBlock ∧ some k_ ≠ (v415 : Value).ownBlock)) HO465.out (fun k_ hk => ⟨hk.1.1.1.1.2, ⟨hk.1.1.1.2, ⟨hk.1.1.2, ⟨hk.1.2, hk.2⟩⟩⟩⟩)); clear HO465; have HO465 := n_; clear n_; obtain ⟨hy111_, hz111_⟩ := Kd.R_celln 0 HO465.out (t410 : Int) (of_decide_eq_true mS) (of_decide_eq_true mS); have HP111 := Kd.R_putg HO465.out (t410 : Int) 1) | ((with_reducible refine gate_store (t := 2) (p := 206) rfl ?_); refine store_event (t := 2) (p := 206) (v := ?vo_w112) (w1 := (w109.setCell ⟨go90, (t410 : Int).toNat, none⟩ (.int .i64 1))) ?hg ?ho ?hn ?hr ?_; (case ho => rfl); (case hg => rfl); (case hn => rfl); (case hr => first | (go_simp; done) | (go_simp; rfl)); intro w112 hw; have hg : w109.grownBy w112 (some go90) := (by rw [hw]; exact HP111.2); have hp_ : Kd.R (Kd.int .i64) 2 w112 w.heap.size (fun k_ => some k_ ≠ (.slice Ao9 t394.length co9 : Value).ownBlock ∧ some k_ ≠ (.slice Ao10 t395.length co10 : Value).ownBlock ∧ some k_ ≠ (v402 : Value).ownBlock ∧ some k_ ≠ (.slice Ao23 t409.length co23 : Value).ownBlock ∧ some k_ ≠ (v415 : Value).ownBlock) (.slice (some ⟨go90, 0, none⟩) y463.length co90) y466 := (by rw [hw, Ny466.out]; exact HP111.1); clear HP111; have n0_ := Aside0.mk (Kd.R_after (v := (.slice (some ⟨go90, 0, none⟩) y463.length co90)) (v1 := (.slice (some ⟨go90, 0, none⟩) y463.length co90)) (ok := (fun k_ => some k_ ≠ (.slice Ao10 t395.length co10 : Value).ownBlock ∧ some k_ ≠ (v402 : Value).ownBlock ∧ some k_ ≠ (.slice Ao23 t409.length co23 : Value).ownBlock ∧ some k_ ≠ (v415 : Value).ownBlock)) (mR HO_3.out) hg (.inl rfl)); have n1_ := Aside0.mk (Kd.R_after (v := (.slice (some ⟨go90, 0, none⟩) y463.length co90)) (v1 := (.slice (some ⟨go90, 0, none⟩) y463.length co90)) (ok := (fun k_ => some k_ ≠ (.slice Ao9 t394.length co9 : Value).ownBlock ∧ some k_ ≠ (v402 : Value).ownBlock ∧ some k_ ≠ (.slice Ao23 t409.length co23 : Value).ownBlock ∧ some k_ ≠ (v415 : Value).ownBlock)) (mR HO_4.out) hg (.inl rfl)); have n2_ := Aside0.mk (Kd.R_after (v := (.slice (some ⟨go90, 0, none⟩) y463.length co90)) (v1 := (.slice (some ⟨go90, 0, none⟩) y463.length co90)) (ok := (fun k_ => some k_ ≠ (.slice Ao9 t394.length co9 : Value).ownBlock ∧ some k_ ≠ (.slice Ao10 t395.length co10 : Value).ownBlock ∧ some k_ ≠ (.slice Ao23 t409.length co23 : Value).ownBlock ∧ some k_ ≠ (v415 : Value).ownBlock)) (mR HO_5.out) hg (.inl rfl)); have n3_ := Aside0.mk (Kd.R_after (v := (.slice (some ⟨go90, 0, none⟩) y463.length co90)) (v1 := (.slice (some ⟨go90, 0, none⟩) y463.length co90)) (ok := (fun k_ => some k_ ≠ (.slice Ao9 t394.length co9 : Value).ownBlock ∧ some k_ ≠ (.slice Ao10 t395.length co10 : Value).ownBlock ∧ some k_ ≠ (v402 : Value).ownBlock ∧ some k_ ≠ (v415 : Value).ownBlock)) (mR HO_9.out) hg (.inl rfl)); have n4_ := Aside0.mk (Kd.R_after (v := (.slice (some ⟨go90, 0, none⟩) y463.length co90)) (v1 := (.slice (some ⟨go90, 0, none⟩) y463.length co90)) (ok := (fun k_ => some k_ ≠ (.slice Ao9 t394.length co9 : Value).ownBlock ∧ some k_ ≠ (.slice Ao10 t395.length co10 : Value).ownBlock ∧ some k_ ≠ (v402 : Value).ownBlock ∧ some k_ ≠ (.slice Ao23 t409.length co23 : Value).ownBlock)) (mR HO_11.out) hg (.inl rfl)); have n5_ := Aside0.mk (hp_); have n6_ := Aside0.mk ((by rw [hw]; exact below_set (HB.out) GB90.out : Below w.heap.size w w112)); clear HO_3; clear HO_4; clear HO_5; clear HO_9; clear HO_11; clear HO465; clear HB; have HO_3 := n0_; have HO_4 := n1_; have HO_5 := n2_; have HO_9 := n3_; have HO_11 := n4_; have HO465 := n5_; have HB := n6_; clear n0_ n1_ n2_ n3_ n4_ n5_ n6_; clear hg hw hp_) | ((with_reducible refine gate_callee (f := 32) rfl ?_); refine goesL_ (some 210) rfl rfl Try.func32 (by kernel_rfl) rfl #[.slice Ao23 t409.length co23, .slice (some ⟨go90, 0, none⟩) y466.length co90] rfl (by (try simp only [List.map_toArray, List.map_cons, List.map_nil]); first | done | (rw [show y466.length = y463.length from (Kd.R_reads' HO465.out).1.symm] <;> rfl) | rfl | (simp only [List.length_drop, List.length_take]; rfl)) ?_; (with_reducible refine (impl_MultiplySeries.calls kj81 _ _ t409 _ _ y466 t467 t468 _ ?side1 ?side2 ?side3 ?side4 A91.out).mono ?_); (case side1 => repeat (first | exact (Kd.R_reads' HO_9.out).2.2 | (with_reducible refine Kd.C_alloc ?_ _) | (with_reducible refine Kd.C_drewN ?_ _) | (with_reducible refine Kd.C_drew ?_))); (case side2 => exact (Kd.R_reads' HO_9.out).2.1); (case side3 => repeat (first | exact (Kd.R_reads' HO465.out).2.2 | (with_reducible refine Kd.C_alloc ?_ _) | (with_reducible refine Kd.C_drewN ?_ _) | (with_reducible refine Kd.C_drew ?_))); (case side4 => rw [show y466.length = y463.length from (Kd.R_reads' HO465.out).1.symm]; exact (Kd.R_reads' HO465.out).2.1); rintro e w113 ⟨v469, rfl, ho0, hb⟩; refine ⟨_, rfl, ?_⟩; have n0_ := Aside0.mk (Kd.R_elder' (mR HO_3.out) (Kd.R_base ho0) hb); have n1_ := Aside0.mk (Kd.R_elder' (mR HO_4.out) (Kd.R_base ho0) hb); have n2_ := Aside0.mk (Kd.R_elder' (mR HO_5.out) (Kd.R_base ho0) hb); have n3_ := Aside0.mk (Kd.R_elder' (mR HO_9.out) (Kd.R_base ho0) hb); have n4_ := Aside0.mk (Kd.R_elder' (mR HO_11.out) (Kd.R_base ho0) hb); have n5_ := Aside0.mk (Kd.R_elder' (mR HO465.out) (Kd.R_base ho0) hb); have n6_ := Aside0.mk (Kd.R_lower (Kd.R_new' (Kd.R_new' (Kd.R_new' (Kd.R_new' (Kd.R_new' (Kd.R_new' ho0 (Kd.R_lt (mR HO_3.out))) (Kd.R_lt (mR HO_4.out))) (Kd.R_lt (mR HO_5.out))) (Kd.R_lt (mR HO_9.out))) (Kd.R_lt (mR HO_11.out))) (Kd.R_lt (mR HO465.out))) (below_size mB)); have n7_ := Aside0.mk (below_step mB hb); clear HO_3; clear HO_4; clear HO_5; clear HO_9; clear HO_11; clear HO465; clear HB; have HO_3 := n0_; have HO_4 := n1_; have HO_5 := n2_; have HO_9 := n3_; have HO_11 := n4_; have HO465 := n5_; have HO470 := n6_; have HB := n7_; clear n0_ n1_ n2_ n3_ n4_ n5_ n6_ n7_; (try clear hb); (try clear hb2); (try clear hk); (try clear hi); (try clear ho0)))
                                                        go_ret
                                                        exact ⟨mE, mB⟩
                                                    · rw [if_neg c89] at H
                                                      exact absurd H (by simp)
                                                  · rw [if_neg c88] at H
                                                    exact absurd H (by simp)
                                                · rw [if_neg c87] at H
                                                  exact absurd H (by simp)
                                              · rw [if_neg c86] at H
                                                exact absurd H (by simp)
                                            · replace c85 := Bool.eq_false_iff.mpr c85
                                              subst c85
                                              have H1 : (laws_FnSeries.j9 kj81 t394 t395 t400 t401) = some r := by rw [if_neg (show ¬ (false = true) by decide)] at H; exact H
                                              clear H
                                              have H := H1
                                              clear H1
                                              have H' := Aside0.mk H
                                              clear H
                                              go_wp2
                                              go_meet
                                              case rel => exact ⟨_, (t394), (t395), (t400), H', ⟨by have := HJ6.out; have := HJ20.out; have := HJ33.out; have := HJ46.out; have := HJ60.out; have := HJ65.out; have := HJ81.out; first | omega | exact Nat.le_refl _⟩, ⟨by (with_reducible repeat (first | apply Kd.R_alloc | apply Kd.R_drewN | apply Kd.R_drew)); exact Kd.R_mono HO_3.out (fun _ hk => ⟨hk.1, hk.2.1⟩)⟩, ⟨by (with_reducible repeat (first | apply Kd.R_alloc | apply Kd.R_drewN | apply Kd.R_drew)); exact Kd.R_mono HO_4.out (fun _ hk => ⟨hk.1, hk.2.1⟩)⟩, ⟨by (with_reducible repeat (first | apply Kd.R_alloc | apply Kd.R_drewN | apply Kd.R_drew)); exact Kd.R_mono HO_5.out (fun _ hk => ⟨hk.1, hk.2.1⟩)⟩, ⟨mB⟩⟩
                                          case rest =>
                                            as_aux_lemma =>
                                            clear HC84
                                            try clear c1
                                            try clear c2
                                            try clear p2
                                            try clear c3
                                            try clear c4
                                            try clear p4
                                            try clear q4
                                            try clear hx4
                                            try clear qi4
                                            try clear c5
                                            try clear c6
                                            try clear p6
                                            try clear c7
                                            try clear c8
                                            try clear c9
                                            try clear p9
                                            try clear q9
                                            try clear hx9
                                            try clear hf9
                                            try clear c13
                                            try clear c13b0
                                            try clear c13b1
                                            try clear c15
                                            try clear c17
                                            try clear c26
                                            try clear c26b0
                                            try clear c26b1
                                            try clear c30
                                            try clear c31
                                            try clear c32
                                            try clear c33
                                            try clear c35
                                            try clear c36
                                            try clear c37
                                            try clear c38
                                            try clear c39
                                            try clear c39b0
                                            try clear c39b1
                                            try clear c40
                                            try clear c41
                                            try clear c42
                                            try clear c43
                                            try clear c44
                                            try clear p46
                                            try clear q46
                                            try clear hx46
                                            try clear qi46
                                            try clear c53
                                            try clear c53b0
                                            try clear c53b1
                                            try clear c57
                                            try clear c64
                                            try clear c64b0
                                            try clear c64b1
                                            try clear p64
                                            try clear c65
                                            try clear c67
                                            try clear c67b0
                                            try clear c67b1
                                            try clear c72
                                            try clear c72b0
                                            try clear c72b1
                                            try clear c73
                                            try clear c73b0
                                            try clear c73b1
                                            try clear c75
                                            try clear c76
                                            try clear c76b0
                                            try clear c77
                                            try clear c77b0
                                            try clear c78
                                            try clear c78b0
                                            try clear c78b1
                                            try clear c83
                                            try clear c83b0
                                            try clear c83b1
                                            try clear c85
                                            try clear c86
                                            try clear c86b0
                                            try clear c86b1
                                            try clear c87
                                            try clear c87b0
                                            try clear c87b1
                                            try clear c88
                                            try clear c88b0
                                            try clear c89
                                            try clear c89b0
                                            try clear p90
                                            try clear q90
                                            try clear hx90
                                            try clear hf90
                                            try clear c92
                                            try clear c92b0
                                            try clear c92b1
                                            try clear c94
                                            try clear hx461_0
                                            try clear hx462_0
                                            try clear hx90_0
                                            try clear p2
                                            try clear p4
                                            try clear p46
                                            try clear p461
                                            try clear p462
                                            try clear p6
                                            try clear p64
                                            try clear p90
                                            try clear q4
                                            try clear q46
                                            try clear q461
                                            try clear q462
                                            try clear q90
                                            obtain ⟨kq, x3_83, x4_83, x5_83, HA, HJ83, HO_3, HO_4, HO_5, HB⟩ := hcut
                                            have hl3_83 := (Kd.R_reads' HO_3.out).1
                                            rw [hl3_83] at HO_3
                                            (try simp only [hl3_83])
                                            (try simp only [hl3_83] at HO_4)
                                            (try simp only [hl3_83] at HO_5)
                                            have hl4_83 := (Kd.R_reads' HO_4.out).1
                                            rw [hl4_83] at HO_4
                                            (try simp only [hl4_83])
                                            (try simp only [hl4_83] at HO_3)
                                            (try simp only [hl4_83] at HO_5)
                                            cases kq with
                                            | zero => exact absurd HA.out (by simp [laws_FnSeries.j9])
                                            | succ kj83 =>
                                              have H := HA.out
                                              clear HA
                                              simp only [laws_FnSeries.j9] at H
                                              by_cases c114 : t401 = 0
                                              · rw [if_pos c114] at H
                                                have c114b0 : (t401 == 0) = true := beq_iff_eq.mpr c114
                                                have c114b1 : (t401 != 0) = false := bne_eq_false_iff_eq.mpr c114
                                                clear c114
                                                replace H := Option.bind_eq_some_iff.mp H
                                                obtain ⟨⟨t472, t473⟩, A1150, H⟩ := H
                                                replace H : (if t473 = 0 then ((laws_likeInts.f kj83 t472 x5_83).bind fun t476 => (some t476)) else (some true)) = some r := H
                                                have A115 := Aside0.mk A1150
                                                clear A1150
                                                by_cases c116 : t473 = 0
                                                · rw [if_pos c116] at H
                                                  have c116b0 : (t473 == 0) = true := beq_iff_eq.mpr c116
                                                  have c116b1 : (t473 != 0) = false := bne_eq_false_iff_eq.mpr c116
                                                  clear c116
                                                  replace H := Option.bind_eq_some_iff.mp H
                                                  obtain ⟨t476, A1170, H⟩ := H
                                                  replace H : (some t476) = some r := H
                                                  have A117 := Aside0.mk A1170
                                                  clear A1170
                                                  obtain rfl := Option.some.inj H
                                                  go_wp2_with (first | ((with_reducible refine gate_callee (f := 32) rfl ?_); refine goL (some 229) Try.func32 #[.slice Ao10 x4_83.length co10, .slice Ao9 x3_83.length co9] (h := ?_); (with_reducible refine (impl_MultiplySeries.calls kj83 _ _ x4_83 _ _ x3_83 t472 t473 _ ?side1 ?side2 ?side3 ?side4 A115.out).mono ?_); (case side1 => repeat (first | exact (Kd.R_reads' HO_4.out).2.2 | (with_reducible refine Kd.C_alloc ?_ _) | (with_reducible refine Kd.C_drewN ?_ _) | (with_reducible refine Kd.C_drew ?_))); (case side2 => exact (Kd.R_reads' HO_4.out).2.1); (case side3 => repeat (first | exact (Kd.R_reads' HO_3.out).2.2 | (with_reducible refine Kd.C_alloc ?_ _) | (with_reducible refine Kd.C_drewN ?_ _) | (with_reducible refine Kd.C_drew ?_))); (case side4 => exact (Kd.R_reads' HO_3.out).2.1); rintro e w118 ⟨v474, rfl, ho0, hb⟩; refine ⟨_, rfl, ?_⟩; have n0_ := Aside0.mk (Kd.R_elder' (mR HO_3.out) (Kd.R_base ho0) hb); have n1_ := Aside0.mk (Kd.R_elder' (mR HO_4.out) (Kd.R_base ho0) hb); have n2_ := Aside0.mk (Kd.R_elder' (mR HO_5.out) (Kd.R_base ho0) hb); have n3_ := Aside0.mk (Kd.R_lower (Kd.R_new' (Kd.R_new' (Kd.R_new' ho0 (Kd.R_lt (mR HO_3.out))) (Kd.R_lt (mR HO_4.out))) (Kd.R_lt (mR HO_5.out))) (below_size mB)); have n4_ := Aside0.mk (below_step mB hb); clear HO_3; clear HO_4; clear HO_5; clear HB; have HO_3 := n0_; have HO_4 := n1_; have HO_5 := n2_; have HO475 := n3_; have HB := n4_; clear n0_ n1_ n2_ n3_ n4_; (try clear hb); (try clear hb2); (try clear hk); (try clear hi); (try clear ho0); obtain ⟨Ao119, co119, eo119⟩ := Kd.R_slice HO475.out; subst eo119; obtain ⟨Ao120, co120, eo120⟩ := Kd.R_slice HO_5.out; subst eo120) | (go_at_call 34; (with_reducible refine (laws_likeInts.calls kj83 _ _ t472 _ _ x5_83 t476 _ ?side1 ?side2 ?side3 ?side4 A117.out).mono ?_); (case side1 => repeat (first | exact (Kd.R_reads' HO475.out).2.2 | (with_reducible refine Kd.C_alloc ?_ _) | (with_reducible refine Kd.C_drewN ?_ _) | (with_reducible refine Kd.C_drew ?_))); (case side2 => exact (Kd.R_reads' HO475.out).2.1); (case side3 => repeat (first | exact (Kd.R_reads' HO_5.out).2.2 | (with_reducible refine Kd.C_alloc ?_ _) | (with_reducible refine Kd.C_drewN ?_ _) | (with_reducible refine Kd.C_drew ?_))); (case side4 => exact (Kd.R_reads' HO_5.out).2.1); rintro e w' ⟨rfl, ⟨nd, rfl⟩⟩))
                                                  go_ret
                                                  exact ⟨mE, mB⟩
                                                · rw [if_neg c116] at H
                                                  have c116b0 : (t473 == 0) = false := beq_eq_false_iff_ne.mpr c116
                                                  have c116b1 : (t473 != 0) = true := bne_iff_ne.mpr c116
                                                  obtain rfl := Option.some.inj H
                                                  go_wp2_with (first | ((with_reducible refine gate_callee (f := 32) rfl ?_); refine goL (some 229) Try.func32 #[.slice Ao10 x4_83.length co10, .slice Ao9 x3_83.length co9] (h := ?_); (with_reducible refine (impl_MultiplySeries.calls kj83 _ _ x4_83 _ _ x3_83 t472 t473 _ ?side1 ?side2 ?side3 ?side4 A115.out).mono ?_); (case side1 => repeat (first | exact (Kd.R_reads' HO_4.out).2.2 | (with_reducible refine Kd.C_alloc ?_ _) | (with_reducible refine Kd.C_drewN ?_ _) | (with_reducible refine Kd.C_drew ?_))); (case side2 => exact (Kd.R_reads' HO_4.out).2.1); (case side3 => repeat (first | exact (Kd.R_reads' HO_3.out).2.2 | (with_reducible refine Kd.C_alloc ?_ _) | (with_reducible refine Kd.C_drewN ?_ _) | (with_reducible refine Kd.C_drew ?_))); (case side4 => exact (Kd.R_reads' HO_3.out).2.1); rintro e w121 ⟨v474, rfl, ho0, hb⟩; refine ⟨_, rfl, ?_⟩; have n0_ := Aside0.mk (Kd.R_elder' (mR HO_3.out) (Kd.R_base ho0) hb); have n1_ := Aside0.mk (Kd.R_elder' (mR HO_4.out) (Kd.R_base ho0) hb); have n2_ := Aside0.mk (Kd.R_elder' (mR HO_5.out) (Kd.R_base ho0) hb); have n3_ := Aside0.mk (Kd.R_lower (Kd.R_new' (Kd.R_new' (Kd.R_new' ho0 (Kd.R_lt (mR HO_3.out))) (Kd.R_lt (mR HO_4.out))) (Kd.R_lt (mR HO_5.out))) (below_size mB)); have n4_ := Aside0.mk (below_step mB hb); clear HO_3; clear HO_4; clear HO_5; clear HB; have HO_3 := n0_; have HO_4 := n1_; have HO_5 := n2_; have HO475 := n3_; have HB := n4_; clear n0_ n1_ n2_ n3_ n4_; (try clear hb); (try clear hb2); (try clear hk); (try clear hi); (try clear ho0)))
                                                  go_ret
                                                  exact ⟨mE, mB⟩
                                              · rw [if_neg c114] at H
                                                have c114b0 : (t401 == 0) = false := beq_eq_false_iff_ne.mpr c114
                                                have c114b1 : (t401 != 0) = true := bne_iff_ne.mpr c114
                                                obtain rfl := Option.some.inj H
                                                obtain ⟨Ao122, co122, eo122⟩ := Kd.R_slice HO_5.out
                                                subst eo122
                                                go_wp2
                                                go_ret
                                                exact ⟨mE, mB⟩

/-- THE ONE PURE STATEMENT of laws_FnSeries: yours. -/
def laws_FnSeries.Pure : Prop := ∀ (l0 : List Int), l0.length ≤ maxLen → l0.length * 1 ≤ 140737488351232 → (∀ x ∈ l0, (Lit.int .u8 x).wf = true) → ∃ k, laws_FnSeries.f k l0 = some true
theorem laws_FnSeries.walk (P : laws_FnSeries.Pure) (a0 : Option Addr) (len0 cap0 : Nat) (z0 : List Int) (w : World) (w0 : (a0 = none ∧ len0 = 0 ∧ cap0 = 0 ∧ z0 = []) ∨ ∃ x, a0 = some x ∧ len0 ≤ cap0 ∧ cap0 ≤ maxLen ∧ z0.length = cap0 ∧ (∀ i, i < z0.length → w.cell? (x.add i) = some (.int .u8 (z0.getD i 0))) ∧ ∀ n ∈ z0, (Lit.int .u8 n).wf = true) (y0 : len0 * 1 ≤ 140737488351232) :
    Calls Try.prog 6 #[.slice a0 len0 cap0] w fun e w' => e = .returned (.bool true) ∧ Below w.heap.size w w' := by
  obtain ⟨l0, rfl, hr0, hm0, hw0, hc0⟩ := ReadsInt.ofRowC w0
  obtain ⟨k, h⟩ := P l0 hm0 y0 hw0
  refine (laws_FnSeries.calls k _ _ l0 true w (Kd.C_of_reads (d := (0 : Int)) (h1 := fun _ => rfl) hr0) hc0 h).mono ?_
  rintro e w' ⟨rfl, hd⟩
  exact ⟨rfl, hd⟩

end Go.Proofs.Ythdalmlbpmljmaa.EFnSeries
