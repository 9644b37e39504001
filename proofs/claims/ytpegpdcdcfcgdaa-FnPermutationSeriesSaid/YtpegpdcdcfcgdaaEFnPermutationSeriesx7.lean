/- The functions that the law uses, as plain functions, and that the code comes to what they say. -/
import Derived.Test.YtpegpdcdcfcgdaaEFnPermutationSeriesx0
import Derived.Test.YtpegpdcdcfcgdaaEFnPermutationSeriesx3
import Derived.Test.YtpegpdcdcfcgdaaEFnPermutationSeriesx6
namespace Go.Proofs.Ytpegpdcdcfcgdaa.EFnPermutationSeries
open Go.RowKit Go.Proofs.YtpegpdcdcfcgdaaW.PrintWords Go.Proofs.YtpegpdcdcfcgdaaW.PrintLast Go.Proofs.YtpegpdcdcfcgdaaW.PrintMore Go.Proofs.YtpegpdcdcfcgdaaX
attribute [local go_sem] max2_int min2_int max_two min_two max_three min_three max_four min_four   -- for this text's walks alone
set_option linter.unusedVariables false
set_option linter.unusedSimpArgs false

/-! ### impl_CountingSeries: function 15 -/
mutual
def impl_CountingSeries.j0 : Nat → List (List Int) → Int → Bool → Option (List Int × Int)
  | 0, _, _, _ => none
  | k + 1, x0, x1, x29 => if x29 = true then (some (([] : List Int), 2)) else (if 0 ≤ (wrap64 (x1 + 1)) then (if (wrap64 (x1 + 1) : Int).toNat ≤ 35184372088832 then (impl_CountingSeries.l0 k x0 x1 (List.replicate (wrap64 (x1 + 1) : Int).toNat 0) x0 (x0.length : Int) 0) else (none)) else (none))
def impl_CountingSeries.l0 : Nat → List (List Int) → Int → List Int → List (List Int) → Int → Int → Option (List Int × Int)
  | 0, _, _, _, _, _, _ => none
  | k + 1, x0, x1, x6, x33, x34, x35 => if x35 < x34 then (if 0 ≤ x35 then (if x35 < (x33.length : Int) then ((impl_cycleType.f k (rd_L2 x33 x35)).bind fun t244 => (if (t244.length : Int) = 0 then (impl_CountingSeries.j2 k x0 x1 x6 t244 x33 x34 x35 true) else (if 0 < (x0.length : Int) then (impl_CountingSeries.j2 k x0 x1 x6 t244 x33 x34 x35 (((rd_L2 x33 x35).length : Int) != ((rd_L2 x0 0).length : Int))) else (none)))) else (none)) else (none)) else (impl_CountingSeries.l2 k x6 (x0.length : Int) (x6.length : Int) 0)
def impl_CountingSeries.j2 : Nat → List (List Int) → Int → List Int → List Int → List (List Int) → Int → Int → Bool → Option (List Int × Int)
  | 0, _, _, _, _, _, _, _, _ => none
  | k + 1, x0, x1, x6, x9, x33, x34, x35, x51 => if x51 = true then (some (([] : List Int), 2)) else ((impl_ways.f k x9 x1).bind fun t248 => (impl_CountingSeries.l1 k x0 x1 x6 x33 x34 x35 t248 (t248.length : Int) 0))
def impl_CountingSeries.l1 : Nat → List (List Int) → Int → List Int → List (List Int) → Int → Int → List Int → Int → Int → Option (List Int × Int)
  | 0, _, _, _, _, _, _, _, _, _ => none
  | k + 1, x0, x1, x6, x33, x34, x35, x54, x55, x56 => if x56 < x55 then (if 0 ≤ x56 then (if x56 < (x54.length : Int) then (if x56 < (x6.length : Int) then (impl_CountingSeries.l1 k x0 x1 (x6.set (x56 : Int).toNat (wrap64 ((rd x6 x56) + (rd x54 x56)))) x33 x34 x35 x54 x55 (wrap64 (x56 + 1))) else (none)) else (none)) else (none)) else (impl_CountingSeries.l0 k x0 x1 x6 x33 x34 (wrap64 (x35 + 1)))
def impl_CountingSeries.l2 : Nat → List Int → Int → Int → Int → Option (List Int × Int)
  | 0, _, _, _, _ => none
  | k + 1, x6, x12, x73, x74 => if x74 < x73 then (if 0 ≤ x74 then (if x74 < (x6.length : Int) then (if x12 = 0 then (none) else (if (Int.tmod (rd x6 x74) x12) = 0 then (impl_CountingSeries.l2 k (x6.set (x74 : Int).toNat (wrap64 (Int.tdiv (rd x6 x74) x12))) x12 x73 (wrap64 (x74 + 1))) else (some (([] : List Int), 5)))) else (none)) else (none)) else (some (x6, 0))
end
def impl_CountingSeries.f (k : Nat) (l0 : List (List Int)) (a1 : Int) : Option (List Int × Int) := if (l0.length : Int) < 1 then (impl_CountingSeries.j0 k l0 a1 true) else (if (l0.length : Int) > 120 then (impl_CountingSeries.j0 k l0 a1 true) else (if a1 < 0 then (impl_CountingSeries.j0 k l0 a1 true) else (impl_CountingSeries.j0 k l0 a1 (decide (a1 > 12)))))
theorem impl_CountingSeries.mono_l : ∀ k, (∀ y0 y1 y2, LeO (impl_CountingSeries.j0 k y0 y1 y2) (impl_CountingSeries.j0 (k + 1) y0 y1 y2)) ∧ (∀ y0 y1 y2 y3 y4 y5, LeO (impl_CountingSeries.l0 k y0 y1 y2 y3 y4 y5) (impl_CountingSeries.l0 (k + 1) y0 y1 y2 y3 y4 y5)) ∧ (∀ y0 y1 y2 y3 y4 y5 y6 y7, LeO (impl_CountingSeries.j2 k y0 y1 y2 y3 y4 y5 y6 y7) (impl_CountingSeries.j2 (k + 1) y0 y1 y2 y3 y4 y5 y6 y7)) ∧ (∀ y0 y1 y2 y3 y4 y5 y6 y7 y8, LeO (impl_CountingSeries.l1 k y0 y1 y2 y3 y4 y5 y6 y7 y8) (impl_CountingSeries.l1 (k + 1) y0 y1 y2 y3 y4 y5 y6 y7 y8)) ∧ (∀ y0 y1 y2 y3, LeO (impl_CountingSeries.l2 k y0 y1 y2 y3) (impl_CountingSeries.l2 (k + 1) y0 y1 y2 y3))
  | 0 => ⟨fun _ _ _ r h => by simp [impl_CountingSeries.j0] at h, fun _ _ _ _ _ _ r h => by simp [impl_CountingSeries.l0] at h, fun _ _ _ _ _ _ _ _ r h => by simp [impl_CountingSeries.j2] at h, fun _ _ _ _ _ _ _ _ _ r h => by simp [impl_CountingSeries.l1] at h, fun _ _ _ _ r h => by simp [impl_CountingSeries.l2] at h⟩
  | k + 1 => by
    obtain ⟨ih0, ih1, ih2, ih3, ih4⟩ := impl_CountingSeries.mono_l k
    refine ⟨?_, ?_, ?_, ?_, ?_⟩
    · intro y0 y1 y2
      unfold impl_CountingSeries.j0
      repeat' first
      | (with_reducible exact ih0 _ _ _)
      | (with_reducible exact ih1 _ _ _ _ _ _)
      | (with_reducible exact ih2 _ _ _ _ _ _ _ _)
      | (with_reducible exact ih3 _ _ _ _ _ _ _ _ _)
      | (with_reducible exact ih4 _ _ _ _)
      | (with_reducible exact impl_cycleType.mono _ _)
      | (with_reducible exact impl_ways.mono _ _ _)
      | (with_reducible exact LeO.refl _)
      | (with_reducible exact LeO.none _)
      | (with_reducible refine LeO.ite ?_ ?_)
      | (with_reducible refine LeO.bind ?_ (fun _ => ?_))
      | exact ih0 _ _ _
      | exact ih1 _ _ _ _ _ _
      | exact ih2 _ _ _ _ _ _ _ _
      | exact ih3 _ _ _ _ _ _ _ _ _
      | exact ih4 _ _ _ _
      | exact impl_cycleType.mono _ _
      | exact impl_ways.mono _ _ _
      | exact LeO.none _
      | refine LeO.ite ?_ ?_
      | refine LeO.bind ?_ (fun _ => ?_)
    · intro y0 y1 y2 y3 y4 y5
      unfold impl_CountingSeries.l0
      repeat' first
      | (with_reducible exact ih0 _ _ _)
      | (with_reducible exact ih1 _ _ _ _ _ _)
      | (with_reducible exact ih2 _ _ _ _ _ _ _ _)
      | (with_reducible exact ih3 _ _ _ _ _ _ _ _ _)
      | (with_reducible exact ih4 _ _ _ _)
      | (with_reducible exact impl_cycleType.mono _ _)
      | (with_reducible exact impl_ways.mono _ _ _)
      | (with_reducible exact LeO.refl _)
      | (with_reducible exact LeO.none _)
      | (with_reducible refine LeO.ite ?_ ?_)
      | (with_reducible refine LeO.bind ?_ (fun _ => ?_))
      | exact ih0 _ _ _
      | exact ih1 _ _ _ _ _ _
      | exact ih2 _ _ _ _ _ _ _ _
      | exact ih3 _ _ _ _ _ _ _ _ _
      | exact ih4 _ _ _ _
      | exact impl_cycleType.mono _ _
      | exact impl_ways.mono _ _ _
      | exact LeO.none _
      | refine LeO.ite ?_ ?_
      | refine LeO.bind ?_ (fun _ => ?_)
    · intro y0 y1 y2 y3 y4 y5 y6 y7
      unfold impl_CountingSeries.j2
      repeat' first
      | (with_reducible exact ih0 _ _ _)
      | (with_reducible exact ih1 _ _ _ _ _ _)
      | (with_reducible exact ih2 _ _ _ _ _ _ _ _)
      | (with_reducible exact ih3 _ _ _ _ _ _ _ _ _)
      | (with_reducible exact ih4 _ _ _ _)
      | (with_reducible exact impl_cycleType.mono _ _)
      | (with_reducible exact impl_ways.mono _ _ _)
      | (with_reducible exact LeO.refl _)
      | (with_reducible exact LeO.none _)
      | (with_reducible refine LeO.ite ?_ ?_)
      | (with_reducible refine LeO.bind ?_ (fun _ => ?_))
      | exact ih0 _ _ _
      | exact ih1 _ _ _ _ _ _
      | exact ih2 _ _ _ _ _ _ _ _
      | exact ih3 _ _ _ _ _ _ _ _ _
      | exact ih4 _ _ _ _
      | exact impl_cycleType.mono _ _
      | exact impl_ways.mono _ _ _
      | exact LeO.none _
      | refine LeO.ite ?_ ?_
      | refine LeO.bind ?_ (fun _ => ?_)
    · intro y0 y1 y2 y3 y4 y5 y6 y7 y8
      unfold impl_CountingSeries.l1
      repeat' first
      | (with_reducible exact ih0 _ _ _)
      | (with_reducible exact ih1 _ _ _ _ _ _)
      | (with_reducible exact ih2 _ _ _ _ _ _ _ _)
      | (with_reducible exact ih3 _ _ _ _ _ _ _ _ _)
      | (with_reducible exact ih4 _ _ _ _)
      | (with_reducible exact impl_cycleType.mono _ _)
      | (with_reducible exact impl_ways.mono _ _ _)
      | (with_reducible exact LeO.refl _)
      | (with_reducible exact LeO.none _)
      | (with_reducible refine LeO.ite ?_ ?_)
      | (with_reducible refine LeO.bind ?_ (fun _ => ?_))
      | exact ih0 _ _ _
      | exact ih1 _ _ _ _ _ _
      | exact ih2 _ _ _ _ _ _ _ _
      | exact ih3 _ _ _ _ _ _ _ _ _
      | exact ih4 _ _ _ _
      | exact impl_cycleType.mono _ _
      | exact impl_ways.mono _ _ _
      | exact LeO.none _
      | refine LeO.ite ?_ ?_
      | refine LeO.bind ?_ (fun _ => ?_)
    · intro y0 y1 y2 y3
      unfold impl_CountingSeries.l2
      repeat' first
      | (with_reducible exact ih0 _ _ _)
      | (with_reducible exact ih1 _ _ _ _ _ _)
      | (with_reducible exact ih2 _ _ _ _ _ _ _ _)
      | (with_reducible exact ih3 _ _ _ _ _ _ _ _ _)
      | (with_reducible exact ih4 _ _ _ _)
      | (with_reducible exact impl_cycleType.mono _ _)
      | (with_reducible exact impl_ways.mono _ _ _)
      | (with_reducible exact LeO.refl _)
      | (with_reducible exact LeO.none _)
      | (with_reducible refine LeO.ite ?_ ?_)
      | (with_reducible refine LeO.bind ?_ (fun _ => ?_))
      | exact ih0 _ _ _
      | exact ih1 _ _ _ _ _ _
      | exact ih2 _ _ _ _ _ _ _ _
      | exact ih3 _ _ _ _ _ _ _ _ _
      | exact ih4 _ _ _ _
      | exact impl_cycleType.mono _ _
      | exact impl_ways.mono _ _ _
      | exact LeO.none _
      | refine LeO.ite ?_ ?_
      | refine LeO.bind ?_ (fun _ => ?_)
theorem impl_CountingSeries.mono : ∀ a0 a1 k, LeO (impl_CountingSeries.f k a0 a1) (impl_CountingSeries.f (k + 1) a0 a1) := by
  intro a0 a1 k
  obtain ⟨ih0, ih1, ih2, ih3, ih4⟩ := impl_CountingSeries.mono_l k
  unfold impl_CountingSeries.f
  repeat' first
      | (with_reducible exact ih0 _ _ _)
      | (with_reducible exact ih1 _ _ _ _ _ _)
      | (with_reducible exact ih2 _ _ _ _ _ _ _ _)
      | (with_reducible exact ih3 _ _ _ _ _ _ _ _ _)
      | (with_reducible exact ih4 _ _ _ _)
      | (with_reducible exact impl_cycleType.mono _ _)
      | (with_reducible exact impl_ways.mono _ _ _)
      | (with_reducible exact LeO.refl _)
      | (with_reducible exact LeO.none _)
      | (with_reducible refine LeO.ite ?_ ?_)
      | (with_reducible refine LeO.bind ?_ (fun _ => ?_))
      | exact ih0 _ _ _
      | exact ih1 _ _ _ _ _ _
      | exact ih2 _ _ _ _ _ _ _ _
      | exact ih3 _ _ _ _ _ _ _ _ _
      | exact ih4 _ _ _ _
      | exact impl_cycleType.mono _ _
      | exact impl_ways.mono _ _ _
      | exact LeO.none _
      | refine LeO.ite ?_ ?_
      | refine LeO.bind ?_ (fun _ => ?_)
set_option maxHeartbeats 8000000 in
set_option maxRecDepth 100000 in
theorem impl_CountingSeries.calls (k : Nat) (A0 : Option Addr) (c0 : Nat) (l0 : List (List Int)) (a1 : Int) (r1 : List Int) (r2 : Int) (w : World) (hr0 : Kd.C (Kd.slice 2 (Kd.int .i64)) w A0 l0.length l0) (hc0 : l0.length ≤ c0) (h : impl_CountingSeries.f k l0 a1 = some (r1, r2)) :
    Calls Try.prog 15 #[.slice A0 l0.length c0, .int .i64 a1] w fun e w' => ∃ v0_ : Value, e = .returned (.tuple #[v0_, .int .i64 r2]) ∧ Kd.R (Kd.int .i64) 2 w' w.heap.size (fun _ => True) v0_ r1 ∧ Below w.heap.size w w' := by
  have HR0 := Aside0.mk hr0
  have HC0 := Aside0.mk hc0
  clear hr0 hc0
  have HB := Aside0.mk (Below.refl w.heap.size w)
  have H : (if (l0.length : Int) < 1 then (impl_CountingSeries.j0 k l0 a1 true) else (if (l0.length : Int) > 120 then (impl_CountingSeries.j0 k l0 a1 true) else (if a1 < 0 then (impl_CountingSeries.j0 k l0 a1 true) else (impl_CountingSeries.j0 k l0 a1 (decide (a1 > 12)))))) = some (r1, r2) := h
  clear h
  have HC3 := Aside0.mk H
  clear H
  go_enter Try.func15, Try.ntmps15
  go_upto_region 1 with (fail)
  go_cut [29] (fun v29 wc => ∃ (kq : Nat) (x29_2 : Bool), v29 = .bool x29_2 ∧ Aside0 (impl_CountingSeries.j0 kq l0 a1 x29_2 = some (r1, r2)) ∧ Aside0 (kq ≤ k) ∧ Aside0 (Below w.heap.size w wc))
  case first =>
    have H := HC3.out
    clear HC3
    by_cases c4 : (l0.length : Int) < 1
    · rw [if_pos c4] at H
      have c4b0 : decide ((l0.length : Int) < 1) = true := decide_eq_true c4
      have c4b1 : decide (l0.length < 1) = true := decide_eq_true (by omega)
      clear c4
      (first | rw [c4b0] | (simp only [i64_w, i32_w]; rw [c4b0]) | skip)
      have H' := Aside0.mk H
      clear H
      go_wp2
      go_meet
      case rel => exact ⟨_, (true), mF, H', ⟨by first | omega | exact Nat.le_refl _⟩, ⟨mB⟩⟩
    · rw [if_neg c4] at H
      have c4b0 : decide ((l0.length : Int) < 1) = false := decide_eq_false c4
      have c4b1 : decide (l0.length < 1) = false := decide_eq_false (by omega)
      clear c4
      (first | rw [c4b0] | (simp only [i64_w, i32_w]; rw [c4b0]) | skip)
      by_cases c5 : (l0.length : Int) > 120
      · rw [if_pos c5] at H
        have c5b0 : decide (120 < (l0.length : Int)) = true := decide_eq_true c5
        have c5b1 : decide (120 < l0.length) = true := decide_eq_true (by omega)
        clear c5
        have H' := Aside0.mk H
        clear H
        go_wp2
        go_meet
        case rel => exact ⟨_, (true), mF, H', ⟨by first | omega | exact Nat.le_refl _⟩, ⟨mB⟩⟩
      · rw [if_neg c5] at H
        have c5b0 : decide (120 < (l0.length : Int)) = false := decide_eq_false c5
        have c5b1 : decide (120 < l0.length) = false := decide_eq_false (by omega)
        clear c5
        by_cases c6 : a1 < 0
        · rw [if_pos c6] at H
          have c6b0 : decide (a1 < 0) = true := decide_eq_true c6
          clear c6
          have H' := Aside0.mk H
          clear H
          go_wp2
          go_meet
          case rel => exact ⟨_, (true), mF, H', ⟨by first | omega | exact Nat.le_refl _⟩, ⟨mB⟩⟩
        · rw [if_neg c6] at H
          have c6b0 : decide (a1 < 0) = false := decide_eq_false c6
          clear c6
          have H' := Aside0.mk H
          clear H
          go_wp2
          go_meet
          case rel => exact ⟨_, (decide (a1 > 12)), mF, H', ⟨by first | omega | exact Nat.le_refl _⟩, ⟨mB⟩⟩
  case rest =>
    clear HC3
    try clear c1
    try clear p2
    try clear c4
    try clear c4b0
    try clear c4b1
    try clear c5
    try clear c5b0
    try clear c5b1
    try clear c6
    try clear c6b0
    obtain ⟨kq, x29_2, rfl, HA, HJ2, HB⟩ := hcut
    cases kq with
    | zero => exact absurd HA.out (by simp [impl_CountingSeries.j0])
    | succ kj2 =>
      have H := HA.out
      clear HA
      simp only [impl_CountingSeries.j0] at H
      by_cases c7 : x29_2 = true
      · subst c7
        have H1 : (some (([] : List Int), 2)) = some (r1, r2) := by rw [if_pos rfl] at H; exact H
        clear H
        have H := H1
        clear H1
        simp only [Option.some.injEq, Prod.mk.injEq] at H
        obtain ⟨rfl, rfl⟩ := H
        go_wp2
        go_ret2
        exact ⟨_, mE, by first | exact Kd.R_nil _ _ _ _ _ | exact Kd.N_nil _ _ _ _ _ | exact Kd.V_nil _ _ _ _ _ | exact Kd.Q_nil _ _ _ _ _ | exact Kd.S_nil _ _ _ _ _, mB⟩
      · replace c7 := Bool.eq_false_iff.mpr c7
        subst c7
        have H1 : (if 0 ≤ (wrap64 (a1 + 1)) then (if (wrap64 (a1 + 1) : Int).toNat ≤ 35184372088832 then (impl_CountingSeries.l0 kj2 l0 a1 (List.replicate (wrap64 (a1 + 1) : Int).toNat 0) l0 (l0.length : Int) 0) else (none)) else (none)) = some (r1, r2) := by rw [if_neg (show ¬ (false = true) by decide)] at H; exact H
        clear H
        have H := H1
        clear H1
        obtain ⟨ji8, hji8⟩ : ∃ j_ : Int, (wrap64 (a1 + 1)) = j_ := ⟨_, rfl⟩
        replace H : (if 0 ≤ (ji8) then (if (ji8 : Int).toNat ≤ 35184372088832 then (impl_CountingSeries.l0 kj2 l0 a1 (List.replicate (ji8 : Int).toNat 0) l0 (l0.length : Int) 0) else (none)) else (none)) = some (r1, r2) := by first | (rw [hji8] at H; exact H) | (simp only [hji8] at H ⊢; exact H)
        have hji8w : (IntKind.i64.wrap (a1 + 1)) = ji8 := (i64_w _).trans hji8
        by_cases c9 : 0 ≤ (ji8)
        · rw [if_pos c9] at H
          have c9b0 := eq_true c9
          have c9b1 : decide (0 ≤ (ji8)) = true := decide_eq_true c9
          clear c9
          by_cases c10 : (ji8 : Int).toNat ≤ 35184372088832
          · rw [if_pos c10] at H
            have c10b0 := eq_true c10
            have c10b1 : decide ((ji8 : Int).toNat ≤ 35184372088832) = true := decide_eq_true c10
            clear c10
            obtain ⟨y240, hy240⟩ : ∃ y_ : List Int, y_ = (List.replicate (ji8 : Int).toNat 0) := ⟨_, rfl⟩
            replace H : (impl_CountingSeries.l0 kj2 l0 a1 y240 l0 (l0.length : Int) 0) = some (r1, r2) := by first | (rw [hy240]; with_reducible exact H) | (have H2_ := (Option.bind_some _ _).symm.trans H; rw [hy240]; with_reducible exact H2_) | (have H2_ := (Option.bind_some _ _).symm.trans H; with_reducible exact H2_) | with_reducible exact H | (rw [hy240]; exact H) | exact H
            have Ny240 := Aside0.mk hy240
            clear hy240
            have H' := Aside0.mk H
            clear H
            go_wp2_with (first | ((with_reducible refine gate_dst (N := 32) rfl ?_); (try (refine gate_guard (by rfl) ?_; dsimp only)); refine Kd.R_make (Kd.int .i64) _ 2 rfl (N := 32) rfl 22 _ _ rfl ji8 rfl rfl Try.underlying22 (.int .i64 0) 8 info2 rfl (by decide) (by omega) 0 (ok := fun _ => True) (okp := fun _ => True) rfl (fun _ hk => hk) trivial (of_decide_eq_true mS) (Nat.le_trans (Nat.mul_le_mul_right _ (of_decide_eq_true mS : ji8.toNat ≤ 35184372088832)) (by omega)) (Below.refl _ _) (Nat.le_refl _) ?_; intro v241 w11 ho12 hb hg_ hnew_; clear hg_ hnew_; (first | rw [← Ny240.out] at ho12 | (simp only [Int.reduceToNat] at ho12; rw [← Ny240.out] at ho12)); have n0_ := Aside0.mk (Kd.R_lower ho12 (below_size mB)); have n1_ := Aside0.mk (below_step mB hb); clear HB; have HO242 := n0_; have HB := n1_; clear n0_ n1_; clear hb ho12))
            go_loopg [35] kj2 (fun kq v35 w' => ∃ (x6_2 : List Int) (x35_2 : Int), v35 = .int .i64 x35_2 ∧ Aside0 (impl_CountingSeries.l0 kq l0 a1 x6_2 l0 (l0.length : Int) x35_2 = some (r1, r2)) ∧ Aside0 (kq ≤ kj2) ∧ Aside0 (Kd.R (Kd.int .i64) 2 w' w.heap.size (fun _ => True) v241 x6_2) ∧ Aside0 (Below w.heap.size w w'))
            case atStart => exact ⟨(y240), (0), mF, H', ⟨Nat.le_refl _⟩, ⟨mR HO242.out⟩, ⟨mB⟩⟩
            case round =>
              clear H'
              try clear c1
              try clear p2
              try clear c4
              try clear c4b0
              try clear c4b1
              try clear c5
              try clear c5b0
              try clear c5b1
              try clear c6
              try clear c6b0
              try clear p6
              try clear c7
              try clear c9
              try clear c9b0
              try clear c9b1
              try clear c10
              try clear c10b0
              try clear c10b1
              try clear p2
              obtain ⟨x6_2, x35_2, rfl, HA, HK2, HO_6, HB⟩ := hrel
              cases gk with
              | zero => exact absurd HA.out (by simp [impl_CountingSeries.l0])
              | succ k2 =>
                have H := HA.out
                clear HA
                simp only [impl_CountingSeries.l0] at H
                by_cases c13 : x35_2 < (l0.length : Int)
                · rw [if_pos c13] at H
                  have c13b0 : decide (x35_2 < (l0.length : Int)) = true := decide_eq_true c13
                  clear c13
                  by_cases c14 : 0 ≤ x35_2
                  · rw [if_pos c14] at H
                    have c14b0 : decide (0 ≤ x35_2) = true := decide_eq_true c14
                    clear c14
                    by_cases c15 : x35_2 < (l0.length : Int)
                    · rw [if_pos c15] at H
                      have c15b0 : decide (x35_2 < (l0.length : Int)) = true := decide_eq_true c15
                      clear c15
                      replace H := Option.bind_eq_some_iff.mp H
                      obtain ⟨t244, A160, H⟩ := H
                      replace H : (if (t244.length : Int) = 0 then (impl_CountingSeries.j2 k2 l0 a1 x6_2 t244 l0 (l0.length : Int) x35_2 true) else (if 0 < (l0.length : Int) then (impl_CountingSeries.j2 k2 l0 a1 x6_2 t244 l0 (l0.length : Int) x35_2 (((rd_L2 l0 x35_2).length : Int) != ((rd_L2 l0 0).length : Int))) else (none))) = some (r1, r2) := H
                      have A16 := Aside0.mk A160
                      clear A160
                      have HC17 := Aside0.mk H
                      clear H
                      have p243 : 0 ≤ (x35_2 : Int) := of_decide_eq_true mS
                      have q243 : x35_2 < (l0.length : Int) := of_decide_eq_true mS
                      obtain ⟨ad243, A243_0, c243_0, e243, hx243_0, hl243_0, hi243_0⟩ := at_L2 HR0.out x35_2 p243 q243
                      cases e243
                      replace hx243_0 := cB HB hx243_0
                      have HR243_0 := Aside0.mk hi243_0
                      have HC243_0 := Aside0.mk hl243_0
                      clear hi243_0 hl243_0
                      replace p243 := eq_true p243
                      replace q243 := eq_true q243
                      go_upto_region 8 with (first | ((with_reducible refine gate_callee (f := 26) rfl ?_); refine goL (some 40) Try.func26 #[.slice A243_0 (rd_L2 l0 x35_2).length c243_0] (h := ?_); (with_reducible refine (impl_cycleType.callsN k2 _ _ (rd_L2 l0 x35_2) t244 _ ?side1 ?side2 A16.out).mono ?_); (case side1 => exact mC (Kd.C_below HR243_0.out HB.out)); (case side2 => exact HC243_0.out); rintro e w18 ⟨v245, rfl, ho0, hb, hnl⟩; refine ⟨_, rfl, ?_⟩; have hq_v245 := nil_eq (P := Try.prog) ho0 hnl Try.underlying22; have hg_v245 := nil_guard (P := Try.prog) ho0; clear hnl; have n0_ := Aside0.mk (Kd.R_elder' (mR HO_6.out) (Kd.R_base ho0) hb); have n1_ := Aside0.mk (Kd.R_lower (Kd.R_new' ho0 (Kd.R_lt (mR HO_6.out))) (below_size mB)); have n2_ := Aside0.mk (below_step mB hb); clear HO_6; clear HB; have HO_6 := n0_; have HO246 := n1_; have HB := n2_; clear n0_ n1_ n2_; (try clear hb); (try clear hb2); (try clear hk); (try clear hi); (try clear ho0)))
                      (try simp only [Act.put, List.setIfInBounds_toArray, List.set_cons_zero, List.set_cons_succ])
                      go_cut [51] (fun v51 wc => ∃ (kq : Nat) (x51_16 : Bool), v51 = .bool x51_16 ∧ Aside0 (impl_CountingSeries.j2 kq l0 a1 x6_2 t244 l0 (l0.length : Int) x35_2 x51_16 = some (r1, r2)) ∧ Aside0 (kq ≤ k2) ∧ Aside0 (Kd.R (Kd.int .i64) 2 wc w.heap.size (fun k_ => some k_ ≠ (v245 : Value).ownBlock) v241 x6_2) ∧ Aside0 (Kd.R (Kd.int .i64) 2 wc w.heap.size (fun k_ => some k_ ≠ (v241 : Value).ownBlock) v245 t244) ∧ Aside0 (Below w.heap.size w wc))
                      case first =>
                        have H := HC17.out
                        clear HC17
                        by_cases c19 : (t244.length : Int) = 0
                        · rw [if_pos c19] at H
                          have c19b0 : ((t244.length : Int) == 0) = true := beq_iff_eq.mpr c19
                          have c19b1 : ((t244.length : Int) != 0) = false := bne_eq_false_iff_eq.mpr c19
                          clear c19
                          (first | rw [c19b0] | (simp only [i64_w, i32_w]; rw [c19b0]) | skip)
                          have H' := Aside0.mk H
                          clear H
                          go_wp2
                          go_meet
                          case rel => exact ⟨_, (true), mF, H', ⟨by have := HJ2.out; have := HK2.out; first | omega | exact Nat.le_refl _⟩, ⟨by (with_reducible repeat (first | apply Kd.R_alloc | apply Kd.R_drewN | apply Kd.R_drew)); exact Kd.R_mono HO_6.out (fun _ hk => hk.2)⟩, ⟨by (with_reducible repeat (first | apply Kd.R_alloc | apply Kd.R_drewN | apply Kd.R_drew)); exact Kd.R_mono HO246.out (fun _ hk => hk.2)⟩, ⟨mB⟩⟩
                        · rw [if_neg c19] at H
                          have c19b0 : ((t244.length : Int) == 0) = false := beq_eq_false_iff_ne.mpr c19
                          have c19b1 : ((t244.length : Int) != 0) = true := bne_iff_ne.mpr c19
                          have c19b2 : ¬ (t244 = []) := fun h_ => c19 (by rw [h_]; rfl)
                          (first | rw [c19b0] | (simp only [i64_w, i32_w]; rw [c19b0]) | skip)
                          by_cases c20 : 0 < (l0.length : Int)
                          · rw [if_pos c20] at H
                            have c20b0 : decide (0 < (l0.length : Int)) = true := decide_eq_true c20
                            have c20b1 : decide (0 < l0.length) = true := decide_eq_true (by omega)
                            clear c20
                            have H' := Aside0.mk H
                            clear H
                            have p247 : 0 ≤ (0 : Int) := (by omega)
                            have q247 : 0 < (l0.length : Int) := of_decide_eq_true mS
                            obtain ⟨ad247, A247_0, c247_0, e247, hx247_0, hl247_0, hi247_0⟩ := at_L2 HR0.out 0 p247 q247
                            obtain rfl : ad243 = ad247 := (by injection e247)
                            have qi247 : (0 < l0.length) = True := eq_true (by omega)
                            (try rw [show ((0 : Int)).toNat = 0 from rfl] at hx247_0)
                            (try rw [Addr.add_zero'] at hx247_0)
                            replace hx247_0 := cB HB hx247_0
                            have HR247_0 := Aside0.mk hi247_0
                            have HC247_0 := Aside0.mk hl247_0
                            clear hi247_0 hl247_0
                            replace p247 := eq_true p247
                            replace q247 := eq_true q247
                            go_wp2
                            go_meet
                            case rel => exact ⟨_, ((((rd_L2 l0 x35_2).length : Int) != ((rd_L2 l0 0).length : Int))), mF, H', ⟨by have := HJ2.out; have := HK2.out; first | omega | exact Nat.le_refl _⟩, ⟨by (with_reducible repeat (first | apply Kd.R_alloc | apply Kd.R_drewN | apply Kd.R_drew)); exact Kd.R_mono HO_6.out (fun _ hk => hk.2)⟩, ⟨by (with_reducible repeat (first | apply Kd.R_alloc | apply Kd.R_drewN | apply Kd.R_drew)); exact Kd.R_mono HO246.out (fun _ hk => hk.2)⟩, ⟨mB⟩⟩
                          · rw [if_neg c20] at H
                            exact absurd H (by simp)
                      case rest =>
                        clear HC17
                        try clear c1
                        try clear c2
                        try clear p2
                        try clear q2
                        try clear hx2
                        try clear qi2
                        try clear c4
                        try clear c4b0
                        try clear c4b1
                        try clear c5
                        try clear c5b0
                        try clear c5b1
                        try clear c6
                        try clear c6b0
                        try clear p6
                        try clear c7
                        try clear c9
                        try clear c9b0
                        try clear c9b1
                        try clear c10
                        try clear c10b0
                        try clear c10b1
                        try clear c13
                        try clear c13b0
                        try clear c14
                        try clear c14b0
                        try clear c15
                        try clear c15b0
                        try clear c19
                        try clear c19b0
                        try clear c19b1
                        try clear c19b2
                        try clear c20
                        try clear c20b0
                        try clear c20b1
                        try clear hx243_0
                        try clear hx247_0
                        try clear p2
                        try clear p243
                        try clear p247
                        try clear p6
                        try clear q243
                        try clear q247
                        obtain ⟨kq, x51_16, rfl, HA, HJ16, HO_6, HO_9, HB⟩ := hcut
                        cases kq with
                        | zero => exact absurd HA.out (by simp [impl_CountingSeries.j2])
                        | succ kj16 =>
                          have H := HA.out
                          clear HA
                          simp only [impl_CountingSeries.j2] at H
                          by_cases c21 : x51_16 = true
                          · subst c21
                            have H1 : (some (([] : List Int), 2)) = some (r1, r2) := by rw [if_pos rfl] at H; exact H
                            clear H
                            have H := H1
                            clear H1
                            simp only [Option.some.injEq, Prod.mk.injEq] at H
                            obtain ⟨rfl, rfl⟩ := H
                            go_wp2
                            go_ret2
                            exact ⟨_, by first | rfl | (simp [errW_none, errW_some] <;> rfl) | (simp only [← hji8]; first | rfl | (simp [errW_none, errW_some] <;> rfl)) | (simp [*, errW_none, errW_some] <;> rfl), by first | exact Kd.R_nil _ _ _ _ _ | exact Kd.N_nil _ _ _ _ _ | exact Kd.V_nil _ _ _ _ _ | exact Kd.Q_nil _ _ _ _ _ | exact Kd.S_nil _ _ _ _ _, mB⟩
                          · replace c21 := Bool.eq_false_iff.mpr c21
                            subst c21
                            have H1 : ((impl_ways.f kj16 t244 a1).bind fun t248 => (impl_CountingSeries.l1 kj16 l0 a1 x6_2 l0 (l0.length : Int) x35_2 t248 (t248.length : Int) 0)) = some (r1, r2) := by rw [if_neg (show ¬ (false = true) by decide)] at H; exact H
                            clear H
                            have H := H1
                            clear H1
                            replace H := Option.bind_eq_some_iff.mp H
                            obtain ⟨t248, A220, H⟩ := H
                            replace H : (impl_CountingSeries.l1 kj16 l0 a1 x6_2 l0 (l0.length : Int) x35_2 t248 (t248.length : Int) 0) = some (r1, r2) := H
                            have A22 := Aside0.mk A220
                            clear A220
                            have H' := Aside0.mk H
                            clear H
                            obtain ⟨Ao23, co23, eo23⟩ := Kd.R_slice HO_9.out
                            subst eo23
                            go_wp2_with (first | ((with_reducible refine gate_callee (f := 30) rfl ?_); refine goL (some 54) Try.func30 #[.slice Ao23 t244.length co23, .int .i64 a1] (h := ?_); (with_reducible refine (impl_ways.calls kj16 _ _ t244 a1 t248 _ ?side1 ?side2 A22.out).mono ?_); (case side1 => repeat (first | exact (Kd.R_reads' HO_9.out).2.2 | (with_reducible refine Kd.C_alloc ?_ _) | (with_reducible refine Kd.C_drewN ?_ _) | (with_reducible refine Kd.C_drew ?_))); (case side2 => exact (Kd.R_reads' HO_9.out).2.1); rintro e w24 ⟨v249, rfl, ho0, hb⟩; refine ⟨_, rfl, ?_⟩; have n0_ := Aside0.mk (Kd.R_elder' (mR HO_6.out) (Kd.R_base ho0) hb); have n1_ := Aside0.mk (Kd.R_elder' (mR HO_9.out) (Kd.R_base ho0) hb); have n2_ := Aside0.mk (Kd.R_lower (Kd.R_new' (Kd.R_new' ho0 (Kd.R_lt (mR HO_6.out))) (Kd.R_lt (mR HO_9.out))) (below_size mB)); have n3_ := Aside0.mk (below_step mB hb); clear HO_6; clear HO_9; clear HB; have HO_6 := n0_; have HO_9 := n1_; have HO250 := n2_; have HB := n3_; clear n0_ n1_ n2_ n3_; (try clear hb); (try clear hb2); (try clear hk); (try clear hi); (try clear ho0); obtain ⟨Ao25, co25, eo25⟩ := Kd.R_slice HO250.out; subst eo25))
                            go_loopg [56] kj16 (fun kq v56 w' => ∃ (x6_4 : List Int) (x56_4 : Int), v56 = .int .i64 x56_4 ∧ Aside0 (impl_CountingSeries.l1 kq l0 a1 x6_4 l0 (l0.length : Int) x35_2 t248 (t248.length : Int) x56_4 = some (r1, r2)) ∧ Aside0 (kq ≤ kj16) ∧ Aside0 (Kd.R (Kd.int .i64) 2 w' w.heap.size (fun k_ => some k_ ≠ ((.slice Ao25 t248.length co25) : Value).ownBlock) v241 x6_4) ∧ Aside0 (Kd.R (Kd.int .i64) 2 w' w.heap.size (fun k_ => some k_ ≠ (v241 : Value).ownBlock) (.slice Ao25 t248.length co25) t248) ∧ Aside0 (Below w.heap.size w w'))
                            case atStart => exact ⟨(x6_2), (0), mF, H', ⟨Nat.le_refl _⟩, ⟨by (with_reducible repeat (first | apply Kd.R_alloc | apply Kd.R_drewN | apply Kd.R_drew)); exact Kd.R_mono HO_6.out (fun _ hk => hk.2)⟩, ⟨by (with_reducible repeat (first | apply Kd.R_alloc | apply Kd.R_drewN | apply Kd.R_drew)); exact Kd.R_mono HO250.out (fun _ hk => hk.1.2)⟩, ⟨mB⟩⟩
                            case round =>
                              clear H'
                              try clear c1
                              try clear c2
                              try clear p2
                              try clear q2
                              try clear hx2
                              try clear qi2
                              try clear c3
                              try clear c4
                              try clear c4b0
                              try clear c4b1
                              try clear c5
                              try clear c5b0
                              try clear c5b1
                              try clear c6
                              try clear c6b0
                              try clear p6
                              try clear c7
                              try clear c9
                              try clear c9b0
                              try clear c9b1
                              try clear c10
                              try clear c10b0
                              try clear c10b1
                              try clear c13
                              try clear c13b0
                              try clear c14
                              try clear c14b0
                              try clear c15
                              try clear c15b0
                              try clear c19
                              try clear c19b0
                              try clear c19b1
                              try clear c19b2
                              try clear c20
                              try clear c20b0
                              try clear c20b1
                              try clear c21
                              try clear c24
                              try clear p24
                              try clear q24
                              try clear hx24
                              try clear qi24
                              try clear hx243_0
                              try clear hx247_0
                              try clear p2
                              try clear p243
                              try clear p247
                              try clear p6
                              try clear q2
                              try clear q243
                              try clear q247
                              obtain ⟨x6_4, x56_4, rfl, HA, HK4, HO_6, HO_54, HB⟩ := hrel
                              cases gk with
                              | zero => exact absurd HA.out (by simp [impl_CountingSeries.l1])
                              | succ k4 =>
                                have H := HA.out
                                clear HA
                                simp only [impl_CountingSeries.l1] at H
                                by_cases c26 : x56_4 < (t248.length : Int)
                                · rw [if_pos c26] at H
                                  have c26b0 : decide (x56_4 < (t248.length : Int)) = true := decide_eq_true c26
                                  clear c26
                                  by_cases c27 : 0 ≤ x56_4
                                  · rw [if_pos c27] at H
                                    have c27b0 : decide (0 ≤ x56_4) = true := decide_eq_true c27
                                    clear c27
                                    by_cases c28 : x56_4 < (t248.length : Int)
                                    · rw [if_pos c28] at H
                                      have c28b0 : decide (x56_4 < (t248.length : Int)) = true := decide_eq_true c28
                                      clear c28
                                      by_cases c29 : x56_4 < (x6_4.length : Int)
                                      · rw [if_pos c29] at H
                                        have c29b0 : decide (x56_4 < (x6_4.length : Int)) = true := decide_eq_true c29
                                        clear c29
                                        obtain ⟨y253, hy253⟩ : ∃ y_ : List Int, y_ = (x6_4.set (x56_4 : Int).toNat (wrap64 ((rd x6_4 x56_4) + (rd t248 x56_4)))) := ⟨_, rfl⟩
                                        replace H : (impl_CountingSeries.l1 k4 l0 a1 y253 l0 (l0.length : Int) x35_2 t248 (t248.length : Int) (wrap64 (x56_4 + 1))) = some (r1, r2) := by first | (rw [hy253]; with_reducible exact H) | (have H2_ := (Option.bind_some _ _).symm.trans H; rw [hy253]; with_reducible exact H2_) | (have H2_ := (Option.bind_some _ _).symm.trans H; with_reducible exact H2_) | with_reducible exact H | (rw [hy253]; exact H) | exact H
                                        have Ny253 := Aside0.mk hy253
                                        clear hy253
                                        have H' := Aside0.mk H
                                        clear H
                                        have p251 : 0 ≤ (x56_4 : Int) := of_decide_eq_true mS
                                        have q251 : x56_4 < (t248.length : Int) := of_decide_eq_true mS
                                        obtain ⟨ad251, e251, hx251_0⟩ := Kd.at_int (Kd.R_reads' HO_54.out).2.2 x56_4 p251 q251
                                        cases e251
                                        replace p251 := eq_true p251
                                        replace q251 := eq_true q251
                                        obtain ⟨Ao31, co31, eo31⟩ := Kd.R_slice HO_6.out
                                        subst eo31
                                        have p252 : 0 ≤ (x56_4 : Int) := of_decide_eq_true mS
                                        have q252 : x56_4 < (x6_4.length : Int) := of_decide_eq_true mS
                                        obtain ⟨ad252, e252, hx252_0⟩ := Kd.at_int (Kd.R_reads' HO_6.out).2.2 x56_4 p252 q252
                                        cases e252
                                        replace p252 := eq_true p252
                                        replace q252 := eq_true q252
                                        have p30 : 0 ≤ (x56_4 : Int) := of_decide_eq_true mS
                                        have q30 : (x56_4 : Int) < ((x6_4.length : Int) : Int) := of_decide_eq_true mS
                                        obtain ⟨go30, co30, eo30, gb30, gl30, cl30, HG30⟩ := Kd.R_form HO_6.out (by omega)
                                        (first | cases eo30 | (injection eo30 with ea_ en_ ec_; (first | subst ea_ | (injection ea_ with ea_; subst ea_)); subst ec_; clear en_))
                                        have GB30 := Aside0.mk gb30
                                        have GG30 := Aside0.mk HG30
                                        clear gb30 gl30 HG30
                                        (first | simp only [add_plain] at hx252_0 | skip)
                                        obtain ⟨hx30_0, hf30_0⟩ := Kd.R_celln 0 HO_6.out (x56_4 : Int) p30 q30
                                        replace p30 := eq_true p30
                                        replace q30 := eq_true q30
                                        have HP32 := Kd.R_putg HO_6.out (x56_4 : Int) (wrap64 ((rd x6_4 x56_4) + (rd t248 x56_4)))
                                        go_wp2_with (first | ((with_reducible refine gate_store (t := 2) (p := 67) rfl ?_); refine store_event (t := 2) (p := 67) (v := ?vo_w33) (w1 := (wr.setCell ⟨go30, (x56_4 : Int).toNat, none⟩ (.int .i64 (wrap64 ((rd x6_4 x56_4) + (rd t248 x56_4)))))) ?hg ?ho ?hn ?hr ?_; (case ho => rfl); (case hg => rfl); (case hn => rfl); (case hr => first | (go_simp; done) | (go_simp; rfl)); intro w33 hw; have hg : wr.grownBy w33 (some go30) := (by rw [hw]; exact HP32.2); have hp_ : Kd.R (Kd.int .i64) 2 w33 w.heap.size (fun k_ => some k_ ≠ (.slice (some ad251) t248.length co25 : Value).ownBlock) (.slice (some ⟨go30, 0, none⟩) x6_4.length co31) y253 := (by rw [hw, Ny253.out]; exact HP32.1); clear HP32; have n0_ := Aside0.mk (hp_); have n1_ := Aside0.mk (Kd.R_after (v := (.slice (some ⟨go30, 0, none⟩) x6_4.length co31)) (v1 := (.slice (some ⟨go30, 0, none⟩) x6_4.length co31)) (ok := (fun _ => True)) (by (with_reducible repeat (first | apply Kd.R_alloc | apply Kd.R_drewN | apply Kd.R_drew)); exact Kd.R_mono HO_54.out (fun _ hk => ⟨trivial, hk⟩)) hg (.inl rfl)); have n2_ := Aside0.mk ((by rw [hw]; exact below_set (HB.out) GB30.out : Below w.heap.size w w33)); clear HO_6; clear HO_54; clear HB; have HO_6 := n0_; have HO_54 := n1_; have HB := n2_; clear n0_ n1_ n2_; clear hg hw hp_))
                                        go_roundg k4
                                        case measure => have := HJ2.out; have := HK2.out; have := HJ16.out; have := HK4.out; omega
                                        case rel => exact ⟨(y253), (wrap64 (x56_4 + 1)), mF, H', ⟨by have := HJ2.out; have := HK2.out; have := HJ16.out; have := HK4.out; omega⟩, ⟨mR HO_6.out⟩, ⟨by (with_reducible repeat (first | apply Kd.R_alloc | apply Kd.R_drewN | apply Kd.R_drew)); exact Kd.R_mono HO_54.out (fun _ hk => hk.2)⟩, ⟨mB⟩⟩
                                      · rw [if_neg c29] at H
                                        exact absurd H (by simp)
                                    · rw [if_neg c28] at H
                                      exact absurd H (by simp)
                                  · rw [if_neg c27] at H
                                    exact absurd H (by simp)
                                · rw [if_neg c26] at H
                                  have c26b0 : decide (x56_4 < (t248.length : Int)) = false := decide_eq_false c26
                                  clear c26
                                  have H' := Aside0.mk H
                                  clear H
                                  go_wp2
                                  go_roundg k4
                                  case measure => have := HJ2.out; have := HK2.out; have := HJ16.out; have := HK4.out; omega
                                  case rel => exact ⟨(x6_4), (wrap64 (x35_2 + 1)), mF, H', ⟨by have := HJ2.out; have := HK2.out; have := HJ16.out; have := HK4.out; omega⟩, ⟨by (with_reducible repeat (first | apply Kd.R_alloc | apply Kd.R_drewN | apply Kd.R_drew)); exact Kd.R_mono HO_6.out (fun _ hk => trivial)⟩, ⟨mB⟩⟩
                    · rw [if_neg c15] at H
                      exact absurd H (by simp)
                  · rw [if_neg c14] at H
                    exact absurd H (by simp)
                · rw [if_neg c13] at H
                  have c13b0 : decide (x35_2 < (l0.length : Int)) = false := decide_eq_false c13
                  clear c13
                  have H' := Aside0.mk H
                  clear H
                  obtain ⟨Ao34, co34, eo34⟩ := Kd.R_slice HO_6.out
                  subst eo34
                  go_wp2
                  go_loopg [74] k2 (fun kq v74 w' => ∃ (x6_3 : List Int) (x74_3 : Int), v74 = .int .i64 x74_3 ∧ Aside0 (impl_CountingSeries.l2 kq x6_3 (l0.length : Int) (x6_2.length : Int) x74_3 = some (r1, r2)) ∧ Aside0 (kq ≤ k2) ∧ Aside0 (Kd.R (Kd.int .i64) 2 w' w.heap.size (fun _ => True) (.slice Ao34 x6_2.length co34) x6_3) ∧ Aside0 (Below w.heap.size w w'))
                  case atStart => exact ⟨(x6_2), (0), mF, H', ⟨Nat.le_refl _⟩, ⟨mR HO_6.out⟩, ⟨mB⟩⟩
                  case round =>
                    clear H'
                    try clear c1
                    try clear c2
                    try clear p2
                    try clear q2
                    try clear hx2
                    try clear qi2
                    try clear c3
                    try clear p3
                    try clear q3
                    try clear hx3
                    try clear hf3
                    try clear c4
                    try clear c4b0
                    try clear c4b1
                    try clear c5
                    try clear c5b0
                    try clear c5b1
                    try clear c6
                    try clear c6b0
                    try clear p6
                    try clear c7
                    try clear c9
                    try clear c9b0
                    try clear c9b1
                    try clear c10
                    try clear c10b0
                    try clear c10b1
                    try clear c13
                    try clear c13b0
                    try clear c14
                    try clear c14b0
                    try clear c15
                    try clear c15b0
                    try clear c19
                    try clear c19b0
                    try clear c19b1
                    try clear c19b2
                    try clear c20
                    try clear c20b0
                    try clear c20b1
                    try clear c21
                    try clear c24
                    try clear p24
                    try clear q24
                    try clear hx24
                    try clear qi24
                    try clear p25
                    try clear q25
                    try clear hx25
                    try clear c26
                    try clear c26b0
                    try clear c27
                    try clear c27b0
                    try clear c28
                    try clear c28b0
                    try clear c29
                    try clear c29b0
                    try clear c30
                    try clear p30
                    try clear q30
                    try clear hx30
                    try clear hf30
                    try clear hx243_0
                    try clear hx247_0
                    try clear hx251_0
                    try clear hx252_0
                    try clear hx30_0
                    try clear p2
                    try clear p24
                    try clear p243
                    try clear p247
                    try clear p251
                    try clear p252
                    try clear p30
                    try clear p6
                    try clear q2
                    try clear q24
                    try clear q243
                    try clear q247
                    try clear q251
                    try clear q252
                    try clear q30
                    obtain ⟨x6_3, x74_3, rfl, HA, HK3, HO_6, HB⟩ := hrel
                    have hl6_3 := (Kd.R_reads' HO_6.out).1
                    rw [hl6_3] at HO_6
                    (try simp only [hl6_3])
                    cases gk with
                    | zero => exact absurd HA.out (by simp [impl_CountingSeries.l2])
                    | succ k3 =>
                      have H := HA.out
                      clear HA
                      simp only [impl_CountingSeries.l2] at H
                      by_cases c35 : x74_3 < (x6_2.length : Int)
                      · rw [if_pos c35] at H
                        have c35b0 : decide (x74_3 < (x6_2.length : Int)) = true := decide_eq_true c35
                        have c35b0z := c35b0
                        (try simp only [hl6_3] at c35b0z)
                        clear c35
                        by_cases c36 : 0 ≤ x74_3
                        · rw [if_pos c36] at H
                          have c36b0 : decide (0 ≤ x74_3) = true := decide_eq_true c36
                          clear c36
                          by_cases c37 : x74_3 < (x6_3.length : Int)
                          · rw [if_pos c37] at H
                            have c37b0 : decide (x74_3 < (x6_3.length : Int)) = true := decide_eq_true c37
                            have c37b0z := c37b0
                            (try simp only [hl6_3] at c37b0z)
                            clear c37
                            by_cases c38 : (l0.length : Int) = 0
                            · rw [if_pos c38] at H
                              exact absurd H (by simp)
                            · rw [if_neg c38] at H
                              have c38b0 : ((l0.length : Int) == 0) = false := beq_eq_false_iff_ne.mpr c38
                              have c38b1 : ((l0.length : Int) != 0) = true := bne_iff_ne.mpr c38
                              have c38b2 : ¬ (l0 = []) := fun h_ => c38 (by rw [h_]; rfl)
                              by_cases c39 : (Int.tmod (rd x6_3 x74_3) (l0.length : Int)) = 0
                              · rw [if_pos c39] at H
                                have c39b0 : ((Int.tmod (rd x6_3 x74_3) (l0.length : Int)) == 0) = true := beq_iff_eq.mpr c39
                                have c39b1 : ((Int.tmod (rd x6_3 x74_3) (l0.length : Int)) != 0) = false := bne_eq_false_iff_eq.mpr c39
                                clear c39
                                obtain ⟨y256, hy256⟩ : ∃ y_ : List Int, y_ = (x6_3.set (x74_3 : Int).toNat (wrap64 (Int.tdiv (rd x6_3 x74_3) (l0.length : Int)))) := ⟨_, rfl⟩
                                replace H : (impl_CountingSeries.l2 k3 y256 (l0.length : Int) (x6_2.length : Int) (wrap64 (x74_3 + 1))) = some (r1, r2) := by first | (rw [hy256]; with_reducible exact H) | (have H2_ := (Option.bind_some _ _).symm.trans H; rw [hy256]; with_reducible exact H2_) | (have H2_ := (Option.bind_some _ _).symm.trans H; with_reducible exact H2_) | with_reducible exact H | (rw [hy256]; exact H) | exact H
                                have Ny256 := Aside0.mk hy256
                                clear hy256
                                have H' := Aside0.mk H
                                clear H
                                have p254 : 0 ≤ (x74_3 : Int) := of_decide_eq_true mS
                                have q254 : x74_3 < (x6_3.length : Int) := of_decide_eq_true mS
                                obtain ⟨ad254, e254, hx254_0⟩ := Kd.at_int (Kd.R_reads' HO_6.out).2.2 x74_3 p254 q254
                                cases e254
                                replace p254 := eq_true p254
                                replace q254 := eq_true q254
                                have p255 : 0 ≤ (x74_3 : Int) := of_decide_eq_true mS
                                have q255 : x74_3 < (x6_3.length : Int) := of_decide_eq_true mS
                                obtain ⟨ad255, e255, hx255_0⟩ := Kd.at_int (Kd.R_reads' HO_6.out).2.2 x74_3 p255 q255
                                obtain rfl : ad254 = ad255 := (by injection e255)
                                replace p255 := eq_true p255
                                replace q255 := eq_true q255
                                have p40 : 0 ≤ (x74_3 : Int) := of_decide_eq_true mS
                                have q40 : (x74_3 : Int) < ((x6_3.length : Int) : Int) := of_decide_eq_true mS
                                obtain ⟨go40, co40, eo40, gb40, gl40, cl40, HG40⟩ := Kd.R_form HO_6.out (by omega)
                                (first | cases eo40 | (injection eo40 with ea_ en_ ec_; (first | subst ea_ | (injection ea_ with ea_; subst ea_)); subst ec_; clear en_))
                                have GB40 := Aside0.mk gb40
                                have GG40 := Aside0.mk HG40
                                clear gb40 gl40 HG40
                                (first | simp only [add_plain] at hx254_0 | skip)
                                (first | simp only [add_plain] at hx255_0 | skip)
                                obtain ⟨hx40_0, hf40_0⟩ := Kd.R_celln 0 HO_6.out (x74_3 : Int) p40 q40
                                replace p40 := eq_true p40
                                replace q40 := eq_true q40
                                have HP41 := Kd.R_putg HO_6.out (x74_3 : Int) (wrap64 (Int.tdiv (rd x6_3 x74_3) (l0.length : Int)))
                                go_wp2_with (first | ((with_reducible refine gate_store (t := 2) (p := 90) rfl ?_); refine store_event (t := 2) (p := 90) (v := ?vo_w42) (w1 := (wr.setCell ⟨go40, (x74_3 : Int).toNat, none⟩ (.int .i64 (wrap64 (Int.tdiv (rd x6_3 x74_3) (l0.length : Int)))))) ?hg ?ho ?hn ?hr ?_; (case ho => rfl); (case hg => rfl); (case hn => rfl); (case hr => first | (go_simp; done) | (go_simp; rfl)); intro w42 hw; have hg : wr.grownBy w42 (some go40) := (by rw [hw]; exact HP41.2); have hp_ : Kd.R (Kd.int .i64) 2 w42 w.heap.size (fun _ => True) (.slice (some ⟨go40, 0, none⟩) x6_3.length co34) y256 := (by rw [hw, Ny256.out]; exact HP41.1); clear HP41; have n0_ := Aside0.mk (hp_); have n1_ := Aside0.mk ((by rw [hw]; exact below_set (HB.out) GB40.out : Below w.heap.size w w42)); clear HO_6; clear HB; have HO_6 := n0_; have HB := n1_; clear n0_ n1_; clear hg hw hp_))
                                (try simp only [← hl6_3])
                                go_roundg k3
                                case measure => have := HJ2.out; have := HK2.out; have := HK3.out; omega
                                case rel => exact ⟨(y256), (wrap64 (x74_3 + 1)), mF, H', ⟨by have := HJ2.out; have := HK2.out; have := HK3.out; omega⟩, ⟨by (try simp only [hl6_3]); (with_reducible repeat (first | apply Kd.R_alloc | apply Kd.R_drewN | apply Kd.R_drew)); exact HO_6.out⟩, ⟨mB⟩⟩
                              · rw [if_neg c39] at H
                                have c39b0 : ((Int.tmod (rd x6_3 x74_3) (l0.length : Int)) == 0) = false := beq_eq_false_iff_ne.mpr c39
                                have c39b1 : ((Int.tmod (rd x6_3 x74_3) (l0.length : Int)) != 0) = true := bne_iff_ne.mpr c39
                                simp only [Option.some.injEq, Prod.mk.injEq] at H
                                obtain ⟨rfl, rfl⟩ := H
                                have p254 : 0 ≤ (x74_3 : Int) := of_decide_eq_true mS
                                have q254 : x74_3 < (x6_3.length : Int) := of_decide_eq_true mS
                                obtain ⟨ad254, e254, hx254_0⟩ := Kd.at_int (Kd.R_reads' HO_6.out).2.2 x74_3 p254 q254
                                cases e254
                                replace p254 := eq_true p254
                                replace q254 := eq_true q254
                                go_wp2
                                go_ret2
                                exact ⟨_, by first | rfl | (simp [errW_none, errW_some] <;> rfl) | (simp only [← hji8]; first | rfl | (simp [errW_none, errW_some] <;> rfl)) | (simp [*, errW_none, errW_some] <;> rfl), by first | exact Kd.R_nil _ _ _ _ _ | exact Kd.N_nil _ _ _ _ _ | exact Kd.V_nil _ _ _ _ _ | exact Kd.Q_nil _ _ _ _ _ | exact Kd.S_nil _ _ _ _ _, mB⟩
                          · rw [if_neg c37] at H
                            exact absurd H (by simp)
                        · rw [if_neg c36] at H
                          exact absurd H (by simp)
                      · rw [if_neg c35] at H
                        have c35b0 : decide (x74_3 < (x6_2.length : Int)) = false := decide_eq_false c35
                        have c35b0z := c35b0
                        (try simp only [hl6_3] at c35b0z)
                        clear c35
                        simp only [Option.some.injEq, Prod.mk.injEq] at H
                        obtain ⟨rfl, rfl⟩ := H
                        go_wp2
                        go_ret2
                        exact ⟨_, by first | rfl | (simp [errW_none, errW_some] <;> rfl) | (simp only [← hji8]; first | rfl | (simp [errW_none, errW_some] <;> rfl)) | (simp [*, errW_none, errW_some] <;> rfl), mR HO_6.out, mB⟩
          · rw [if_neg c10] at H
            exact absurd H (by simp)
        · rw [if_neg c9] at H
          exact absurd H (by simp)

/-! ### laws_big: function 18 -/
def laws_big.f (l0 : List Int) : Option (Bool) := some (decide ((l0.length : Int) > 4096))
set_option maxHeartbeats 8000000 in
set_option maxRecDepth 100000 in
theorem laws_big.calls (A0 : Option Addr) (c0 : Nat) (l0 : List Int) (r : Bool) (w : World) (hr0 : Kd.C (Kd.int .u8) w A0 l0.length l0) (hc0 : l0.length ≤ c0) (h : laws_big.f l0 = some r) :
    Calls Try.prog 18 #[.slice A0 l0.length c0] w fun e w' => e = .returned (.bool r) ∧ Drawn0 w w' := by
  have HR0 := Aside0.mk hr0
  have HC0 := Aside0.mk hc0
  clear hr0 hc0
  have H : (some (decide ((l0.length : Int) > 4096))) = some r := h
  clear h
  obtain rfl := Option.some.inj H
  go_enter Try.func18, Try.ntmps18
  go_wp2
  go_ret
  exact ⟨mF, by repeat (first | exact Drawn0.refl _ | apply Drawn0.step)⟩

end Go.Proofs.Ytpegpdcdcfcgdaa.EFnPermutationSeries
