/- The functions that the law uses, as plain functions, and that the code comes to what they say. -/
import Derived.Test.YtpeihdjefpnoaaaEFnExactFreeNumberx0
import Derived.Test.YtpeihdjefpnoaaaEFnExactFreeNumberx1
import Derived.Test.YtpeihdjefpnoaaaEFnExactFreeNumberx3
import Derived.Test.YtpeihdjefpnoaaaEFnExactFreeNumberx4
namespace Go.Proofs.Ytpeihdjefpnoaaa.EFnExactFreeNumber
open Go.RowKit Go.Proofs.YtpeihdjefpnoaaaW.PrintWords Go.Proofs.YtpeihdjefpnoaaaW.PrintLast Go.Proofs.YtpeihdjefpnoaaaW.PrintMore Go.Proofs.YtpeihdjefpnoaaaX
attribute [local go_sem] max2_int min2_int max_two min_two max_three min_three max_four min_four   -- for this text's walks alone
set_option linter.unusedVariables false
set_option linter.unusedSimpArgs false

/-! ### spec_l05List: function 39 -/
mutual
def spec_l05List.l0 : Nat → List (S44) → Int → Option (Int)
  | 0, _, _ => none
  | k + 1, x0, x3 => if x3 < (x0.length : Int) then (if 0 ≤ x3 then ((spec_l01Is.f k ((rd_T44 x0 x3).f0) ((rd_T44 x0 x3).f1) ((rd_T44 x0 x3).f2)).bind fun t131 => (if t131 = true then (spec_l05List.l0 k x0 (wrap64 (x3 + 1))) else (some 1))) else (none)) else (if (x0.length : Int) > 8 then (some 2) else (spec_l05List.l1 k x0 0))
def spec_l05List.l1 : Nat → List (S44) → Int → Option (Int)
  | 0, _, _ => none
  | k + 1, x0, x4 => if x4 < (x0.length : Int) then (if 0 ≤ x4 then (if 0 < (x0.length : Int) then (if ((rd_T44 x0 x4).f0) = ((rd_T44 x0 0).f0) then (if ((rd_T44 x0 x4).f1) = ((rd_T44 x0 0).f1) then ((spec_l01Degree.f ((rd_T44 x0 x4).f0) ((rd_T44 x0 x4).f1) ((rd_T44 x0 x4).f2)).bind fun t137 => (if t137 < 1 then (some 2) else ((spec_l01Even.f ((rd_T44 x0 x4).f0) ((rd_T44 x0 x4).f1) ((rd_T44 x0 x4).f2)).bind fun t139 => (if t139 = true then (spec_l05List.l1 k x0 (wrap64 (x4 + 1))) else (some 2))))) else (some 2)) else (some 2)) else (none)) else (none)) else (some 0)
end
def spec_l05List.f (k : Nat) (l0 : List (S44)) : Option (Int) := spec_l05List.l0 k l0 0
theorem spec_l05List.mono_l : ∀ k, (∀ y0 y1, LeO (spec_l05List.l0 k y0 y1) (spec_l05List.l0 (k + 1) y0 y1)) ∧ (∀ y0 y1, LeO (spec_l05List.l1 k y0 y1) (spec_l05List.l1 (k + 1) y0 y1))
  | 0 => ⟨fun _ _ r h => by simp [spec_l05List.l0] at h, fun _ _ r h => by simp [spec_l05List.l1] at h⟩
  | k + 1 => by
    obtain ⟨ih0, ih1⟩ := spec_l05List.mono_l k
    refine ⟨?_, ?_⟩
    · intro y0 y1
      unfold spec_l05List.l0
      repeat' first
      | (with_reducible exact ih0 _ _)
      | (with_reducible exact ih1 _ _)
      | (with_reducible exact spec_l01Is.mono _ _ _ _)
      | (with_reducible exact LeO.refl _)
      | (with_reducible exact LeO.none _)
      | (with_reducible refine LeO.ite ?_ ?_)
      | (with_reducible refine LeO.bind ?_ (fun _ => ?_))
      | exact ih0 _ _
      | exact ih1 _ _
      | exact spec_l01Is.mono _ _ _ _
      | exact LeO.none _
      | refine LeO.ite ?_ ?_
      | refine LeO.bind ?_ (fun _ => ?_)
    · intro y0 y1
      unfold spec_l05List.l1
      repeat' first
      | (with_reducible exact ih0 _ _)
      | (with_reducible exact ih1 _ _)
      | (with_reducible exact spec_l01Is.mono _ _ _ _)
      | (with_reducible exact LeO.refl _)
      | (with_reducible exact LeO.none _)
      | (with_reducible refine LeO.ite ?_ ?_)
      | (with_reducible refine LeO.bind ?_ (fun _ => ?_))
      | exact ih0 _ _
      | exact ih1 _ _
      | exact spec_l01Is.mono _ _ _ _
      | exact LeO.none _
      | refine LeO.ite ?_ ?_
      | refine LeO.bind ?_ (fun _ => ?_)
theorem spec_l05List.mono : ∀ a0 k, LeO (spec_l05List.f k a0) (spec_l05List.f (k + 1) a0) := by
  intro a0 k
  obtain ⟨ih0, ih1⟩ := spec_l05List.mono_l k
  unfold spec_l05List.f
  repeat' first
      | (with_reducible exact ih0 _ _)
      | (with_reducible exact ih1 _ _)
      | (with_reducible exact spec_l01Is.mono _ _ _ _)
      | (with_reducible exact LeO.refl _)
      | (with_reducible exact LeO.none _)
      | (with_reducible refine LeO.ite ?_ ?_)
      | (with_reducible refine LeO.bind ?_ (fun _ => ?_))
      | exact ih0 _ _
      | exact ih1 _ _
      | exact spec_l01Is.mono _ _ _ _
      | exact LeO.none _
      | refine LeO.ite ?_ ?_
      | refine LeO.bind ?_ (fun _ => ?_)
def spec_l05List.T11 : Bool × List (List Nat × List Nat) := (true, [([], []), ([], []), ([0, 1], [0, 1]), ([2], [2]), ([3], [3]), ([], []), ([5], [5]), ([6], [6]), ([7], [7]), ([4, 8], [4, 8]), ([9], [9]), ([10], [10]), ([10], [10]), ([11, 12, 10], [10, 11, 12]), ([13, 10], [10, 13]), ([14, 10], [10, 14]), ([10], [10]), ([16, 10], [10, 16]), ([17, 10], [10, 17]), ([18, 10], [10, 18]), ([15, 19, 10], [10, 15, 19]), ([10, 20], [10, 20]), ([21, 10], [21]), ([22], [22]), ([22], [22]), ([23, 24, 22], [22, 23, 24]), ([25, 22], [22, 25]), ([26, 22, 22], [22, 26]), ([27, 22], [22, 27]), ([22, 28], [22, 28]), ([29, 27], [29]), ([30], [30]), ([30], [30]), ([31, 32, 30], [30, 31, 32]), ([33, 30], [30, 33]), ([34, 30, 30], [30, 34]), ([35, 30], [30, 35]), ([30, 36], [30, 36])])
def spec_l05List.B11 : List Nat := [0, 0, 3, 7, 15, 0, 32, 96, 224, 511, 1023, 2047, 2047, 8191, 16383, 32767, 2047, 67583, 198655, 460799, 1048575, 2097151, 4194303, 8388607, 8388607, 33554431, 67108863, 134217727, 268435455, 536870911, 1073741823, 2147483647, 2147483647, 8589934591, 17179869183, 34359738367, 68719476735, 137438953471]
theorem spec_l05List.tab11 : rtab .any (opsOf Try.f39 11) = spec_l05List.T11 := by kernel_rfl
theorem spec_l05List.bits11 : waitsOk spec_l05List.T11.2 spec_l05List.B11 = true := by kernel_rfl
set_option maxHeartbeats 8000000 in
set_option maxRecDepth 100000 in
theorem spec_l05List.calls (k : Nat) (A0 : Option Addr) (c0 : Nat) (l0 : List (S44)) (r : Int) (w : World) (hr0 : Kd.C k44 w A0 l0.length l0) (hc0 : l0.length ≤ c0) (h : spec_l05List.f k l0 = some r) :
    Calls Try.prog 39 #[.slice A0 l0.length c0] w fun e w' => e = .returned (.int .i64 r) ∧ Below w.heap.size w w' := by
  have hu44 := Try.underlying44
  have HR0 := Aside0.mk hr0
  have HC0 := Aside0.mk hc0
  clear hr0 hc0
  have HB := Aside0.mk (Below.refl w.heap.size w)
  have H : (spec_l05List.l0 k l0 0) = some r := h
  clear h
  have H' := Aside0.mk H
  clear H
  go_enter Try.func39, Try.ntmps39
  go_wp2
  go_loopg [3] k (fun kq v3 w' => ∃ (x3_1 : Int), v3 = .int .i64 x3_1 ∧ Aside0 (spec_l05List.l0 kq l0 x3_1 = some r) ∧ Aside0 (kq ≤ k) ∧ Aside0 (Below w.heap.size w w'))
  case atStart => exact ⟨(0), mF, H', ⟨Nat.le_refl _⟩, ⟨mB⟩⟩
  case round =>
    clear H'
    obtain ⟨x3_1, rfl, HA, HK1, HB⟩ := hrel
    cases gk with
    | zero => exact absurd HA.out (by simp [spec_l05List.l0])
    | succ k1 =>
      have H := HA.out
      clear HA
      simp only [spec_l05List.l0] at H
      by_cases c2 : x3_1 < (l0.length : Int)
      · rw [if_pos c2] at H
        have c2b0 : decide (x3_1 < (l0.length : Int)) = true := decide_eq_true c2
        clear c2
        by_cases c3 : 0 ≤ x3_1
        · rw [if_pos c3] at H
          have c3b0 : decide (0 ≤ x3_1) = true := decide_eq_true c3
          clear c3
          replace H := Option.bind_eq_some_iff.mp H
          obtain ⟨t131, A40, H⟩ := H
          replace H : (if t131 = true then (spec_l05List.l0 k1 l0 (wrap64 (x3_1 + 1))) else (some 1)) = some r := H
          have A4 := Aside0.mk A40
          clear A40
          by_cases c5 : t131 = true
          · subst c5
            have H1 : (spec_l05List.l0 k1 l0 (wrap64 (x3_1 + 1))) = some r := by rw [if_pos rfl] at H; exact H
            clear H
            have H := H1
            clear H1
            have H' := Aside0.mk H
            clear H
            have p130 : 0 ≤ (x3_1 : Int) := of_decide_eq_true mS
            have q130 : x3_1 < (l0.length : Int) := of_decide_eq_true mS
            obtain ⟨ad130, A130_2, c130_2, e130, hx130_0, hx130_1, hx130_2, hl130_2, hi130_2⟩ := at_T44 HR0.out x3_1 p130 q130
            cases e130
            replace hx130_0 := cB HB hx130_0
            replace hx130_1 := cB HB hx130_1
            replace hx130_2 := cB HB hx130_2
            have HR130_2 := Aside0.mk hi130_2
            have HC130_2 := Aside0.mk hl130_2
            clear hi130_2 hl130_2
            replace p130 := eq_true p130
            replace q130 := eq_true q130
            go_wp2_with (first | ((with_reducible refine gate_callee (f := 46) rfl ?_); refine goL (some 15) Try.func46 #[.agg #[.int .i64 ((rd_T44 l0 x3_1).f0), .int .i64 ((rd_T44 l0 x3_1).f1), .slice A130_2 ((rd_T44 l0 x3_1).f2).length c130_2]] (h := ?_); (with_reducible refine (spec_l01Is.calls k1 ((rd_T44 l0 x3_1).f0) ((rd_T44 l0 x3_1).f1) _ _ ((rd_T44 l0 x3_1).f2) true _ ?side1 ?side2 A4.out).mono ?_); (case side1 => exact mC (Kd.C_below HR130_2.out HB.out)); (case side2 => exact HC130_2.out); rintro e w6 ⟨rfl, hb⟩; refine ⟨_, rfl, ?_⟩; have n0_ := Aside0.mk (below_step mB hb); clear HB; have HB := n0_; clear n0_; (try clear hb); (try clear hb2); (try clear hk); (try clear hi)))
            go_roundg k1
            case measure => have := HK1.out; omega
            case rel => exact ⟨(wrap64 (x3_1 + 1)), mF, H', ⟨by have := HK1.out; omega⟩, ⟨mB⟩⟩
          · replace c5 := Bool.eq_false_iff.mpr c5
            subst c5
            have H1 : (some 1) = some r := by rw [if_neg (show ¬ (false = true) by decide)] at H; exact H
            clear H
            have H := H1
            clear H1
            obtain rfl := Option.some.inj H
            have p130 : 0 ≤ (x3_1 : Int) := of_decide_eq_true mS
            have q130 : x3_1 < (l0.length : Int) := of_decide_eq_true mS
            obtain ⟨ad130, A130_2, c130_2, e130, hx130_0, hx130_1, hx130_2, hl130_2, hi130_2⟩ := at_T44 HR0.out x3_1 p130 q130
            cases e130
            replace hx130_0 := cB HB hx130_0
            replace hx130_1 := cB HB hx130_1
            replace hx130_2 := cB HB hx130_2
            have HR130_2 := Aside0.mk hi130_2
            have HC130_2 := Aside0.mk hl130_2
            clear hi130_2 hl130_2
            replace p130 := eq_true p130
            replace q130 := eq_true q130
            go_wp2_with (first | ((with_reducible refine gate_callee (f := 46) rfl ?_); refine goL (some 15) Try.func46 #[.agg #[.int .i64 ((rd_T44 l0 x3_1).f0), .int .i64 ((rd_T44 l0 x3_1).f1), .slice A130_2 ((rd_T44 l0 x3_1).f2).length c130_2]] (h := ?_); (with_reducible refine (spec_l01Is.calls k1 ((rd_T44 l0 x3_1).f0) ((rd_T44 l0 x3_1).f1) _ _ ((rd_T44 l0 x3_1).f2) false _ ?side1 ?side2 A4.out).mono ?_); (case side1 => exact mC (Kd.C_below HR130_2.out HB.out)); (case side2 => exact HC130_2.out); rintro e w7 ⟨rfl, hb⟩; refine ⟨_, rfl, ?_⟩; have n0_ := Aside0.mk (below_step mB hb); clear HB; have HB := n0_; clear n0_; (try clear hb); (try clear hb2); (try clear hk); (try clear hi)))
            go_ret
            exact ⟨mE, mB⟩
        · rw [if_neg c3] at H
          exact absurd H (by simp)
      · rw [if_neg c2] at H
        have c2b0 : decide (x3_1 < (l0.length : Int)) = false := decide_eq_false c2
        clear c2
        by_cases c8 : (l0.length : Int) > 8
        · rw [if_pos c8] at H
          have c8b0 : decide (8 < (l0.length : Int)) = true := decide_eq_true c8
          have c8b1 : decide (8 < l0.length) = true := decide_eq_true (by omega)
          clear c8
          obtain rfl := Option.some.inj H
          go_wp2
          go_ret
          exact ⟨mE, mB⟩
        · rw [if_neg c8] at H
          have c8b0 : decide (8 < (l0.length : Int)) = false := decide_eq_false c8
          have c8b1 : decide (8 < l0.length) = false := decide_eq_false (by omega)
          clear c8
          have H' := Aside0.mk H
          clear H
          go_wp2
          go_loopg [4] k1 (fun kq v4 w' => ∃ (x4_2 : Int), v4 = .int .i64 x4_2 ∧ Aside0 (spec_l05List.l1 kq l0 x4_2 = some r) ∧ Aside0 (kq ≤ k1) ∧ Aside0 (Below w.heap.size w w'))
          case atStart => exact ⟨(0), mF, H', ⟨Nat.le_refl _⟩, ⟨mB⟩⟩
          case round =>
            clear H'
            try clear c1
            try clear p1
            try clear q1
            try clear hx1
            try clear c2
            try clear c2b0
            try clear p2
            try clear c3
            try clear c3b0
            try clear c4
            try clear c5
            try clear p6
            try clear c8
            try clear c8b0
            try clear c8b1
            try clear hx130_0
            try clear hx130_1
            try clear hx130_2
            try clear p130
            try clear q130
            obtain ⟨x4_2, rfl, HA, HK2, HB⟩ := hrel
            cases gk with
            | zero => exact absurd HA.out (by simp [spec_l05List.l1])
            | succ k2 =>
              have H := HA.out
              clear HA
              simp only [spec_l05List.l1] at H
              by_cases c9 : x4_2 < (l0.length : Int)
              · rw [if_pos c9] at H
                have c9b0 : decide (x4_2 < (l0.length : Int)) = true := decide_eq_true c9
                clear c9
                by_cases c10 : 0 ≤ x4_2
                · rw [if_pos c10] at H
                  have c10b0 : decide (0 ≤ x4_2) = true := decide_eq_true c10
                  clear c10
                  by_cases c11 : 0 < (l0.length : Int)
                  · rw [if_pos c11] at H
                    have c11b0 : decide (0 < (l0.length : Int)) = true := decide_eq_true c11
                    have c11b1 : decide (0 < l0.length) = true := decide_eq_true (by omega)
                    clear c11
                    by_cases c12 : ((rd_T44 l0 x4_2).f0) = ((rd_T44 l0 0).f0)
                    · rw [if_pos c12] at H
                      have c12b0 : (((rd_T44 l0 x4_2).f0) == ((rd_T44 l0 0).f0)) = true := beq_iff_eq.mpr c12
                      have c12b1 : (((rd_T44 l0 x4_2).f0) != ((rd_T44 l0 0).f0)) = false := bne_eq_false_iff_eq.mpr c12
                      clear c12
                      by_cases c13 : ((rd_T44 l0 x4_2).f1) = ((rd_T44 l0 0).f1)
                      · rw [if_pos c13] at H
                        have c13b0 : (((rd_T44 l0 x4_2).f1) == ((rd_T44 l0 0).f1)) = true := beq_iff_eq.mpr c13
                        have c13b1 : (((rd_T44 l0 x4_2).f1) != ((rd_T44 l0 0).f1)) = false := bne_eq_false_iff_eq.mpr c13
                        clear c13
                        replace H := Option.bind_eq_some_iff.mp H
                        obtain ⟨t137, A140, H⟩ := H
                        replace H : (if t137 < 1 then (some 2) else ((spec_l01Even.f ((rd_T44 l0 x4_2).f0) ((rd_T44 l0 x4_2).f1) ((rd_T44 l0 x4_2).f2)).bind fun t139 => (if t139 = true then (spec_l05List.l1 k2 l0 (wrap64 (x4_2 + 1))) else (some 2)))) = some r := H
                        have A14 := Aside0.mk A140
                        clear A140
                        by_cases c15 : t137 < 1
                        · rw [if_pos c15] at H
                          have c15b0 : decide (t137 < 1) = true := decide_eq_true c15
                          clear c15
                          obtain rfl := Option.some.inj H
                          try go_wp2
                          have n0_ := Aside0.mk (below_drew1 HB.out)
                          clear HB
                          have HB := n0_
                          clear n0_
                          have p132 : 0 ≤ (x4_2 : Int) := of_decide_eq_true mS
                          have q132 : x4_2 < (l0.length : Int) := of_decide_eq_true mS
                          obtain ⟨ad132, A132_2, c132_2, e132, hx132_0, hx132_1, hx132_2, hl132_2, hi132_2⟩ := at_T44 HR0.out x4_2 p132 q132
                          have hw132_2 := hx132_2
                          have hw132_1 := hx132_1
                          have hw132_0 := hx132_0
                          cases e132
                          replace hx132_0 := cB HB hx132_0
                          replace hx132_1 := cB HB hx132_1
                          replace hx132_2 := cB HB hx132_2
                          have HR132_2 := Aside0.mk hi132_2
                          have HC132_2 := Aside0.mk hl132_2
                          clear hi132_2 hl132_2
                          replace p132 := eq_true p132
                          replace q132 := eq_true q132
                          have p133 : 0 ≤ (0 : Int) := (by omega)
                          have q133 : 0 < (l0.length : Int) := of_decide_eq_true mS
                          obtain ⟨ad133, A133_2, c133_2, e133, hx133_0, hx133_1, hx133_2, hl133_2, hi133_2⟩ := at_T44 HR0.out 0 p133 q133
                          have hw133_2 := hx133_2
                          (try rw [show ((0 : Int)).toNat = 0 from rfl] at hw133_2)
                          (try rw [show 0 * 3 = 0 from rfl] at hw133_2)
                          (try rw [Addr.add_zero'] at hw133_2)
                          have hw133_1 := hx133_1
                          (try rw [show ((0 : Int)).toNat = 0 from rfl] at hw133_1)
                          (try rw [show 0 * 3 = 0 from rfl] at hw133_1)
                          (try rw [Addr.add_zero'] at hw133_1)
                          have hw133_0 := hx133_0
                          (try rw [show ((0 : Int)).toNat = 0 from rfl] at hw133_0)
                          (try rw [show 0 * 3 = 0 from rfl] at hw133_0)
                          (try rw [Addr.add_zero'] at hw133_0)
                          obtain rfl : ad132 = ad133 := (by injection e133)
                          have qi133 : (0 < l0.length) = True := eq_true (by omega)
                          (try rw [show ((0 : Int)).toNat = 0 from rfl] at hx133_0)
                          (try rw [show 0 * 3 = 0 from rfl] at hx133_0)
                          (try rw [Addr.add_zero'] at hx133_0)
                          (try rw [show ((0 : Int)).toNat = 0 from rfl] at hx133_1)
                          (try rw [show 0 * 3 = 0 from rfl] at hx133_1)
                          (try rw [Addr.add_zero'] at hx133_1)
                          (try rw [show ((0 : Int)).toNat = 0 from rfl] at hx133_2)
                          (try rw [show 0 * 3 = 0 from rfl] at hx133_2)
                          (try rw [Addr.add_zero'] at hx133_2)
                          replace hx133_0 := cB HB hx133_0
                          replace hx133_1 := cB HB hx133_1
                          replace hx133_2 := cB HB hx133_2
                          have HR133_2 := Aside0.mk hi133_2
                          have HC133_2 := Aside0.mk hl133_2
                          clear hi133_2 hl133_2
                          replace p133 := eq_true p133
                          replace q133 := eq_true q133
                          have p134 : 0 ≤ (x4_2 : Int) := of_decide_eq_true mS
                          have q134 : x4_2 < (l0.length : Int) := of_decide_eq_true mS
                          obtain ⟨ad134, A134_2, c134_2, e134, hx134_0, hx134_1, hx134_2, hl134_2, hi134_2⟩ := at_T44 HR0.out x4_2 p134 q134
                          have hw134_2 := hx134_2
                          have hw134_1 := hx134_1
                          have hw134_0 := hx134_0
                          obtain rfl : ad132 = ad134 := (by injection e134)
                          replace hx134_0 := cB HB hx134_0
                          replace hx134_1 := cB HB hx134_1
                          replace hx134_2 := cB HB hx134_2
                          have HR134_2 := Aside0.mk hi134_2
                          have HC134_2 := Aside0.mk hl134_2
                          clear hi134_2 hl134_2
                          replace p134 := eq_true p134
                          replace q134 := eq_true q134
                          have ea_ := Option.some.inj (hx132_2.symm.trans hx134_2)
                          injection ea_ with ea_ en_ ec_
                          subst ea_
                          subst ec_
                          clear en_
                          have p135 : 0 ≤ (0 : Int) := (by omega)
                          have q135 : 0 < (l0.length : Int) := of_decide_eq_true mS
                          obtain ⟨ad135, A135_2, c135_2, e135, hx135_0, hx135_1, hx135_2, hl135_2, hi135_2⟩ := at_T44 HR0.out 0 p135 q135
                          have hw135_2 := hx135_2
                          (try rw [show ((0 : Int)).toNat = 0 from rfl] at hw135_2)
                          (try rw [show 0 * 3 = 0 from rfl] at hw135_2)
                          (try rw [Addr.add_zero'] at hw135_2)
                          have hw135_1 := hx135_1
                          (try rw [show ((0 : Int)).toNat = 0 from rfl] at hw135_1)
                          (try rw [show 0 * 3 = 0 from rfl] at hw135_1)
                          (try rw [Addr.add_zero'] at hw135_1)
                          have hw135_0 := hx135_0
                          (try rw [show ((0 : Int)).toNat = 0 from rfl] at hw135_0)
                          (try rw [show 0 * 3 = 0 from rfl] at hw135_0)
                          (try rw [Addr.add_zero'] at hw135_0)
                          obtain rfl : ad132 = ad135 := (by injection e135)
                          have qi135 : (0 < l0.length) = True := eq_true (by omega)
                          (try rw [show ((0 : Int)).toNat = 0 from rfl] at hx135_0)
                          (try rw [show 0 * 3 = 0 from rfl] at hx135_0)
                          (try rw [Addr.add_zero'] at hx135_0)
                          (try rw [show ((0 : Int)).toNat = 0 from rfl] at hx135_1)
                          (try rw [show 0 * 3 = 0 from rfl] at hx135_1)
                          (try rw [Addr.add_zero'] at hx135_1)
                          (try rw [show ((0 : Int)).toNat = 0 from rfl] at hx135_2)
                          (try rw [show 0 * 3 = 0 from rfl] at hx135_2)
                          (try rw [Addr.add_zero'] at hx135_2)
                          replace hx135_0 := cB HB hx135_0
                          replace hx135_1 := cB HB hx135_1
                          replace hx135_2 := cB HB hx135_2
                          have HR135_2 := Aside0.mk hi135_2
                          have HC135_2 := Aside0.mk hl135_2
                          clear hi135_2 hl135_2
                          replace p135 := eq_true p135
                          replace q135 := eq_true q135
                          have ea_ := Option.some.inj (hx133_2.symm.trans hx135_2)
                          injection ea_ with ea_ en_ ec_
                          subst ea_
                          subst ec_
                          clear en_
                          have p136 : 0 ≤ (x4_2 : Int) := of_decide_eq_true mS
                          have q136 : x4_2 < (l0.length : Int) := of_decide_eq_true mS
                          obtain ⟨ad136, A136_2, c136_2, e136, hx136_0, hx136_1, hx136_2, hl136_2, hi136_2⟩ := at_T44 HR0.out x4_2 p136 q136
                          have hw136_2 := hx136_2
                          have hw136_1 := hx136_1
                          have hw136_0 := hx136_0
                          obtain rfl : ad132 = ad136 := (by injection e136)
                          replace hx136_0 := cB HB hx136_0
                          replace hx136_1 := cB HB hx136_1
                          replace hx136_2 := cB HB hx136_2
                          have HR136_2 := Aside0.mk hi136_2
                          have HC136_2 := Aside0.mk hl136_2
                          clear hi136_2 hl136_2
                          replace p136 := eq_true p136
                          replace q136 := eq_true q136
                          have ea_ := Option.some.inj (hx132_2.symm.trans hx136_2)
                          injection ea_ with ea_ en_ ec_
                          subst ea_
                          subst ec_
                          clear en_
                          refine start_ (n := 38) (S := fun w' => w'.cell? (ad132.add ((x4_2).toNat * 3)) = some (.int .i64 ((rd_T44 l0 x4_2).f0)) ∧ w'.cell? ⟨(ad132.add ((x4_2).toNat * 3)).block, (ad132.add ((x4_2).toNat * 3)).off + 1, none⟩ = some (.int .i64 ((rd_T44 l0 x4_2).f1)) ∧ w'.cell? ⟨(ad132.add ((x4_2).toNat * 3)).block, (ad132.add ((x4_2).toNat * 3)).off + 2, none⟩ = some (.slice A132_2 ((rd_T44 l0 x4_2).f2).length c132_2) ∧ w'.cell? ad132 = some (.int .i64 ((rd_T44 l0 0).f0)) ∧ w'.cell? ⟨ad132.block, ad132.off + 1, none⟩ = some (.int .i64 ((rd_T44 l0 0).f1)) ∧ w'.cell? ⟨ad132.block, ad132.off + 2, none⟩ = some (.slice A133_2 ((rd_T44 l0 0).f2).length c133_2) ∧ w'.cell? (ad132.add ((x4_2).toNat * 3)) = some (.int .i64 ((rd_T44 l0 x4_2).f0)) ∧ w'.cell? ⟨(ad132.add ((x4_2).toNat * 3)).block, (ad132.add ((x4_2).toNat * 3)).off + 1, none⟩ = some (.int .i64 ((rd_T44 l0 x4_2).f1)) ∧ w'.cell? ⟨(ad132.add ((x4_2).toNat * 3)).block, (ad132.add ((x4_2).toNat * 3)).off + 2, none⟩ = some (.slice A132_2 ((rd_T44 l0 x4_2).f2).length c132_2) ∧ w'.cell? ad132 = some (.int .i64 ((rd_T44 l0 0).f0)) ∧ w'.cell? ⟨ad132.block, ad132.off + 1, none⟩ = some (.int .i64 ((rd_T44 l0 0).f1)) ∧ w'.cell? ⟨ad132.block, ad132.off + 2, none⟩ = some (.slice A133_2 ((rd_T44 l0 0).f2).length c133_2) ∧ w'.cell? (ad132.add ((x4_2).toNat * 3)) = some (.int .i64 ((rd_T44 l0 x4_2).f0)) ∧ w'.cell? ⟨(ad132.add ((x4_2).toNat * 3)).block, (ad132.add ((x4_2).toNat * 3)).off + 1, none⟩ = some (.int .i64 ((rd_T44 l0 x4_2).f1)) ∧ w'.cell? ⟨(ad132.add ((x4_2).toNat * 3)).block, (ad132.add ((x4_2).toNat * 3)).off + 2, none⟩ = some (.slice A132_2 ((rd_T44 l0 x4_2).f2).length c132_2)) (ds := []) #[false, false, false, false, false, false, false, false, false, false, false, false, false, false, false, false, false, false, false, false, false, false, false, false, false, false, false, false, false, false, false, false, false, false, false, false, false, false] (by kernel_rfl) rfl rfl ⟨(cD HB hw132_0), (cD HB hw132_1), (cD HB hw132_2), (cD HB hw133_0), (cD HB hw133_1), (cD HB hw133_2), (cD HB hw134_0), (cD HB hw134_1), (cD HB hw134_2), (cD HB hw135_0), (cD HB hw135_1), (cD HB hw135_2), (cD HB hw136_0), (cD HB hw136_1), (cD HB hw136_2)⟩ (fun hHeld => ?_); refine with_tabW spec_l05List.tab11 spec_l05List.bits11 (fun HT_ HW_ => ?_)
                          generalize wr.drew = w16 at HB HR132_2 HR133_2 HR134_2 HR135_2 HR136_2 hx132_0 hx132_1 hx132_2 hx133_0 hx133_1 hx133_2 hx134_0 hx134_1 hx134_2 hx135_0 hx135_1 hx135_2 hx136_0 hx136_1 hx136_2 hHeld ⊢
                          refine pu 0 26 HT_ (h := ?_)
                          refine pu 1 27 HT_ (h := ?_)
                          refine pu 2 28 HT_ (h := ?_)
                          refine pu 3 29 HT_ (h := ?_)
                          refine pu 5 31 HT_ (h := ?_)
                          refine pu 6 32 HT_ (h := ?_)
                          refine pu 7 33 HT_ (h := ?_)
                          refine ta 4 30 HT_ HW_ hHeld (hy := by rintro w' ⟨s0, s1, s2, s3, s4, s5, s6, s7, s8, s9, s10, s11, s12, s13, s14⟩; go_simp; with_reducible rfl) (h := ?_)
                          refine ta 8 34 HT_ HW_ hHeld (hy := by rintro w' ⟨s0, s1, s2, s3, s4, s5, s6, s7, s8, s9, s10, s11, s12, s13, s14⟩; go_simp; with_reducible rfl) (h := ?_)
                          refine pu 9 35 HT_ (h := ?_)
                          refine pu 10 36 HT_ (h := ?_)
                          refine pu 11 37 HT_ (h := ?_)
                          refine pu 12 38 HT_ (h := ?_)
                          refine pu 13 39 HT_ (h := ?_)
                          refine pu 14 40 HT_ (h := ?_)
                          refine pu 16 42 HT_ (h := ?_)
                          refine pu 17 43 HT_ (h := ?_)
                          refine pu 18 44 HT_ (h := ?_)
                          refine ta 15 41 HT_ HW_ hHeld (hy := by rintro w' ⟨s0, s1, s2, s3, s4, s5, s6, s7, s8, s9, s10, s11, s12, s13, s14⟩; go_simp; with_reducible rfl) (h := ?_)
                          refine ta 19 45 HT_ HW_ hHeld (hy := by rintro w' ⟨s0, s1, s2, s3, s4, s5, s6, s7, s8, s9, s10, s11, s12, s13, s14⟩; go_simp; with_reducible rfl) (h := ?_)
                          refine pu 20 46 HT_ (h := ?_)
                          refine pu 21 47 HT_ (h := ?_)
                          refine pu 22 48 HT_ (h := ?_)
                          refine pu 23 49 HT_ (h := ?_)
                          refine pu 24 50 HT_ (h := ?_)
                          refine pu 25 51 HT_ (h := ?_)
                          refine ta 26 52 HT_ HW_ hHeld (hy := by rintro w' ⟨s0, s1, s2, s3, s4, s5, s6, s7, s8, s9, s10, s11, s12, s13, s14⟩; go_simp; with_reducible rfl) (h := ?_)
                          refine one_ (i := 27) (N := some 53) #[true, true, true, true, true, true, true, true, true, true, true, true, true, true, true, true, true, true, true, true, true, true, true, true, true, true, true, true, false, false, false, false, false, false, false, false, false, false] rfl rfl (one_of HT_.out (by kernel_rfl)) (by decide) (fun K hK => ?_)
                          refine go_ Try.func34 #[.agg #[.int .i64 ((rd_T44 l0 x4_2).f0), .int .i64 ((rd_T44 l0 x4_2).f1), .slice A132_2 ((rd_T44 l0 x4_2).f2).length c132_2]] (h := ?_)
                          with_reducible refine (spec_l01Degree.calls ((rd_T44 l0 x4_2).f0) ((rd_T44 l0 x4_2).f1) _ _ ((rd_T44 l0 x4_2).f2) t137 _ ?side1 ?side2 A14.out).mono ?_
                          (case side1 => exact mC (Kd.C_below HR136_2.out HB.out))
                          (case side2 => exact HC136_2.out)
                          rintro e w17 ⟨rfl, hb⟩
                          refine ⟨_, rfl, ?_⟩
                          have n0_ := Aside0.mk (below_step mB hb)
                          clear HB
                          have HB := n0_
                          clear n0_
                          (try clear hb)
                          (try clear hb2)
                          (try clear hk)
                          (try clear hi)
                          refine hK.out _ _ ⟨(cD HB hw132_0), (cD HB hw132_1), (cD HB hw132_2), (cD HB hw133_0), (cD HB hw133_1), (cD HB hw133_2), (cD HB hw134_0), (cD HB hw134_1), (cD HB hw134_2), (cD HB hw135_0), (cD HB hw135_1), (cD HB hw135_2), (cD HB hw136_0), (cD HB hw136_1), (cD HB hw136_2)⟩ (fun hHeld => ?_)
                          clear hK K
                          refine nm (h := ?_)
                          refine pu 28 54 HT_ (h := ?_)
                          refine pu 29 55 HT_ (h := ?_)
                          refine pu 30 56 HT_ (h := ?_)
                          refine pv 31 57 HT_ (h := ?_)
                          refine pv 32 58 HT_ (h := ?_)
                          refine pv 33 59 HT_ (h := ?_)
                          refine pv 34 60 HT_ (h := ?_)
                          refine pv 35 61 HT_ (h := ?_)
                          refine pv 36 62 HT_ (h := ?_)
                          refine pu 37 63 HT_ (h := ?_)
                          refine done_ (done_of HT_.out (by kernel_rfl)) ?_
                          try go_wp2
                          go_ret
                          exact ⟨mE, mB⟩
                        · rw [if_neg c15] at H
                          have c15b0 : decide (t137 < 1) = false := decide_eq_false c15
                          clear c15
                          replace H := Option.bind_eq_some_iff.mp H
                          obtain ⟨t139, A180, H⟩ := H
                          replace H : (if t139 = true then (spec_l05List.l1 k2 l0 (wrap64 (x4_2 + 1))) else (some 2)) = some r := H
                          have A18 := Aside0.mk A180
                          clear A180
                          by_cases c19 : t139 = true
                          · subst c19
                            have H1 : (spec_l05List.l1 k2 l0 (wrap64 (x4_2 + 1))) = some r := by rw [if_pos rfl] at H; exact H
                            clear H
                            have H := H1
                            clear H1
                            have H' := Aside0.mk H
                            clear H
                            try go_wp2
                            have n0_ := Aside0.mk (below_drew1 HB.out)
                            clear HB
                            have HB := n0_
                            clear n0_
                            have p132 : 0 ≤ (x4_2 : Int) := of_decide_eq_true mS
                            have q132 : x4_2 < (l0.length : Int) := of_decide_eq_true mS
                            obtain ⟨ad132, A132_2, c132_2, e132, hx132_0, hx132_1, hx132_2, hl132_2, hi132_2⟩ := at_T44 HR0.out x4_2 p132 q132
                            have hw132_2 := hx132_2
                            have hw132_1 := hx132_1
                            have hw132_0 := hx132_0
                            cases e132
                            replace hx132_0 := cB HB hx132_0
                            replace hx132_1 := cB HB hx132_1
                            replace hx132_2 := cB HB hx132_2
                            have HR132_2 := Aside0.mk hi132_2
                            have HC132_2 := Aside0.mk hl132_2
                            clear hi132_2 hl132_2
                            replace p132 := eq_true p132
                            replace q132 := eq_true q132
                            have p133 : 0 ≤ (0 : Int) := (by omega)
                            have q133 : 0 < (l0.length : Int) := of_decide_eq_true mS
                            obtain ⟨ad133, A133_2, c133_2, e133, hx133_0, hx133_1, hx133_2, hl133_2, hi133_2⟩ := at_T44 HR0.out 0 p133 q133
                            have hw133_2 := hx133_2
                            (try rw [show ((0 : Int)).toNat = 0 from rfl] at hw133_2)
                            (try rw [show 0 * 3 = 0 from rfl] at hw133_2)
                            (try rw [Addr.add_zero'] at hw133_2)
                            have hw133_1 := hx133_1
                            (try rw [show ((0 : Int)).toNat = 0 from rfl] at hw133_1)
                            (try rw [show 0 * 3 = 0 from rfl] at hw133_1)
                            (try rw [Addr.add_zero'] at hw133_1)
                            have hw133_0 := hx133_0
                            (try rw [show ((0 : Int)).toNat = 0 from rfl] at hw133_0)
                            (try rw [show 0 * 3 = 0 from rfl] at hw133_0)
                            (try rw [Addr.add_zero'] at hw133_0)
                            obtain rfl : ad132 = ad133 := (by injection e133)
                            have qi133 : (0 < l0.length) = True := eq_true (by omega)
                            (try rw [show ((0 : Int)).toNat = 0 from rfl] at hx133_0)
                            (try rw [show 0 * 3 = 0 from rfl] at hx133_0)
                            (try rw [Addr.add_zero'] at hx133_0)
                            (try rw [show ((0 : Int)).toNat = 0 from rfl] at hx133_1)
                            (try rw [show 0 * 3 = 0 from rfl] at hx133_1)
                            (try rw [Addr.add_zero'] at hx133_1)
                            (try rw [show ((0 : Int)).toNat = 0 from rfl] at hx133_2)
                            (try rw [show 0 * 3 = 0 from rfl] at hx133_2)
                            (try rw [Addr.add_zero'] at hx133_2)
                            replace hx133_0 := cB HB hx133_0
                            replace hx133_1 := cB HB hx133_1
                            replace hx133_2 := cB HB hx133_2
                            have HR133_2 := Aside0.mk hi133_2
                            have HC133_2 := Aside0.mk hl133_2
                            clear hi133_2 hl133_2
                            replace p133 := eq_true p133
                            replace q133 := eq_true q133
                            have p134 : 0 ≤ (x4_2 : Int) := of_decide_eq_true mS
                            have q134 : x4_2 < (l0.length : Int) := of_decide_eq_true mS
                            obtain ⟨ad134, A134_2, c134_2, e134, hx134_0, hx134_1, hx134_2, hl134_2, hi134_2⟩ := at_T44 HR0.out x4_2 p134 q134
                            have hw134_2 := hx134_2
                            have hw134_1 := hx134_1
                            have hw134_0 := hx134_0
                            obtain rfl : ad132 = ad134 := (by injection e134)
                            replace hx134_0 := cB HB hx134_0
                            replace hx134_1 := cB HB hx134_1
                            replace hx134_2 := cB HB hx134_2
                            have HR134_2 := Aside0.mk hi134_2
                            have HC134_2 := Aside0.mk hl134_2
                            clear hi134_2 hl134_2
                            replace p134 := eq_true p134
                            replace q134 := eq_true q134
                            have ea_ := Option.some.inj (hx132_2.symm.trans hx134_2)
                            injection ea_ with ea_ en_ ec_
                            subst ea_
                            subst ec_
                            clear en_
                            have p135 : 0 ≤ (0 : Int) := (by omega)
                            have q135 : 0 < (l0.length : Int) := of_decide_eq_true mS
                            obtain ⟨ad135, A135_2, c135_2, e135, hx135_0, hx135_1, hx135_2, hl135_2, hi135_2⟩ := at_T44 HR0.out 0 p135 q135
                            have hw135_2 := hx135_2
                            (try rw [show ((0 : Int)).toNat = 0 from rfl] at hw135_2)
                            (try rw [show 0 * 3 = 0 from rfl] at hw135_2)
                            (try rw [Addr.add_zero'] at hw135_2)
                            have hw135_1 := hx135_1
                            (try rw [show ((0 : Int)).toNat = 0 from rfl] at hw135_1)
                            (try rw [show 0 * 3 = 0 from rfl] at hw135_1)
                            (try rw [Addr.add_zero'] at hw135_1)
                            have hw135_0 := hx135_0
                            (try rw [show ((0 : Int)).toNat = 0 from rfl] at hw135_0)
                            (try rw [show 0 * 3 = 0 from rfl] at hw135_0)
                            (try rw [Addr.add_zero'] at hw135_0)
                            obtain rfl : ad132 = ad135 := (by injection e135)
                            have qi135 : (0 < l0.length) = True := eq_true (by omega)
                            (try rw [show ((0 : Int)).toNat = 0 from rfl] at hx135_0)
                            (try rw [show 0 * 3 = 0 from rfl] at hx135_0)
                            (try rw [Addr.add_zero'] at hx135_0)
                            (try rw [show ((0 : Int)).toNat = 0 from rfl] at hx135_1)
                            (try rw [show 0 * 3 = 0 from rfl] at hx135_1)
                            (try rw [Addr.add_zero'] at hx135_1)
                            (try rw [show ((0 : Int)).toNat = 0 from rfl] at hx135_2)
                            (try rw [show 0 * 3 = 0 from rfl] at hx135_2)
                            (try rw [Addr.add_zero'] at hx135_2)
                            replace hx135_0 := cB HB hx135_0
                            replace hx135_1 := cB HB hx135_1
                            replace hx135_2 := cB HB hx135_2
                            have HR135_2 := Aside0.mk hi135_2
                            have HC135_2 := Aside0.mk hl135_2
                            clear hi135_2 hl135_2
                            replace p135 := eq_true p135
                            replace q135 := eq_true q135
                            have ea_ := Option.some.inj (hx133_2.symm.trans hx135_2)
                            injection ea_ with ea_ en_ ec_
                            subst ea_
                            subst ec_
                            clear en_
                            have p136 : 0 ≤ (x4_2 : Int) := of_decide_eq_true mS
                            have q136 : x4_2 < (l0.length : Int) := of_decide_eq_true mS
                            obtain ⟨ad136, A136_2, c136_2, e136, hx136_0, hx136_1, hx136_2, hl136_2, hi136_2⟩ := at_T44 HR0.out x4_2 p136 q136
                            have hw136_2 := hx136_2
                            have hw136_1 := hx136_1
                            have hw136_0 := hx136_0
                            obtain rfl : ad132 = ad136 := (by injection e136)
                            replace hx136_0 := cB HB hx136_0
                            replace hx136_1 := cB HB hx136_1
                            replace hx136_2 := cB HB hx136_2
                            have HR136_2 := Aside0.mk hi136_2
                            have HC136_2 := Aside0.mk hl136_2
                            clear hi136_2 hl136_2
                            replace p136 := eq_true p136
                            replace q136 := eq_true q136
                            have ea_ := Option.some.inj (hx132_2.symm.trans hx136_2)
                            injection ea_ with ea_ en_ ec_
                            subst ea_
                            subst ec_
                            clear en_
                            have p138 : 0 ≤ (x4_2 : Int) := of_decide_eq_true mS
                            have q138 : x4_2 < (l0.length : Int) := of_decide_eq_true mS
                            obtain ⟨ad138, A138_2, c138_2, e138, hx138_0, hx138_1, hx138_2, hl138_2, hi138_2⟩ := at_T44 HR0.out x4_2 p138 q138
                            have hw138_2 := hx138_2
                            have hw138_1 := hx138_1
                            have hw138_0 := hx138_0
                            obtain rfl : ad132 = ad138 := (by injection e138)
                            replace hx138_0 := cB HB hx138_0
                            replace hx138_1 := cB HB hx138_1
                            replace hx138_2 := cB HB hx138_2
                            have HR138_2 := Aside0.mk hi138_2
                            have HC138_2 := Aside0.mk hl138_2
                            clear hi138_2 hl138_2
                            replace p138 := eq_true p138
                            replace q138 := eq_true q138
                            have ea_ := Option.some.inj (hx132_2.symm.trans hx138_2)
                            injection ea_ with ea_ en_ ec_
                            subst ea_
                            subst ec_
                            clear en_
                            refine start_ (n := 38) (S := fun w' => w'.cell? (ad132.add ((x4_2).toNat * 3)) = some (.int .i64 ((rd_T44 l0 x4_2).f0)) ∧ w'.cell? ⟨(ad132.add ((x4_2).toNat * 3)).block, (ad132.add ((x4_2).toNat * 3)).off + 1, none⟩ = some (.int .i64 ((rd_T44 l0 x4_2).f1)) ∧ w'.cell? ⟨(ad132.add ((x4_2).toNat * 3)).block, (ad132.add ((x4_2).toNat * 3)).off + 2, none⟩ = some (.slice A132_2 ((rd_T44 l0 x4_2).f2).length c132_2) ∧ w'.cell? ad132 = some (.int .i64 ((rd_T44 l0 0).f0)) ∧ w'.cell? ⟨ad132.block, ad132.off + 1, none⟩ = some (.int .i64 ((rd_T44 l0 0).f1)) ∧ w'.cell? ⟨ad132.block, ad132.off + 2, none⟩ = some (.slice A133_2 ((rd_T44 l0 0).f2).length c133_2) ∧ w'.cell? (ad132.add ((x4_2).toNat * 3)) = some (.int .i64 ((rd_T44 l0 x4_2).f0)) ∧ w'.cell? ⟨(ad132.add ((x4_2).toNat * 3)).block, (ad132.add ((x4_2).toNat * 3)).off + 1, none⟩ = some (.int .i64 ((rd_T44 l0 x4_2).f1)) ∧ w'.cell? ⟨(ad132.add ((x4_2).toNat * 3)).block, (ad132.add ((x4_2).toNat * 3)).off + 2, none⟩ = some (.slice A132_2 ((rd_T44 l0 x4_2).f2).length c132_2) ∧ w'.cell? ad132 = some (.int .i64 ((rd_T44 l0 0).f0)) ∧ w'.cell? ⟨ad132.block, ad132.off + 1, none⟩ = some (.int .i64 ((rd_T44 l0 0).f1)) ∧ w'.cell? ⟨ad132.block, ad132.off + 2, none⟩ = some (.slice A133_2 ((rd_T44 l0 0).f2).length c133_2) ∧ w'.cell? (ad132.add ((x4_2).toNat * 3)) = some (.int .i64 ((rd_T44 l0 x4_2).f0)) ∧ w'.cell? ⟨(ad132.add ((x4_2).toNat * 3)).block, (ad132.add ((x4_2).toNat * 3)).off + 1, none⟩ = some (.int .i64 ((rd_T44 l0 x4_2).f1)) ∧ w'.cell? ⟨(ad132.add ((x4_2).toNat * 3)).block, (ad132.add ((x4_2).toNat * 3)).off + 2, none⟩ = some (.slice A132_2 ((rd_T44 l0 x4_2).f2).length c132_2) ∧ w'.cell? (ad132.add ((x4_2).toNat * 3)) = some (.int .i64 ((rd_T44 l0 x4_2).f0)) ∧ w'.cell? ⟨(ad132.add ((x4_2).toNat * 3)).block, (ad132.add ((x4_2).toNat * 3)).off + 1, none⟩ = some (.int .i64 ((rd_T44 l0 x4_2).f1)) ∧ w'.cell? ⟨(ad132.add ((x4_2).toNat * 3)).block, (ad132.add ((x4_2).toNat * 3)).off + 2, none⟩ = some (.slice A132_2 ((rd_T44 l0 x4_2).f2).length c132_2)) (ds := []) #[false, false, false, false, false, false, false, false, false, false, false, false, false, false, false, false, false, false, false, false, false, false, false, false, false, false, false, false, false, false, false, false, false, false, false, false, false, false] (by kernel_rfl) rfl rfl ⟨(cD HB hw132_0), (cD HB hw132_1), (cD HB hw132_2), (cD HB hw133_0), (cD HB hw133_1), (cD HB hw133_2), (cD HB hw134_0), (cD HB hw134_1), (cD HB hw134_2), (cD HB hw135_0), (cD HB hw135_1), (cD HB hw135_2), (cD HB hw136_0), (cD HB hw136_1), (cD HB hw136_2), (cD HB hw138_0), (cD HB hw138_1), (cD HB hw138_2)⟩ (fun hHeld => ?_); refine with_tabW spec_l05List.tab11 spec_l05List.bits11 (fun HT_ HW_ => ?_)
                            generalize wr.drew = w20 at HB HR132_2 HR133_2 HR134_2 HR135_2 HR136_2 HR138_2 hx132_0 hx132_1 hx132_2 hx133_0 hx133_1 hx133_2 hx134_0 hx134_1 hx134_2 hx135_0 hx135_1 hx135_2 hx136_0 hx136_1 hx136_2 hx138_0 hx138_1 hx138_2 hHeld ⊢
                            refine pu 0 26 HT_ (h := ?_)
                            refine pu 1 27 HT_ (h := ?_)
                            refine pu 2 28 HT_ (h := ?_)
                            refine pu 3 29 HT_ (h := ?_)
                            refine pu 5 31 HT_ (h := ?_)
                            refine pu 6 32 HT_ (h := ?_)
                            refine pu 7 33 HT_ (h := ?_)
                            refine ta 4 30 HT_ HW_ hHeld (hy := by rintro w' ⟨s0, s1, s2, s3, s4, s5, s6, s7, s8, s9, s10, s11, s12, s13, s14, s15, s16, s17⟩; go_simp; with_reducible rfl) (h := ?_)
                            refine ta 8 34 HT_ HW_ hHeld (hy := by rintro w' ⟨s0, s1, s2, s3, s4, s5, s6, s7, s8, s9, s10, s11, s12, s13, s14, s15, s16, s17⟩; go_simp; with_reducible rfl) (h := ?_)
                            refine pu 9 35 HT_ (h := ?_)
                            refine pu 10 36 HT_ (h := ?_)
                            refine pu 11 37 HT_ (h := ?_)
                            refine pu 12 38 HT_ (h := ?_)
                            refine pu 13 39 HT_ (h := ?_)
                            refine pu 14 40 HT_ (h := ?_)
                            refine pu 16 42 HT_ (h := ?_)
                            refine pu 17 43 HT_ (h := ?_)
                            refine pu 18 44 HT_ (h := ?_)
                            refine ta 15 41 HT_ HW_ hHeld (hy := by rintro w' ⟨s0, s1, s2, s3, s4, s5, s6, s7, s8, s9, s10, s11, s12, s13, s14, s15, s16, s17⟩; go_simp; with_reducible rfl) (h := ?_)
                            refine ta 19 45 HT_ HW_ hHeld (hy := by rintro w' ⟨s0, s1, s2, s3, s4, s5, s6, s7, s8, s9, s10, s11, s12, s13, s14, s15, s16, s17⟩; go_simp; with_reducible rfl) (h := ?_)
                            refine pu 20 46 HT_ (h := ?_)
                            refine pu 21 47 HT_ (h := ?_)
                            refine pu 22 48 HT_ (h := ?_)
                            refine pu 23 49 HT_ (h := ?_)
                            refine pu 24 50 HT_ (h := ?_)
                            refine pu 25 51 HT_ (h := ?_)
                            refine ta 26 52 HT_ HW_ hHeld (hy := by rintro w' ⟨s0, s1, s2, s3, s4, s5, s6, s7, s8, s9, s10, s11, s12, s13, s14, s15, s16, s17⟩; go_simp; with_reducible rfl) (h := ?_)
                            refine one_ (i := 27) (N := some 53) #[true, true, true, true, true, true, true, true, true, true, true, true, true, true, true, true, true, true, true, true, true, true, true, true, true, true, true, true, false, false, false, false, false, false, false, false, false, false] rfl rfl (one_of HT_.out (by kernel_rfl)) (by decide) (fun K hK => ?_)
                            refine go_ Try.func34 #[.agg #[.int .i64 ((rd_T44 l0 x4_2).f0), .int .i64 ((rd_T44 l0 x4_2).f1), .slice A132_2 ((rd_T44 l0 x4_2).f2).length c132_2]] (h := ?_)
                            with_reducible refine (spec_l01Degree.calls ((rd_T44 l0 x4_2).f0) ((rd_T44 l0 x4_2).f1) _ _ ((rd_T44 l0 x4_2).f2) t137 _ ?side1 ?side2 A14.out).mono ?_
                            (case side1 => exact mC (Kd.C_below HR136_2.out HB.out))
                            (case side2 => exact HC136_2.out)
                            rintro e w21 ⟨rfl, hb⟩
                            refine ⟨_, rfl, ?_⟩
                            have n0_ := Aside0.mk (below_step mB hb)
                            clear HB
                            have HB := n0_
                            clear n0_
                            (try clear hb)
                            (try clear hb2)
                            (try clear hk)
                            (try clear hi)
                            refine hK.out _ _ ⟨(cD HB hw132_0), (cD HB hw132_1), (cD HB hw132_2), (cD HB hw133_0), (cD HB hw133_1), (cD HB hw133_2), (cD HB hw134_0), (cD HB hw134_1), (cD HB hw134_2), (cD HB hw135_0), (cD HB hw135_1), (cD HB hw135_2), (cD HB hw136_0), (cD HB hw136_1), (cD HB hw136_2), (cD HB hw138_0), (cD HB hw138_1), (cD HB hw138_2)⟩ (fun hHeld => ?_)
                            clear hK K
                            refine nm (h := ?_)
                            refine pu 28 54 HT_ (h := ?_)
                            refine pu 29 55 HT_ (h := ?_)
                            refine pu 30 56 HT_ (h := ?_)
                            refine pu 31 57 HT_ (h := ?_)
                            refine pu 32 58 HT_ (h := ?_)
                            refine pu 33 59 HT_ (h := ?_)
                            refine ta 34 60 HT_ HW_ hHeld (hy := by rintro w' ⟨s0, s1, s2, s3, s4, s5, s6, s7, s8, s9, s10, s11, s12, s13, s14, s15, s16, s17⟩; go_simp; with_reducible rfl) (h := ?_)
                            refine one_ (i := 35) (N := some 61) #[true, true, true, true, true, true, true, true, true, true, true, true, true, true, true, true, true, true, true, true, true, true, true, true, true, true, true, true, true, true, true, true, true, true, true, true, false, false] rfl rfl (one_of HT_.out (by kernel_rfl)) (by decide) (fun K hK => ?_)
                            refine go_ Try.func47 #[.agg #[.int .i64 ((rd_T44 l0 x4_2).f0), .int .i64 ((rd_T44 l0 x4_2).f1), .slice A132_2 ((rd_T44 l0 x4_2).f2).length c132_2]] (h := ?_)
                            with_reducible refine (spec_l01Even.calls ((rd_T44 l0 x4_2).f0) ((rd_T44 l0 x4_2).f1) _ _ ((rd_T44 l0 x4_2).f2) true _ ?side1 ?side2 A18.out).mono ?_
                            (case side1 => exact mC (Kd.C_below HR138_2.out HB.out))
                            (case side2 => exact HC138_2.out)
                            rintro e w22 ⟨rfl, hb⟩
                            refine ⟨_, rfl, ?_⟩
                            have n0_ := Aside0.mk (below_step mB hb)
                            clear HB
                            have HB := n0_
                            clear n0_
                            (try clear hb)
                            (try clear hb2)
                            (try clear hk)
                            (try clear hi)
                            refine hK.out _ _ ⟨(cD HB hw132_0), (cD HB hw132_1), (cD HB hw132_2), (cD HB hw133_0), (cD HB hw133_1), (cD HB hw133_2), (cD HB hw134_0), (cD HB hw134_1), (cD HB hw134_2), (cD HB hw135_0), (cD HB hw135_1), (cD HB hw135_2), (cD HB hw136_0), (cD HB hw136_1), (cD HB hw136_2), (cD HB hw138_0), (cD HB hw138_1), (cD HB hw138_2)⟩ (fun hHeld => ?_)
                            clear hK K
                            refine nm (h := ?_)
                            refine pu 36 62 HT_ (h := ?_)
                            refine pu 37 63 HT_ (h := ?_)
                            refine done_ (done_of HT_.out (by kernel_rfl)) ?_
                            try go_wp2
                            go_roundg k2
                            case measure => have := HK1.out; have := HK2.out; omega
                            case rel => exact ⟨(wrap64 (x4_2 + 1)), mF, H', ⟨by have := HK1.out; have := HK2.out; omega⟩, ⟨mB⟩⟩
                          · replace c19 := Bool.eq_false_iff.mpr c19
                            subst c19
                            have H1 : (some 2) = some r := by rw [if_neg (show ¬ (false = true) by decide)] at H; exact H
                            clear H
                            have H := H1
                            clear H1
                            obtain rfl := Option.some.inj H
                            try go_wp2
                            have n0_ := Aside0.mk (below_drew1 HB.out)
                            clear HB
                            have HB := n0_
                            clear n0_
                            have p132 : 0 ≤ (x4_2 : Int) := of_decide_eq_true mS
                            have q132 : x4_2 < (l0.length : Int) := of_decide_eq_true mS
                            obtain ⟨ad132, A132_2, c132_2, e132, hx132_0, hx132_1, hx132_2, hl132_2, hi132_2⟩ := at_T44 HR0.out x4_2 p132 q132
                            have hw132_2 := hx132_2
                            have hw132_1 := hx132_1
                            have hw132_0 := hx132_0
                            cases e132
                            replace hx132_0 := cB HB hx132_0
                            replace hx132_1 := cB HB hx132_1
                            replace hx132_2 := cB HB hx132_2
                            have HR132_2 := Aside0.mk hi132_2
                            have HC132_2 := Aside0.mk hl132_2
                            clear hi132_2 hl132_2
                            replace p132 := eq_true p132
                            replace q132 := eq_true q132
                            have p133 : 0 ≤ (0 : Int) := (by omega)
                            have q133 : 0 < (l0.length : Int) := of_decide_eq_true mS
                            obtain ⟨ad133, A133_2, c133_2, e133, hx133_0, hx133_1, hx133_2, hl133_2, hi133_2⟩ := at_T44 HR0.out 0 p133 q133
                            have hw133_2 := hx133_2
                            (try rw [show ((0 : Int)).toNat = 0 from rfl] at hw133_2)
                            (try rw [show 0 * 3 = 0 from rfl] at hw133_2)
                            (try rw [Addr.add_zero'] at hw133_2)
                            have hw133_1 := hx133_1
                            (try rw [show ((0 : Int)).toNat = 0 from rfl] at hw133_1)
                            (try rw [show 0 * 3 = 0 from rfl] at hw133_1)
                            (try rw [Addr.add_zero'] at hw133_1)
                            have hw133_0 := hx133_0
                            (try rw [show ((0 : Int)).toNat = 0 from rfl] at hw133_0)
                            (try rw [show 0 * 3 = 0 from rfl] at hw133_0)
                            (try rw [Addr.add_zero'] at hw133_0)
                            obtain rfl : ad132 = ad133 := (by injection e133)
                            have qi133 : (0 < l0.length) = True := eq_true (by omega)
                            (try rw [show ((0 : Int)).toNat = 0 from rfl] at hx133_0)
                            (try rw [show 0 * 3 = 0 from rfl] at hx133_0)
                            (try rw [Addr.add_zero'] at hx133_0)
                            (try rw [show ((0 : Int)).toNat = 0 from rfl] at hx133_1)
                            (try rw [show 0 * 3 = 0 from rfl] at hx133_1)
                            (try rw [Addr.add_zero'] at hx133_1)
                            (try rw [show ((0 : Int)).toNat = 0 from rfl] at hx133_2)
                            (try rw [show 0 * 3 = 0 from rfl] at hx133_2)
                            (try rw [Addr.add_zero'] at hx133_2)
                            replace hx133_0 := cB HB hx133_0
                            replace hx133_1 := cB HB hx133_1
                            replace hx133_2 := cB HB hx133_2
                            have HR133_2 := Aside0.mk hi133_2
                            have HC133_2 := Aside0.mk hl133_2
                            clear hi133_2 hl133_2
                            replace p133 := eq_true p133
                            replace q133 := eq_true q133
                            have p134 : 0 ≤ (x4_2 : Int) := of_decide_eq_true mS
                            have q134 : x4_2 < (l0.length : Int) := of_decide_eq_true mS
                            obtain ⟨ad134, A134_2, c134_2, e134, hx134_0, hx134_1, hx134_2, hl134_2, hi134_2⟩ := at_T44 HR0.out x4_2 p134 q134
                            have hw134_2 := hx134_2
                            have hw134_1 := hx134_1
                            have hw134_0 := hx134_0
                            obtain rfl : ad132 = ad134 := (by injection e134)
                            replace hx134_0 := cB HB hx134_0
                            replace hx134_1 := cB HB hx134_1
                            replace hx134_2 := cB HB hx134_2
                            have HR134_2 := Aside0.mk hi134_2
                            have HC134_2 := Aside0.mk hl134_2
                            clear hi134_2 hl134_2
                            replace p134 := eq_true p134
                            replace q134 := eq_true q134
                            have ea_ := Option.some.inj (hx132_2.symm.trans hx134_2)
                            injection ea_ with ea_ en_ ec_
                            subst ea_
                            subst ec_
                            clear en_
                            have p135 : 0 ≤ (0 : Int) := (by omega)
                            have q135 : 0 < (l0.length : Int) := of_decide_eq_true mS
                            obtain ⟨ad135, A135_2, c135_2, e135, hx135_0, hx135_1, hx135_2, hl135_2, hi135_2⟩ := at_T44 HR0.out 0 p135 q135
                            have hw135_2 := hx135_2
                            (try rw [show ((0 : Int)).toNat = 0 from rfl] at hw135_2)
                            (try rw [show 0 * 3 = 0 from rfl] at hw135_2)
                            (try rw [Addr.add_zero'] at hw135_2)
                            have hw135_1 := hx135_1
                            (try rw [show ((0 : Int)).toNat = 0 from rfl] at hw135_1)
                            (try rw [show 0 * 3 = 0 from rfl] at hw135_1)
                            (try rw [Addr.add_zero'] at hw135_1)
                            have hw135_0 := hx135_0
                            (try rw [show ((0 : Int)).toNat = 0 from rfl] at hw135_0)
                            (try rw [show 0 * 3 = 0 from rfl] at hw135_0)
                            (try rw [Addr.add_zero'] at hw135_0)
                            obtain rfl : ad132 = ad135 := (by injection e135)
                            have qi135 : (0 < l0.length) = True := eq_true (by omega)
                            (try rw [show ((0 : Int)).toNat = 0 from rfl] at hx135_0)
                            (try rw [show 0 * 3 = 0 from rfl] at hx135_0)
                            (try rw [Addr.add_zero'] at hx135_0)
                            (try rw [show ((0 : Int)).toNat = 0 from rfl] at hx135_1)
                            (try rw [show 0 * 3 = 0 from rfl] at hx135_1)
                            (try rw [Addr.add_zero'] at hx135_1)
                            (try rw [show ((0 : Int)).toNat = 0 from rfl] at hx135_2)
                            (try rw [show 0 * 3 = 0 from rfl] at hx135_2)
                            (try rw [Addr.add_zero'] at hx135_2)
                            replace hx135_0 := cB HB hx135_0
                            replace hx135_1 := cB HB hx135_1
                            replace hx135_2 := cB HB hx135_2
                            have HR135_2 := Aside0.mk hi135_2
                            have HC135_2 := Aside0.mk hl135_2
                            clear hi135_2 hl135_2
                            replace p135 := eq_true p135
                            replace q135 := eq_true q135
                            have ea_ := Option.some.inj (hx133_2.symm.trans hx135_2)
                            injection ea_ with ea_ en_ ec_
                            subst ea_
                            subst ec_
                            clear en_
                            have p136 : 0 ≤ (x4_2 : Int) := of_decide_eq_true mS
                            have q136 : x4_2 < (l0.length : Int) := of_decide_eq_true mS
                            obtain ⟨ad136, A136_2, c136_2, e136, hx136_0, hx136_1, hx136_2, hl136_2, hi136_2⟩ := at_T44 HR0.out x4_2 p136 q136
                            have hw136_2 := hx136_2
                            have hw136_1 := hx136_1
                            have hw136_0 := hx136_0
                            obtain rfl : ad132 = ad136 := (by injection e136)
                            replace hx136_0 := cB HB hx136_0
                            replace hx136_1 := cB HB hx136_1
                            replace hx136_2 := cB HB hx136_2
                            have HR136_2 := Aside0.mk hi136_2
                            have HC136_2 := Aside0.mk hl136_2
                            clear hi136_2 hl136_2
                            replace p136 := eq_true p136
                            replace q136 := eq_true q136
                            have ea_ := Option.some.inj (hx132_2.symm.trans hx136_2)
                            injection ea_ with ea_ en_ ec_
                            subst ea_
                            subst ec_
                            clear en_
                            have p138 : 0 ≤ (x4_2 : Int) := of_decide_eq_true mS
                            have q138 : x4_2 < (l0.length : Int) := of_decide_eq_true mS
                            obtain ⟨ad138, A138_2, c138_2, e138, hx138_0, hx138_1, hx138_2, hl138_2, hi138_2⟩ := at_T44 HR0.out x4_2 p138 q138
                            have hw138_2 := hx138_2
                            have hw138_1 := hx138_1
                            have hw138_0 := hx138_0
                            obtain rfl : ad132 = ad138 := (by injection e138)
                            replace hx138_0 := cB HB hx138_0
                            replace hx138_1 := cB HB hx138_1
                            replace hx138_2 := cB HB hx138_2
                            have HR138_2 := Aside0.mk hi138_2
                            have HC138_2 := Aside0.mk hl138_2
                            clear hi138_2 hl138_2
                            replace p138 := eq_true p138
                            replace q138 := eq_true q138
                            have ea_ := Option.some.inj (hx132_2.symm.trans hx138_2)
                            injection ea_ with ea_ en_ ec_
                            subst ea_
                            subst ec_
                            clear en_
                            refine start_ (n := 38) (S := fun w' => w'.cell? (ad132.add ((x4_2).toNat * 3)) = some (.int .i64 ((rd_T44 l0 x4_2).f0)) ∧ w'.cell? ⟨(ad132.add ((x4_2).toNat * 3)).block, (ad132.add ((x4_2).toNat * 3)).off + 1, none⟩ = some (.int .i64 ((rd_T44 l0 x4_2).f1)) ∧ w'.cell? ⟨(ad132.add ((x4_2).toNat * 3)).block, (ad132.add ((x4_2).toNat * 3)).off + 2, none⟩ = some (.slice A132_2 ((rd_T44 l0 x4_2).f2).length c132_2) ∧ w'.cell? ad132 = some (.int .i64 ((rd_T44 l0 0).f0)) ∧ w'.cell? ⟨ad132.block, ad132.off + 1, none⟩ = some (.int .i64 ((rd_T44 l0 0).f1)) ∧ w'.cell? ⟨ad132.block, ad132.off + 2, none⟩ = some (.slice A133_2 ((rd_T44 l0 0).f2).length c133_2) ∧ w'.cell? (ad132.add ((x4_2).toNat * 3)) = some (.int .i64 ((rd_T44 l0 x4_2).f0)) ∧ w'.cell? ⟨(ad132.add ((x4_2).toNat * 3)).block, (ad132.add ((x4_2).toNat * 3)).off + 1, none⟩ = some (.int .i64 ((rd_T44 l0 x4_2).f1)) ∧ w'.cell? ⟨(ad132.add ((x4_2).toNat * 3)).block, (ad132.add ((x4_2).toNat * 3)).off + 2, none⟩ = some (.slice A132_2 ((rd_T44 l0 x4_2).f2).length c132_2) ∧ w'.cell? ad132 = some (.int .i64 ((rd_T44 l0 0).f0)) ∧ w'.cell? ⟨ad132.block, ad132.off + 1, none⟩ = some (.int .i64 ((rd_T44 l0 0).f1)) ∧ w'.cell? ⟨ad132.block, ad132.off + 2, none⟩ = some (.slice A133_2 ((rd_T44 l0 0).f2).length c133_2) ∧ w'.cell? (ad132.add ((x4_2).toNat * 3)) = some (.int .i64 ((rd_T44 l0 x4_2).f0)) ∧ w'.cell? ⟨(ad132.add ((x4_2).toNat * 3)).block, (ad132.add ((x4_2).toNat * 3)).off + 1, none⟩ = some (.int .i64 ((rd_T44 l0 x4_2).f1)) ∧ w'.cell? ⟨(ad132.add ((x4_2).toNat * 3)).block, (ad132.add ((x4_2).toNat * 3)).off + 2, none⟩ = some (.slice A132_2 ((rd_T44 l0 x4_2).f2).length c132_2) ∧ w'.cell? (ad132.add ((x4_2).toNat * 3)) = some (.int .i64 ((rd_T44 l0 x4_2).f0)) ∧ w'.cell? ⟨(ad132.add ((x4_2).toNat * 3)).block, (ad132.add ((x4_2).toNat * 3)).off + 1, none⟩ = some (.int .i64 ((rd_T44 l0 x4_2).f1)) ∧ w'.cell? ⟨(ad132.add ((x4_2).toNat * 3)).block, (ad132.add ((x4_2).toNat * 3)).off + 2, none⟩ = some (.slice A132_2 ((rd_T44 l0 x4_2).f2).length c132_2)) (ds := []) #[false, false, false, false, false, false, false, false, false, false, false, false, false, false, false, false, false, false, false, false, false, false, false, false, false, false, false, false, false, false, false, false, false, false, false, false, false, false] (by kernel_rfl) rfl rfl ⟨(cD HB hw132_0), (cD HB hw132_1), (cD HB hw132_2), (cD HB hw133_0), (cD HB hw133_1), (cD HB hw133_2), (cD HB hw134_0), (cD HB hw134_1), (cD HB hw134_2), (cD HB hw135_0), (cD HB hw135_1), (cD HB hw135_2), (cD HB hw136_0), (cD HB hw136_1), (cD HB hw136_2), (cD HB hw138_0), (cD HB hw138_1), (cD HB hw138_2)⟩ (fun hHeld => ?_); refine with_tabW spec_l05List.tab11 spec_l05List.bits11 (fun HT_ HW_ => ?_)
                            generalize wr.drew = w23 at HB HR132_2 HR133_2 HR134_2 HR135_2 HR136_2 HR138_2 hx132_0 hx132_1 hx132_2 hx133_0 hx133_1 hx133_2 hx134_0 hx134_1 hx134_2 hx135_0 hx135_1 hx135_2 hx136_0 hx136_1 hx136_2 hx138_0 hx138_1 hx138_2 hHeld ⊢
                            refine pu 0 26 HT_ (h := ?_)
                            refine pu 1 27 HT_ (h := ?_)
                            refine pu 2 28 HT_ (h := ?_)
                            refine pu 3 29 HT_ (h := ?_)
                            refine pu 5 31 HT_ (h := ?_)
                            refine pu 6 32 HT_ (h := ?_)
                            refine pu 7 33 HT_ (h := ?_)
                            refine ta 4 30 HT_ HW_ hHeld (hy := by rintro w' ⟨s0, s1, s2, s3, s4, s5, s6, s7, s8, s9, s10, s11, s12, s13, s14, s15, s16, s17⟩; go_simp; with_reducible rfl) (h := ?_)
                            refine ta 8 34 HT_ HW_ hHeld (hy := by rintro w' ⟨s0, s1, s2, s3, s4, s5, s6, s7, s8, s9, s10, s11, s12, s13, s14, s15, s16, s17⟩; go_simp; with_reducible rfl) (h := ?_)
                            refine pu 9 35 HT_ (h := ?_)
                            refine pu 10 36 HT_ (h := ?_)
                            refine pu 11 37 HT_ (h := ?_)
                            refine pu 12 38 HT_ (h := ?_)
                            refine pu 13 39 HT_ (h := ?_)
                            refine pu 14 40 HT_ (h := ?_)
                            refine pu 16 42 HT_ (h := ?_)
                            refine pu 17 43 HT_ (h := ?_)
                            refine pu 18 44 HT_ (h := ?_)
                            refine ta 15 41 HT_ HW_ hHeld (hy := by rintro w' ⟨s0, s1, s2, s3, s4, s5, s6, s7, s8, s9, s10, s11, s12, s13, s14, s15, s16, s17⟩; go_simp; with_reducible rfl) (h := ?_)
                            refine ta 19 45 HT_ HW_ hHeld (hy := by rintro w' ⟨s0, s1, s2, s3, s4, s5, s6, s7, s8, s9, s10, s11, s12, s13, s14, s15, s16, s17⟩; go_simp; with_reducible rfl) (h := ?_)
                            refine pu 20 46 HT_ (h := ?_)
                            refine pu 21 47 HT_ (h := ?_)
                            refine pu 22 48 HT_ (h := ?_)
                            refine pu 23 49 HT_ (h := ?_)
                            refine pu 24 50 HT_ (h := ?_)
                            refine pu 25 51 HT_ (h := ?_)
                            refine ta 26 52 HT_ HW_ hHeld (hy := by rintro w' ⟨s0, s1, s2, s3, s4, s5, s6, s7, s8, s9, s10, s11, s12, s13, s14, s15, s16, s17⟩; go_simp; with_reducible rfl) (h := ?_)
                            refine one_ (i := 27) (N := some 53) #[true, true, true, true, true, true, true, true, true, true, true, true, true, true, true, true, true, true, true, true, true, true, true, true, true, true, true, true, false, false, false, false, false, false, false, false, false, false] rfl rfl (one_of HT_.out (by kernel_rfl)) (by decide) (fun K hK => ?_)
                            refine go_ Try.func34 #[.agg #[.int .i64 ((rd_T44 l0 x4_2).f0), .int .i64 ((rd_T44 l0 x4_2).f1), .slice A132_2 ((rd_T44 l0 x4_2).f2).length c132_2]] (h := ?_)
                            with_reducible refine (spec_l01Degree.calls ((rd_T44 l0 x4_2).f0) ((rd_T44 l0 x4_2).f1) _ _ ((rd_T44 l0 x4_2).f2) t137 _ ?side1 ?side2 A14.out).mono ?_
                            (case side1 => exact mC (Kd.C_below HR136_2.out HB.out))
                            (case side2 => exact HC136_2.out)
                            rintro e w24 ⟨rfl, hb⟩
                            refine ⟨_, rfl, ?_⟩
                            have n0_ := Aside0.mk (below_step mB hb)
                            clear HB
                            have HB := n0_
                            clear n0_
                            (try clear hb)
                            (try clear hb2)
                            (try clear hk)
                            (try clear hi)
                            refine hK.out _ _ ⟨(cD HB hw132_0), (cD HB hw132_1), (cD HB hw132_2), (cD HB hw133_0), (cD HB hw133_1), (cD HB hw133_2), (cD HB hw134_0), (cD HB hw134_1), (cD HB hw134_2), (cD HB hw135_0), (cD HB hw135_1), (cD HB hw135_2), (cD HB hw136_0), (cD HB hw136_1), (cD HB hw136_2), (cD HB hw138_0), (cD HB hw138_1), (cD HB hw138_2)⟩ (fun hHeld => ?_)
                            clear hK K
                            refine nm (h := ?_)
                            refine pu 28 54 HT_ (h := ?_)
                            refine pu 29 55 HT_ (h := ?_)
                            refine pu 30 56 HT_ (h := ?_)
                            refine pu 31 57 HT_ (h := ?_)
                            refine pu 32 58 HT_ (h := ?_)
                            refine pu 33 59 HT_ (h := ?_)
                            refine ta 34 60 HT_ HW_ hHeld (hy := by rintro w' ⟨s0, s1, s2, s3, s4, s5, s6, s7, s8, s9, s10, s11, s12, s13, s14, s15, s16, s17⟩; go_simp; with_reducible rfl) (h := ?_)
                            refine one_ (i := 35) (N := some 61) #[true, true, true, true, true, true, true, true, true, true, true, true, true, true, true, true, true, true, true, true, true, true, true, true, true, true, true, true, true, true, true, true, true, true, true, true, false, false] rfl rfl (one_of HT_.out (by kernel_rfl)) (by decide) (fun K hK => ?_)
                            refine go_ Try.func47 #[.agg #[.int .i64 ((rd_T44 l0 x4_2).f0), .int .i64 ((rd_T44 l0 x4_2).f1), .slice A132_2 ((rd_T44 l0 x4_2).f2).length c132_2]] (h := ?_)
                            with_reducible refine (spec_l01Even.calls ((rd_T44 l0 x4_2).f0) ((rd_T44 l0 x4_2).f1) _ _ ((rd_T44 l0 x4_2).f2) false _ ?side1 ?side2 A18.out).mono ?_
                            (case side1 => exact mC (Kd.C_below HR138_2.out HB.out))
                            (case side2 => exact HC138_2.out)
                            rintro e w25 ⟨rfl, hb⟩
                            refine ⟨_, rfl, ?_⟩
                            have n0_ := Aside0.mk (below_step mB hb)
                            clear HB
                            have HB := n0_
                            clear n0_
                            (try clear hb)
                            (try clear hb2)
                            (try clear hk)
                            (try clear hi)
                            refine hK.out _ _ ⟨(cD HB hw132_0), (cD HB hw132_1), (cD HB hw132_2), (cD HB hw133_0), (cD HB hw133_1), (cD HB hw133_2), (cD HB hw134_0), (cD HB hw134_1), (cD HB hw134_2), (cD HB hw135_0), (cD HB hw135_1), (cD HB hw135_2), (cD HB hw136_0), (cD HB hw136_1), (cD HB hw136_2), (cD HB hw138_0), (cD HB hw138_1), (cD HB hw138_2)⟩ (fun hHeld => ?_)
                            clear hK K
                            refine nm (h := ?_)
                            refine pu 36 62 HT_ (h := ?_)
                            refine pu 37 63 HT_ (h := ?_)
                            refine done_ (done_of HT_.out (by kernel_rfl)) ?_
                            try go_wp2
                            go_ret
                            exact ⟨mE, mB⟩
                      · rw [if_neg c13] at H
                        have c13b0 : (((rd_T44 l0 x4_2).f1) == ((rd_T44 l0 0).f1)) = false := beq_eq_false_iff_ne.mpr c13
                        have c13b1 : (((rd_T44 l0 x4_2).f1) != ((rd_T44 l0 0).f1)) = true := bne_iff_ne.mpr c13
                        obtain rfl := Option.some.inj H
                        try go_wp2
                        have n0_ := Aside0.mk (below_drew1 HB.out)
                        clear HB
                        have HB := n0_
                        clear n0_
                        have p132 : 0 ≤ (x4_2 : Int) := of_decide_eq_true mS
                        have q132 : x4_2 < (l0.length : Int) := of_decide_eq_true mS
                        obtain ⟨ad132, A132_2, c132_2, e132, hx132_0, hx132_1, hx132_2, hl132_2, hi132_2⟩ := at_T44 HR0.out x4_2 p132 q132
                        have hw132_2 := hx132_2
                        have hw132_1 := hx132_1
                        have hw132_0 := hx132_0
                        cases e132
                        replace hx132_0 := cB HB hx132_0
                        replace hx132_1 := cB HB hx132_1
                        replace hx132_2 := cB HB hx132_2
                        have HR132_2 := Aside0.mk hi132_2
                        have HC132_2 := Aside0.mk hl132_2
                        clear hi132_2 hl132_2
                        replace p132 := eq_true p132
                        replace q132 := eq_true q132
                        have p133 : 0 ≤ (0 : Int) := (by omega)
                        have q133 : 0 < (l0.length : Int) := of_decide_eq_true mS
                        obtain ⟨ad133, A133_2, c133_2, e133, hx133_0, hx133_1, hx133_2, hl133_2, hi133_2⟩ := at_T44 HR0.out 0 p133 q133
                        have hw133_2 := hx133_2
                        (try rw [show ((0 : Int)).toNat = 0 from rfl] at hw133_2)
                        (try rw [show 0 * 3 = 0 from rfl] at hw133_2)
                        (try rw [Addr.add_zero'] at hw133_2)
                        have hw133_1 := hx133_1
                        (try rw [show ((0 : Int)).toNat = 0 from rfl] at hw133_1)
                        (try rw [show 0 * 3 = 0 from rfl] at hw133_1)
                        (try rw [Addr.add_zero'] at hw133_1)
                        have hw133_0 := hx133_0
                        (try rw [show ((0 : Int)).toNat = 0 from rfl] at hw133_0)
                        (try rw [show 0 * 3 = 0 from rfl] at hw133_0)
                        (try rw [Addr.add_zero'] at hw133_0)
                        obtain rfl : ad132 = ad133 := (by injection e133)
                        have qi133 : (0 < l0.length) = True := eq_true (by omega)
                        (try rw [show ((0 : Int)).toNat = 0 from rfl] at hx133_0)
                        (try rw [show 0 * 3 = 0 from rfl] at hx133_0)
                        (try rw [Addr.add_zero'] at hx133_0)
                        (try rw [show ((0 : Int)).toNat = 0 from rfl] at hx133_1)
                        (try rw [show 0 * 3 = 0 from rfl] at hx133_1)
                        (try rw [Addr.add_zero'] at hx133_1)
                        (try rw [show ((0 : Int)).toNat = 0 from rfl] at hx133_2)
                        (try rw [show 0 * 3 = 0 from rfl] at hx133_2)
                        (try rw [Addr.add_zero'] at hx133_2)
                        replace hx133_0 := cB HB hx133_0
                        replace hx133_1 := cB HB hx133_1
                        replace hx133_2 := cB HB hx133_2
                        have HR133_2 := Aside0.mk hi133_2
                        have HC133_2 := Aside0.mk hl133_2
                        clear hi133_2 hl133_2
                        replace p133 := eq_true p133
                        replace q133 := eq_true q133
                        have p134 : 0 ≤ (x4_2 : Int) := of_decide_eq_true mS
                        have q134 : x4_2 < (l0.length : Int) := of_decide_eq_true mS
                        obtain ⟨ad134, A134_2, c134_2, e134, hx134_0, hx134_1, hx134_2, hl134_2, hi134_2⟩ := at_T44 HR0.out x4_2 p134 q134
                        have hw134_2 := hx134_2
                        have hw134_1 := hx134_1
                        have hw134_0 := hx134_0
                        obtain rfl : ad132 = ad134 := (by injection e134)
                        replace hx134_0 := cB HB hx134_0
                        replace hx134_1 := cB HB hx134_1
                        replace hx134_2 := cB HB hx134_2
                        have HR134_2 := Aside0.mk hi134_2
                        have HC134_2 := Aside0.mk hl134_2
                        clear hi134_2 hl134_2
                        replace p134 := eq_true p134
                        replace q134 := eq_true q134
                        have ea_ := Option.some.inj (hx132_2.symm.trans hx134_2)
                        injection ea_ with ea_ en_ ec_
                        subst ea_
                        subst ec_
                        clear en_
                        have p135 : 0 ≤ (0 : Int) := (by omega)
                        have q135 : 0 < (l0.length : Int) := of_decide_eq_true mS
                        obtain ⟨ad135, A135_2, c135_2, e135, hx135_0, hx135_1, hx135_2, hl135_2, hi135_2⟩ := at_T44 HR0.out 0 p135 q135
                        have hw135_2 := hx135_2
                        (try rw [show ((0 : Int)).toNat = 0 from rfl] at hw135_2)
                        (try rw [show 0 * 3 = 0 from rfl] at hw135_2)
                        (try rw [Addr.add_zero'] at hw135_2)
                        have hw135_1 := hx135_1
                        (try rw [show ((0 : Int)).toNat = 0 from rfl] at hw135_1)
                        (try rw [show 0 * 3 = 0 from rfl] at hw135_1)
                        (try rw [Addr.add_zero'] at hw135_1)
                        have hw135_0 := hx135_0
                        (try rw [show ((0 : Int)).toNat = 0 from rfl] at hw135_0)
                        (try rw [show 0 * 3 = 0 from rfl] at hw135_0)
                        (try rw [Addr.add_zero'] at hw135_0)
                        obtain rfl : ad132 = ad135 := (by injection e135)
                        have qi135 : (0 < l0.length) = True := eq_true (by omega)
                        (try rw [show ((0 : Int)).toNat = 0 from rfl] at hx135_0)
                        (try rw [show 0 * 3 = 0 from rfl] at hx135_0)
                        (try rw [Addr.add_zero'] at hx135_0)
                        (try rw [show ((0 : Int)).toNat = 0 from rfl] at hx135_1)
                        (try rw [show 0 * 3 = 0 from rfl] at hx135_1)
                        (try rw [Addr.add_zero'] at hx135_1)
                        (try rw [show ((0 : Int)).toNat = 0 from rfl] at hx135_2)
                        (try rw [show 0 * 3 = 0 from rfl] at hx135_2)
                        (try rw [Addr.add_zero'] at hx135_2)
                        replace hx135_0 := cB HB hx135_0
                        replace hx135_1 := cB HB hx135_1
                        replace hx135_2 := cB HB hx135_2
                        have HR135_2 := Aside0.mk hi135_2
                        have HC135_2 := Aside0.mk hl135_2
                        clear hi135_2 hl135_2
                        replace p135 := eq_true p135
                        replace q135 := eq_true q135
                        have ea_ := Option.some.inj (hx133_2.symm.trans hx135_2)
                        injection ea_ with ea_ en_ ec_
                        subst ea_
                        subst ec_
                        clear en_
                        refine start_ (n := 38) (S := fun w' => w'.cell? (ad132.add ((x4_2).toNat * 3)) = some (.int .i64 ((rd_T44 l0 x4_2).f0)) ∧ w'.cell? ⟨(ad132.add ((x4_2).toNat * 3)).block, (ad132.add ((x4_2).toNat * 3)).off + 1, none⟩ = some (.int .i64 ((rd_T44 l0 x4_2).f1)) ∧ w'.cell? ⟨(ad132.add ((x4_2).toNat * 3)).block, (ad132.add ((x4_2).toNat * 3)).off + 2, none⟩ = some (.slice A132_2 ((rd_T44 l0 x4_2).f2).length c132_2) ∧ w'.cell? ad132 = some (.int .i64 ((rd_T44 l0 0).f0)) ∧ w'.cell? ⟨ad132.block, ad132.off + 1, none⟩ = some (.int .i64 ((rd_T44 l0 0).f1)) ∧ w'.cell? ⟨ad132.block, ad132.off + 2, none⟩ = some (.slice A133_2 ((rd_T44 l0 0).f2).length c133_2) ∧ w'.cell? (ad132.add ((x4_2).toNat * 3)) = some (.int .i64 ((rd_T44 l0 x4_2).f0)) ∧ w'.cell? ⟨(ad132.add ((x4_2).toNat * 3)).block, (ad132.add ((x4_2).toNat * 3)).off + 1, none⟩ = some (.int .i64 ((rd_T44 l0 x4_2).f1)) ∧ w'.cell? ⟨(ad132.add ((x4_2).toNat * 3)).block, (ad132.add ((x4_2).toNat * 3)).off + 2, none⟩ = some (.slice A132_2 ((rd_T44 l0 x4_2).f2).length c132_2) ∧ w'.cell? ad132 = some (.int .i64 ((rd_T44 l0 0).f0)) ∧ w'.cell? ⟨ad132.block, ad132.off + 1, none⟩ = some (.int .i64 ((rd_T44 l0 0).f1)) ∧ w'.cell? ⟨ad132.block, ad132.off + 2, none⟩ = some (.slice A133_2 ((rd_T44 l0 0).f2).length c133_2)) (ds := []) #[false, false, false, false, false, false, false, false, false, false, false, false, false, false, false, false, false, false, false, false, false, false, false, false, false, false, false, false, false, false, false, false, false, false, false, false, false, false] (by kernel_rfl) rfl rfl ⟨(cD HB hw132_0), (cD HB hw132_1), (cD HB hw132_2), (cD HB hw133_0), (cD HB hw133_1), (cD HB hw133_2), (cD HB hw134_0), (cD HB hw134_1), (cD HB hw134_2), (cD HB hw135_0), (cD HB hw135_1), (cD HB hw135_2)⟩ (fun hHeld => ?_); refine with_tabW spec_l05List.tab11 spec_l05List.bits11 (fun HT_ HW_ => ?_)
                        generalize wr.drew = w26 at HB HR132_2 HR133_2 HR134_2 HR135_2 hx132_0 hx132_1 hx132_2 hx133_0 hx133_1 hx133_2 hx134_0 hx134_1 hx134_2 hx135_0 hx135_1 hx135_2 hHeld ⊢
                        refine pu 0 26 HT_ (h := ?_)
                        refine pu 1 27 HT_ (h := ?_)
                        refine pu 2 28 HT_ (h := ?_)
                        refine pu 3 29 HT_ (h := ?_)
                        refine pu 5 31 HT_ (h := ?_)
                        refine pu 6 32 HT_ (h := ?_)
                        refine pu 7 33 HT_ (h := ?_)
                        refine ta 4 30 HT_ HW_ hHeld (hy := by rintro w' ⟨s0, s1, s2, s3, s4, s5, s6, s7, s8, s9, s10, s11⟩; go_simp; with_reducible rfl) (h := ?_)
                        refine ta 8 34 HT_ HW_ hHeld (hy := by rintro w' ⟨s0, s1, s2, s3, s4, s5, s6, s7, s8, s9, s10, s11⟩; go_simp; with_reducible rfl) (h := ?_)
                        refine pu 9 35 HT_ (h := ?_)
                        refine pu 10 36 HT_ (h := ?_)
                        refine pu 11 37 HT_ (h := ?_)
                        refine pu 12 38 HT_ (h := ?_)
                        refine pu 13 39 HT_ (h := ?_)
                        refine pu 14 40 HT_ (h := ?_)
                        refine pu 16 42 HT_ (h := ?_)
                        refine pu 17 43 HT_ (h := ?_)
                        refine pu 18 44 HT_ (h := ?_)
                        refine ta 15 41 HT_ HW_ hHeld (hy := by rintro w' ⟨s0, s1, s2, s3, s4, s5, s6, s7, s8, s9, s10, s11⟩; go_simp; with_reducible rfl) (h := ?_)
                        refine ta 19 45 HT_ HW_ hHeld (hy := by rintro w' ⟨s0, s1, s2, s3, s4, s5, s6, s7, s8, s9, s10, s11⟩; go_simp; with_reducible rfl) (h := ?_)
                        refine pu 20 46 HT_ (h := ?_)
                        refine pu 21 47 HT_ (h := ?_)
                        refine pu 22 48 HT_ (h := ?_)
                        refine pv 23 49 HT_ (h := ?_)
                        refine pv 24 50 HT_ (h := ?_)
                        refine pv 25 51 HT_ (h := ?_)
                        refine pv 26 52 HT_ (h := ?_)
                        refine pv 27 53 HT_ (h := ?_)
                        refine pv 28 54 HT_ (h := ?_)
                        refine pu 29 55 HT_ (h := ?_)
                        refine pu 30 56 HT_ (h := ?_)
                        refine pv 31 57 HT_ (h := ?_)
                        refine pv 32 58 HT_ (h := ?_)
                        refine pv 33 59 HT_ (h := ?_)
                        refine pv 34 60 HT_ (h := ?_)
                        refine pv 35 61 HT_ (h := ?_)
                        refine pv 36 62 HT_ (h := ?_)
                        refine pu 37 63 HT_ (h := ?_)
                        refine done_ (done_of HT_.out (by kernel_rfl)) ?_
                        try go_wp2
                        go_ret
                        exact ⟨mE, mB⟩
                    · rw [if_neg c12] at H
                      have c12b0 : (((rd_T44 l0 x4_2).f0) == ((rd_T44 l0 0).f0)) = false := beq_eq_false_iff_ne.mpr c12
                      have c12b1 : (((rd_T44 l0 x4_2).f0) != ((rd_T44 l0 0).f0)) = true := bne_iff_ne.mpr c12
                      obtain rfl := Option.some.inj H
                      try go_wp2
                      have n0_ := Aside0.mk (below_drew1 HB.out)
                      clear HB
                      have HB := n0_
                      clear n0_
                      have p132 : 0 ≤ (x4_2 : Int) := of_decide_eq_true mS
                      have q132 : x4_2 < (l0.length : Int) := of_decide_eq_true mS
                      obtain ⟨ad132, A132_2, c132_2, e132, hx132_0, hx132_1, hx132_2, hl132_2, hi132_2⟩ := at_T44 HR0.out x4_2 p132 q132
                      have hw132_2 := hx132_2
                      have hw132_1 := hx132_1
                      have hw132_0 := hx132_0
                      cases e132
                      replace hx132_0 := cB HB hx132_0
                      replace hx132_1 := cB HB hx132_1
                      replace hx132_2 := cB HB hx132_2
                      have HR132_2 := Aside0.mk hi132_2
                      have HC132_2 := Aside0.mk hl132_2
                      clear hi132_2 hl132_2
                      replace p132 := eq_true p132
                      replace q132 := eq_true q132
                      have p133 : 0 ≤ (0 : Int) := (by omega)
                      have q133 : 0 < (l0.length : Int) := of_decide_eq_true mS
                      obtain ⟨ad133, A133_2, c133_2, e133, hx133_0, hx133_1, hx133_2, hl133_2, hi133_2⟩ := at_T44 HR0.out 0 p133 q133
                      have hw133_2 := hx133_2
                      (try rw [show ((0 : Int)).toNat = 0 from rfl] at hw133_2)
                      (try rw [show 0 * 3 = 0 from rfl] at hw133_2)
                      (try rw [Addr.add_zero'] at hw133_2)
                      have hw133_1 := hx133_1
                      (try rw [show ((0 : Int)).toNat = 0 from rfl] at hw133_1)
                      (try rw [show 0 * 3 = 0 from rfl] at hw133_1)
                      (try rw [Addr.add_zero'] at hw133_1)
                      have hw133_0 := hx133_0
                      (try rw [show ((0 : Int)).toNat = 0 from rfl] at hw133_0)
                      (try rw [show 0 * 3 = 0 from rfl] at hw133_0)
                      (try rw [Addr.add_zero'] at hw133_0)
                      obtain rfl : ad132 = ad133 := (by injection e133)
                      have qi133 : (0 < l0.length) = True := eq_true (by omega)
                      (try rw [show ((0 : Int)).toNat = 0 from rfl] at hx133_0)
                      (try rw [show 0 * 3 = 0 from rfl] at hx133_0)
                      (try rw [Addr.add_zero'] at hx133_0)
                      (try rw [show ((0 : Int)).toNat = 0 from rfl] at hx133_1)
                      (try rw [show 0 * 3 = 0 from rfl] at hx133_1)
                      (try rw [Addr.add_zero'] at hx133_1)
                      (try rw [show ((0 : Int)).toNat = 0 from rfl] at hx133_2)
                      (try rw [show 0 * 3 = 0 from rfl] at hx133_2)
                      (try rw [Addr.add_zero'] at hx133_2)
                      replace hx133_0 := cB HB hx133_0
                      replace hx133_1 := cB HB hx133_1
                      replace hx133_2 := cB HB hx133_2
                      have HR133_2 := Aside0.mk hi133_2
                      have HC133_2 := Aside0.mk hl133_2
                      clear hi133_2 hl133_2
                      replace p133 := eq_true p133
                      replace q133 := eq_true q133
                      refine start_ (n := 38) (S := fun w' => w'.cell? (ad132.add ((x4_2).toNat * 3)) = some (.int .i64 ((rd_T44 l0 x4_2).f0)) ∧ w'.cell? ⟨(ad132.add ((x4_2).toNat * 3)).block, (ad132.add ((x4_2).toNat * 3)).off + 1, none⟩ = some (.int .i64 ((rd_T44 l0 x4_2).f1)) ∧ w'.cell? ⟨(ad132.add ((x4_2).toNat * 3)).block, (ad132.add ((x4_2).toNat * 3)).off + 2, none⟩ = some (.slice A132_2 ((rd_T44 l0 x4_2).f2).length c132_2) ∧ w'.cell? ad132 = some (.int .i64 ((rd_T44 l0 0).f0)) ∧ w'.cell? ⟨ad132.block, ad132.off + 1, none⟩ = some (.int .i64 ((rd_T44 l0 0).f1)) ∧ w'.cell? ⟨ad132.block, ad132.off + 2, none⟩ = some (.slice A133_2 ((rd_T44 l0 0).f2).length c133_2)) (ds := []) #[false, false, false, false, false, false, false, false, false, false, false, false, false, false, false, false, false, false, false, false, false, false, false, false, false, false, false, false, false, false, false, false, false, false, false, false, false, false] (by kernel_rfl) rfl rfl ⟨(cD HB hw132_0), (cD HB hw132_1), (cD HB hw132_2), (cD HB hw133_0), (cD HB hw133_1), (cD HB hw133_2)⟩ (fun hHeld => ?_); refine with_tabW spec_l05List.tab11 spec_l05List.bits11 (fun HT_ HW_ => ?_)
                      generalize wr.drew = w27 at HB HR132_2 HR133_2 hx132_0 hx132_1 hx132_2 hx133_0 hx133_1 hx133_2 hHeld ⊢
                      refine pu 0 26 HT_ (h := ?_)
                      refine pu 1 27 HT_ (h := ?_)
                      refine pu 2 28 HT_ (h := ?_)
                      refine pu 3 29 HT_ (h := ?_)
                      refine pu 5 31 HT_ (h := ?_)
                      refine pu 6 32 HT_ (h := ?_)
                      refine pu 7 33 HT_ (h := ?_)
                      refine ta 4 30 HT_ HW_ hHeld (hy := by rintro w' ⟨s0, s1, s2, s3, s4, s5⟩; go_simp; with_reducible rfl) (h := ?_)
                      refine ta 8 34 HT_ HW_ hHeld (hy := by rintro w' ⟨s0, s1, s2, s3, s4, s5⟩; go_simp; with_reducible rfl) (h := ?_)
                      refine pu 9 35 HT_ (h := ?_)
                      refine pu 10 36 HT_ (h := ?_)
                      refine pv 11 37 HT_ (h := ?_)
                      refine pv 12 38 HT_ (h := ?_)
                      refine pv 13 39 HT_ (h := ?_)
                      refine pv 14 40 HT_ (h := ?_)
                      refine pv 15 41 HT_ (h := ?_)
                      refine pv 16 42 HT_ (h := ?_)
                      refine pv 17 43 HT_ (h := ?_)
                      refine pv 18 44 HT_ (h := ?_)
                      refine pv 19 45 HT_ (h := ?_)
                      refine pv 20 46 HT_ (h := ?_)
                      refine pu 21 47 HT_ (h := ?_)
                      refine pu 22 48 HT_ (h := ?_)
                      refine pv 23 49 HT_ (h := ?_)
                      refine pv 24 50 HT_ (h := ?_)
                      refine pv 25 51 HT_ (h := ?_)
                      refine pv 26 52 HT_ (h := ?_)
                      refine pv 27 53 HT_ (h := ?_)
                      refine pv 28 54 HT_ (h := ?_)
                      refine pu 29 55 HT_ (h := ?_)
                      refine pu 30 56 HT_ (h := ?_)
                      refine pv 31 57 HT_ (h := ?_)
                      refine pv 32 58 HT_ (h := ?_)
                      refine pv 33 59 HT_ (h := ?_)
                      refine pv 34 60 HT_ (h := ?_)
                      refine pv 35 61 HT_ (h := ?_)
                      refine pv 36 62 HT_ (h := ?_)
                      refine pu 37 63 HT_ (h := ?_)
                      refine done_ (done_of HT_.out (by kernel_rfl)) ?_
                      try go_wp2
                      go_ret
                      exact ⟨mE, mB⟩
                  · rw [if_neg c11] at H
                    exact absurd H (by simp)
                · rw [if_neg c10] at H
                  exact absurd H (by simp)
              · rw [if_neg c9] at H
                have c9b0 : decide (x4_2 < (l0.length : Int)) = false := decide_eq_false c9
                clear c9
                obtain rfl := Option.some.inj H
                go_wp2
                go_ret
                exact ⟨mE, mB⟩

end Go.Proofs.Ytpeihdjefpnoaaa.EFnExactFreeNumber
