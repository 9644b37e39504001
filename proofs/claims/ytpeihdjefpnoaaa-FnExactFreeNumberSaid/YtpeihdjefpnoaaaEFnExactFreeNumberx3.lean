/- The functions that the law uses, as plain functions, and that the code comes to what they say. -/
import Derived.Test.YtpeihdjefpnoaaaEFnExactFreeNumberx0
import Derived.Test.YtpeihdjefpnoaaaEFnExactFreeNumberx1
import Derived.Test.YtpeihdjefpnoaaaEFnExactFreeNumberx2
namespace Go.Proofs.Ytpeihdjefpnoaaa.EFnExactFreeNumber
open Go.RowKit Go.Proofs.YtpeihdjefpnoaaaW.PrintWords Go.Proofs.YtpeihdjefpnoaaaW.PrintLast Go.Proofs.YtpeihdjefpnoaaaW.PrintMore Go.Proofs.YtpeihdjefpnoaaaX
attribute [local go_sem] max2_int min2_int max_two min_two max_three min_three max_four min_four   -- for this text's walks alone
set_option linter.unusedVariables false
set_option linter.unusedSimpArgs false

/-! ### spec_l01Is: function 46 -/
mutual
def spec_l01Is.j0 : Nat → Bool → Int → Int → List (S66) → Option (Bool)
  | 0, _, _, _, _ => none
  | k + 1, x14, x118000, x118001, x118002 => if x14 = true then (some false) else (spec_l01Is.l0 k 0 x118000 x118001 x118002)
def spec_l01Is.l0 : Nat → Int → Int → Int → List (S66) → Option (Bool)
  | 0, _, _, _, _ => none
  | k + 1, x3, x118000, x118001, x118002 => if x3 < (x118002.length : Int) then (if 0 ≤ x3 then ((spec_l01Exps.f k x118001 ((rd_T66 x118002 x3).f0.f0) ((rd_T66 x118002 x3).f0.f1) ((rd_T66 x118002 x3).f0.f2)).bind fun t122 => (if t122 = true then ((spec_l01In.f ((rd_T66 x118002 x3).f1) 1 (wrap64 (x118000 - 1))).bind fun t123 => (if t123 = true then (if x3 > 0 then (if 0 ≤ (wrap64 (x3 - 1)) then (if (wrap64 (x3 - 1)) < (x118002.length : Int) then ((spec_l01Before.f ((rd_T66 x118002 (wrap64 (x3 - 1))).f0.f0) ((rd_T66 x118002 (wrap64 (x3 - 1))).f0.f1) ((rd_T66 x118002 (wrap64 (x3 - 1))).f0.f2) ((rd_T66 x118002 x3).f0.f0) ((rd_T66 x118002 x3).f0.f1) ((rd_T66 x118002 x3).f0.f2)).bind fun t125 => (if t125 = true then (spec_l01Is.l0 k (wrap64 (x3 + 1)) x118000 x118001 x118002) else (some false))) else (none)) else (none)) else (spec_l01Is.l0 k (wrap64 (x3 + 1)) x118000 x118001 x118002)) else (some false))) else (some false))) else (none)) else (some true)
end
def spec_l01Is.f (k : Nat) (a0_0 : Int) (a0_1 : Int) (l0_2 : List (S66)) : Option (Bool) := (spec_l01Prime.f a0_0).bind fun t118 => (if t118 = true then ((spec_l01In.f a0_1 1 3).bind fun t119 => (spec_l01Is.j0 k (!t119) a0_0 a0_1 l0_2)) else (spec_l01Is.j0 k true a0_0 a0_1 l0_2))
theorem spec_l01Is.mono_l : ∀ k, (∀ y0 y1 y2 y3, LeO (spec_l01Is.j0 k y0 y1 y2 y3) (spec_l01Is.j0 (k + 1) y0 y1 y2 y3)) ∧ (∀ y0 y1 y2 y3, LeO (spec_l01Is.l0 k y0 y1 y2 y3) (spec_l01Is.l0 (k + 1) y0 y1 y2 y3))
  | 0 => ⟨fun _ _ _ _ r h => by simp [spec_l01Is.j0] at h, fun _ _ _ _ r h => by simp [spec_l01Is.l0] at h⟩
  | k + 1 => by
    obtain ⟨ih0, ih1⟩ := spec_l01Is.mono_l k
    refine ⟨?_, ?_⟩
    · intro y0 y1 y2 y3
      unfold spec_l01Is.j0
      repeat' first
      | (with_reducible exact ih0 _ _ _ _)
      | (with_reducible exact ih1 _ _ _ _)
      | (with_reducible exact spec_l01Exps.mono _ _ _ _ _)
      | (with_reducible exact LeO.refl _)
      | (with_reducible exact LeO.none _)
      | (with_reducible refine LeO.ite ?_ ?_)
      | (with_reducible refine LeO.bind ?_ (fun _ => ?_))
      | exact ih0 _ _ _ _
      | exact ih1 _ _ _ _
      | exact spec_l01Exps.mono _ _ _ _ _
      | exact LeO.none _
      | refine LeO.ite ?_ ?_
      | refine LeO.bind ?_ (fun _ => ?_)
    · intro y0 y1 y2 y3
      unfold spec_l01Is.l0
      repeat' first
      | (with_reducible exact ih0 _ _ _ _)
      | (with_reducible exact ih1 _ _ _ _)
      | (with_reducible exact spec_l01Exps.mono _ _ _ _ _)
      | (with_reducible exact LeO.refl _)
      | (with_reducible exact LeO.none _)
      | (with_reducible refine LeO.ite ?_ ?_)
      | (with_reducible refine LeO.bind ?_ (fun _ => ?_))
      | exact ih0 _ _ _ _
      | exact ih1 _ _ _ _
      | exact spec_l01Exps.mono _ _ _ _ _
      | exact LeO.none _
      | refine LeO.ite ?_ ?_
      | refine LeO.bind ?_ (fun _ => ?_)
theorem spec_l01Is.mono : ∀ a0 a1 a2 k, LeO (spec_l01Is.f k a0 a1 a2) (spec_l01Is.f (k + 1) a0 a1 a2) := by
  intro a0 a1 a2 k
  obtain ⟨ih0, ih1⟩ := spec_l01Is.mono_l k
  unfold spec_l01Is.f
  repeat' first
      | (with_reducible exact ih0 _ _ _ _)
      | (with_reducible exact ih1 _ _ _ _)
      | (with_reducible exact spec_l01Exps.mono _ _ _ _ _)
      | (with_reducible exact LeO.refl _)
      | (with_reducible exact LeO.none _)
      | (with_reducible refine LeO.ite ?_ ?_)
      | (with_reducible refine LeO.bind ?_ (fun _ => ?_))
      | exact ih0 _ _ _ _
      | exact ih1 _ _ _ _
      | exact spec_l01Exps.mono _ _ _ _ _
      | exact LeO.none _
      | refine LeO.ite ?_ ?_
      | refine LeO.bind ?_ (fun _ => ?_)
def spec_l01Is.T7 : Bool × List (List Nat × List Nat) := (true, [([], []), ([0], [0]), ([], []), ([2], [2]), ([1, 3], [1, 3]), ([4], [4]), ([5, 4], [5]), ([6], [6]), ([7, 6], [6, 7]), ([6], [6]), ([9, 6], [6, 9]), ([10, 6], [6, 10]), ([8, 11, 6, 6], [6, 8, 11]), ([12, 6], [6, 12]), ([6, 13], [6, 13]), ([14, 12], [14]), ([15], [15]), ([16, 15], [15, 16]), ([17, 15, 15], [15, 17]), ([18], [18]), ([19, 18], [18, 19]), ([18], [18]), ([21, 18], [18, 21]), ([20, 22, 18], [18, 20, 22]), ([23, 18], [18, 23]), ([24, 18], [18, 24]), ([18], [18]), ([26, 18], [18, 26]), ([25, 27, 18, 18], [18, 25, 27]), ([28, 18], [18, 28]), ([18, 29, 15], [15, 18, 29]), ([15, 30], [15, 30])])
def spec_l01Is.B7 : List Nat := [0, 1, 0, 4, 15, 31, 63, 127, 255, 127, 639, 1663, 4095, 8191, 16383, 32767, 65535, 131071, 262143, 524287, 1048575, 524287, 2621439, 8388607, 16777215, 33554431, 524287, 67633151, 268435455, 536870911, 1073741823, 2147483647]
theorem spec_l01Is.tab7 : rtab .any (opsOf Try.f46 7) = spec_l01Is.T7 := by kernel_rfl
theorem spec_l01Is.bits7 : waitsOk spec_l01Is.T7.2 spec_l01Is.B7 = true := by kernel_rfl
set_option maxHeartbeats 8000000 in
set_option maxRecDepth 100000 in
theorem spec_l01Is.calls (k : Nat) (a0_0 : Int) (a0_1 : Int) (A0_2 : Option Addr) (c0_2 : Nat) (l0_2 : List (S66)) (r : Bool) (w : World) (hr0_2 : Kd.C k66 w A0_2 l0_2.length l0_2) (hc0_2 : l0_2.length ≤ c0_2) (h : spec_l01Is.f k a0_0 a0_1 l0_2 = some r) :
    Calls Try.prog 46 #[.agg #[.int .i64 a0_0, .int .i64 a0_1, .slice A0_2 l0_2.length c0_2]] w fun e w' => e = .returned (.bool r) ∧ Below w.heap.size w w' := by
  have hu44 := Try.underlying44
  have hu66 := Try.underlying66
  have hu64 := Try.underlying64
  have HR0_2 := Aside0.mk hr0_2
  have HC0_2 := Aside0.mk hc0_2
  clear hr0_2 hc0_2
  have HB := Aside0.mk (Below.refl w.heap.size w)
  have H : ((spec_l01Prime.f a0_0).bind fun t118 => (if t118 = true then ((spec_l01In.f a0_1 1 3).bind fun t119 => (spec_l01Is.j0 k (!t119) a0_0 a0_1 l0_2)) else (spec_l01Is.j0 k true a0_0 a0_1 l0_2))) = some r := h
  clear h
  have HC2 := Aside0.mk H
  clear H
  go_enter Try.func46, Try.ntmps46
  go_upto_region 1 with (first | ((with_reducible refine gate_dst (N := 1) rfl ?_); refine box_event ?hg (N := 1) ?hd (cs := #[.int .i64 a0_0, .int .i64 a0_1, .slice A0_2 l0_2.length c0_2]) (t := 44) ?hr ?_; (case hd => rfl); (case hg => rfl); (case hr => first | (go_simp; done) | (go_simp; rfl)); intro gb117 hg w3 hbox hb; have n0_ := Aside0.mk (below_step mB hb); have n1_ := Aside0.mk (hbox); have n2_ := Aside0.mk ((mG : w.heap.size ≤ gb117)); have n3_ := Aside0.mk ((mG : w.heap.size ≤ gb117)); clear HB; have HB := n0_; have BK117 := n1_; have GW117 := n2_; have GE117 := n3_; clear n0_ n1_ n2_ n3_; clear hb hbox hg))
  (try simp only [Act.put, List.setIfInBounds_toArray, List.set_cons_zero, List.set_cons_succ])
  go_cut [14] (fun v14 wc => ∃ (kq : Nat) (x14_1 : Bool), v14 = .bool x14_1 ∧ Aside0 (spec_l01Is.j0 kq x14_1 a0_0 a0_1 l0_2 = some r) ∧ Aside0 (kq ≤ k) ∧ Aside0 (wc.heap[gb117]? = some (.cells #[.int .i64 a0_0, .int .i64 a0_1, (.slice A0_2 l0_2.length c0_2)] 44 (0, 0))) ∧ Aside0 (Below w.heap.size w wc))
  case first =>
    have H := HC2.out
    clear HC2
    replace H := Option.bind_eq_some_iff.mp H
    obtain ⟨t118, A40, H⟩ := H
    replace H : (if t118 = true then ((spec_l01In.f a0_1 1 3).bind fun t119 => (spec_l01Is.j0 k (!t119) a0_0 a0_1 l0_2)) else (spec_l01Is.j0 k true a0_0 a0_1 l0_2)) = some r := H
    have A4 := Aside0.mk A40
    clear A40
    by_cases c5 : t118 = true
    · subst c5
      have H1 : ((spec_l01In.f a0_1 1 3).bind fun t119 => (spec_l01Is.j0 k (!t119) a0_0 a0_1 l0_2)) = some r := by rw [if_pos rfl] at H; exact H
      clear H
      have H := H1
      clear H1
      replace H := Option.bind_eq_some_iff.mp H
      obtain ⟨t119, A60, H⟩ := H
      replace H : (spec_l01Is.j0 k (!t119) a0_0 a0_1 l0_2) = some r := H
      have A6 := Aside0.mk A60
      clear A60
      have H' := Aside0.mk H
      clear H
      have hcz7_0 : w3.cell? ⟨gb117, 0, none⟩ = some (.int .i64 a0_0) := (blk_cell BK117.out 0).trans rfl
      have hcz7_1 : w3.cell? ⟨gb117, 1, none⟩ = some (.int .i64 a0_1) := (blk_cell BK117.out 1).trans rfl
      have hcz7_2 : w3.cell? ⟨gb117, 2, none⟩ = some (.slice A0_2 l0_2.length c0_2) := (blk_cell BK117.out 2).trans rfl
      have hfz7_0 := blk_frozen BK117.out 0
      have hfz7_1 := blk_frozen BK117.out 1
      have hfz7_2 := blk_frozen BK117.out 2
      go_wp2_with (first | ((with_reducible refine gate_callee (f := 53) rfl ?_); refine goL (some 7) Try.func53 #[.int .i64 a0_0] (h := ?_); (with_reducible refine (spec_l01Prime.calls a0_0 true _ A4.out).mono ?_); rintro e w' ⟨rfl, ⟨nd, rfl⟩⟩; refine ⟨_, rfl, ?_⟩) | (go_at_call 33; (with_reducible refine (spec_l01In.calls a0_1 1 3 t119 _ A6.out).mono ?_); rintro e w' ⟨rfl, ⟨nd, rfl⟩⟩))
      go_meet
      case rel => exact ⟨_, (!t119), mF, H', ⟨by first | omega | exact Nat.le_refl _⟩, ⟨by (with_reducible repeat (first | refine blk_drewN ?_ _ | refine blk_drew ?_ | refine blk_alloc ?_ _)); exact BK117.out⟩, ⟨mB⟩⟩
    · replace c5 := Bool.eq_false_iff.mpr c5
      subst c5
      have H1 : (spec_l01Is.j0 k true a0_0 a0_1 l0_2) = some r := by rw [if_neg (show ¬ (false = true) by decide)] at H; exact H
      clear H
      have H := H1
      clear H1
      have H' := Aside0.mk H
      clear H
      have hcz8_0 : w3.cell? ⟨gb117, 0, none⟩ = some (.int .i64 a0_0) := (blk_cell BK117.out 0).trans rfl
      have hcz8_1 : w3.cell? ⟨gb117, 1, none⟩ = some (.int .i64 a0_1) := (blk_cell BK117.out 1).trans rfl
      have hcz8_2 : w3.cell? ⟨gb117, 2, none⟩ = some (.slice A0_2 l0_2.length c0_2) := (blk_cell BK117.out 2).trans rfl
      have hfz8_0 := blk_frozen BK117.out 0
      have hfz8_1 := blk_frozen BK117.out 1
      have hfz8_2 := blk_frozen BK117.out 2
      go_wp2_with (first | ((with_reducible refine gate_callee (f := 53) rfl ?_); refine goL (some 7) Try.func53 #[.int .i64 a0_0] (h := ?_); (with_reducible refine (spec_l01Prime.calls a0_0 false _ A4.out).mono ?_); rintro e w' ⟨rfl, ⟨nd, rfl⟩⟩; refine ⟨_, rfl, ?_⟩))
      go_meet
      case rel => exact ⟨_, (true), mF, H', ⟨by first | omega | exact Nat.le_refl _⟩, ⟨by (with_reducible repeat (first | refine blk_drewN ?_ _ | refine blk_drew ?_ | refine blk_alloc ?_ _)); exact BK117.out⟩, ⟨mB⟩⟩
  case rest =>
    clear HC2
    try clear p2
    try clear c4
    try clear c5
    try clear hcz7_0
    try clear hcz7_1
    try clear hcz7_2
    try clear hcz8_0
    try clear hcz8_1
    try clear hcz8_2
    try clear hfz7_0
    try clear hfz7_1
    try clear hfz7_2
    try clear hfz8_0
    try clear hfz8_1
    try clear hfz8_2
    obtain ⟨kq, x14_1, rfl, HA, HJ1, BK117, HB⟩ := hcut
    cases kq with
    | zero => exact absurd HA.out (by simp [spec_l01Is.j0])
    | succ kj1 =>
      have H := HA.out
      clear HA
      simp only [spec_l01Is.j0] at H
      by_cases c9 : x14_1 = true
      · subst c9
        have H1 : (some false) = some r := by rw [if_pos rfl] at H; exact H
        clear H
        have H := H1
        clear H1
        obtain rfl := Option.some.inj H
        go_wp2
        go_ret
        exact ⟨mE, mB⟩
      · replace c9 := Bool.eq_false_iff.mpr c9
        subst c9
        have H1 : (spec_l01Is.l0 kj1 0 a0_0 a0_1 l0_2) = some r := by rw [if_neg (show ¬ (false = true) by decide)] at H; exact H
        clear H
        have H := H1
        clear H1
        have H' := Aside0.mk H
        clear H
        go_wp2
        go_loopg [3] kj1 (fun kq v3 w' => ∃ (x3_2 : Int), v3 = .int .i64 x3_2 ∧ Aside0 (spec_l01Is.l0 kq x3_2 a0_0 a0_1 l0_2 = some r) ∧ Aside0 (kq ≤ kj1) ∧ Aside0 (w'.heap[gb117]? = some (.cells #[.int .i64 a0_0, .int .i64 a0_1, (.slice A0_2 l0_2.length c0_2)] 44 (0, 0))) ∧ Aside0 (Below w.heap.size w w'))
        case atStart => exact ⟨(0), mF, H', ⟨Nat.le_refl _⟩, ⟨by (with_reducible repeat (first | refine blk_drewN ?_ _ | refine blk_drew ?_ | refine blk_alloc ?_ _)); exact BK117.out⟩, ⟨mB⟩⟩
        case round =>
          clear H'
          try clear p2
          try clear c4
          try clear c5
          try clear c9
          try clear hcz7_0
          try clear hcz7_1
          try clear hcz7_2
          try clear hcz8_0
          try clear hcz8_1
          try clear hcz8_2
          try clear hfz7_0
          try clear hfz7_1
          try clear hfz7_2
          try clear hfz8_0
          try clear hfz8_1
          try clear hfz8_2
          try clear p2
          obtain ⟨x3_2, rfl, HA, HK2, BK117, HB⟩ := hrel
          cases gk with
          | zero => exact absurd HA.out (by simp [spec_l01Is.l0])
          | succ k2 =>
            have H := HA.out
            clear HA
            simp only [spec_l01Is.l0] at H
            by_cases c10 : x3_2 < (l0_2.length : Int)
            · rw [if_pos c10] at H
              have c10b0 : decide (x3_2 < (l0_2.length : Int)) = true := decide_eq_true c10
              clear c10
              by_cases c11 : 0 ≤ x3_2
              · rw [if_pos c11] at H
                have c11b0 : decide (0 ≤ x3_2) = true := decide_eq_true c11
                clear c11
                replace H := Option.bind_eq_some_iff.mp H
                obtain ⟨t122, A120, H⟩ := H
                replace H : (if t122 = true then ((spec_l01In.f ((rd_T66 l0_2 x3_2).f1) 1 (wrap64 (a0_0 - 1))).bind fun t123 => (if t123 = true then (if x3_2 > 0 then (if 0 ≤ (wrap64 (x3_2 - 1)) then (if (wrap64 (x3_2 - 1)) < (l0_2.length : Int) then ((spec_l01Before.f ((rd_T66 l0_2 (wrap64 (x3_2 - 1))).f0.f0) ((rd_T66 l0_2 (wrap64 (x3_2 - 1))).f0.f1) ((rd_T66 l0_2 (wrap64 (x3_2 - 1))).f0.f2) ((rd_T66 l0_2 x3_2).f0.f0) ((rd_T66 l0_2 x3_2).f0.f1) ((rd_T66 l0_2 x3_2).f0.f2)).bind fun t125 => (if t125 = true then (spec_l01Is.l0 k2 (wrap64 (x3_2 + 1)) a0_0 a0_1 l0_2) else (some false))) else (none)) else (none)) else (spec_l01Is.l0 k2 (wrap64 (x3_2 + 1)) a0_0 a0_1 l0_2)) else (some false))) else (some false)) = some r := H
                have A12 := Aside0.mk A120
                clear A120
                by_cases c13 : t122 = true
                · subst c13
                  have H1 : ((spec_l01In.f ((rd_T66 l0_2 x3_2).f1) 1 (wrap64 (a0_0 - 1))).bind fun t123 => (if t123 = true then (if x3_2 > 0 then (if 0 ≤ (wrap64 (x3_2 - 1)) then (if (wrap64 (x3_2 - 1)) < (l0_2.length : Int) then ((spec_l01Before.f ((rd_T66 l0_2 (wrap64 (x3_2 - 1))).f0.f0) ((rd_T66 l0_2 (wrap64 (x3_2 - 1))).f0.f1) ((rd_T66 l0_2 (wrap64 (x3_2 - 1))).f0.f2) ((rd_T66 l0_2 x3_2).f0.f0) ((rd_T66 l0_2 x3_2).f0.f1) ((rd_T66 l0_2 x3_2).f0.f2)).bind fun t125 => (if t125 = true then (spec_l01Is.l0 k2 (wrap64 (x3_2 + 1)) a0_0 a0_1 l0_2) else (some false))) else (none)) else (none)) else (spec_l01Is.l0 k2 (wrap64 (x3_2 + 1)) a0_0 a0_1 l0_2)) else (some false))) = some r := by rw [if_pos rfl] at H; exact H
                  clear H
                  have H := H1
                  clear H1
                  replace H := Option.bind_eq_some_iff.mp H
                  obtain ⟨t123, A140, H⟩ := H
                  replace H : (if t123 = true then (if x3_2 > 0 then (if 0 ≤ (wrap64 (x3_2 - 1)) then (if (wrap64 (x3_2 - 1)) < (l0_2.length : Int) then ((spec_l01Before.f ((rd_T66 l0_2 (wrap64 (x3_2 - 1))).f0.f0) ((rd_T66 l0_2 (wrap64 (x3_2 - 1))).f0.f1) ((rd_T66 l0_2 (wrap64 (x3_2 - 1))).f0.f2) ((rd_T66 l0_2 x3_2).f0.f0) ((rd_T66 l0_2 x3_2).f0.f1) ((rd_T66 l0_2 x3_2).f0.f2)).bind fun t125 => (if t125 = true then (spec_l01Is.l0 k2 (wrap64 (x3_2 + 1)) a0_0 a0_1 l0_2) else (some false))) else (none)) else (none)) else (spec_l01Is.l0 k2 (wrap64 (x3_2 + 1)) a0_0 a0_1 l0_2)) else (some false)) = some r := H
                  have A14 := Aside0.mk A140
                  clear A140
                  by_cases c15 : t123 = true
                  · subst c15
                    have H1 : (if x3_2 > 0 then (if 0 ≤ (wrap64 (x3_2 - 1)) then (if (wrap64 (x3_2 - 1)) < (l0_2.length : Int) then ((spec_l01Before.f ((rd_T66 l0_2 (wrap64 (x3_2 - 1))).f0.f0) ((rd_T66 l0_2 (wrap64 (x3_2 - 1))).f0.f1) ((rd_T66 l0_2 (wrap64 (x3_2 - 1))).f0.f2) ((rd_T66 l0_2 x3_2).f0.f0) ((rd_T66 l0_2 x3_2).f0.f1) ((rd_T66 l0_2 x3_2).f0.f2)).bind fun t125 => (if t125 = true then (spec_l01Is.l0 k2 (wrap64 (x3_2 + 1)) a0_0 a0_1 l0_2) else (some false))) else (none)) else (none)) else (spec_l01Is.l0 k2 (wrap64 (x3_2 + 1)) a0_0 a0_1 l0_2)) = some r := by rw [if_pos rfl] at H; exact H
                    clear H
                    have H := H1
                    clear H1
                    by_cases c16 : x3_2 > 0
                    · rw [if_pos c16] at H
                      have c16b0 : decide (0 < x3_2) = true := decide_eq_true c16
                      clear c16
                      obtain ⟨ji17, hji17⟩ : ∃ j_ : Int, (wrap64 (x3_2 - 1)) = j_ := ⟨_, rfl⟩
                      replace H : (if 0 ≤ (ji17) then (if (ji17) < (l0_2.length : Int) then ((spec_l01Before.f ((rd_T66 l0_2 (ji17)).f0.f0) ((rd_T66 l0_2 (ji17)).f0.f1) ((rd_T66 l0_2 (ji17)).f0.f2) ((rd_T66 l0_2 x3_2).f0.f0) ((rd_T66 l0_2 x3_2).f0.f1) ((rd_T66 l0_2 x3_2).f0.f2)).bind fun t125 => (if t125 = true then (spec_l01Is.l0 k2 (wrap64 (x3_2 + 1)) a0_0 a0_1 l0_2) else (some false))) else (none)) else (none)) = some r := by first | (rw [hji17] at H; exact H) | (simp only [hji17] at H ⊢; exact H)
                      (try rw [hji17] at A12)
                      (try rw [hji17] at A14)
                      have hji17w : (IntKind.i64.wrap (x3_2 - 1)) = ji17 := (i64_w _).trans hji17
                      by_cases c18 : 0 ≤ (ji17)
                      · rw [if_pos c18] at H
                        have c18b0 : decide (0 ≤ (ji17)) = true := decide_eq_true c18
                        clear c18
                        by_cases c19 : (ji17) < (l0_2.length : Int)
                        · rw [if_pos c19] at H
                          have c19b0 : decide ((ji17) < (l0_2.length : Int)) = true := decide_eq_true c19
                          clear c19
                          replace H := Option.bind_eq_some_iff.mp H
                          obtain ⟨t125, A200, H⟩ := H
                          replace H : (if t125 = true then (spec_l01Is.l0 k2 (wrap64 (x3_2 + 1)) a0_0 a0_1 l0_2) else (some false)) = some r := H
                          have A20 := Aside0.mk A200
                          clear A200
                          by_cases c21 : t125 = true
                          · subst c21
                            have H1 : (spec_l01Is.l0 k2 (wrap64 (x3_2 + 1)) a0_0 a0_1 l0_2) = some r := by rw [if_pos rfl] at H; exact H
                            clear H
                            have H := H1
                            clear H1
                            have H' := Aside0.mk H
                            clear H
                            have hcz22_0 : wr.cell? ⟨gb117, 0, none⟩ = some (.int .i64 a0_0) := (blk_cell BK117.out 0).trans rfl
                            have hcz22_1 : wr.cell? ⟨gb117, 1, none⟩ = some (.int .i64 a0_1) := (blk_cell BK117.out 1).trans rfl
                            have hcz22_2 : wr.cell? ⟨gb117, 2, none⟩ = some (.slice A0_2 l0_2.length c0_2) := (blk_cell BK117.out 2).trans rfl
                            have hfz22_0 := blk_frozen BK117.out 0
                            have hfz22_1 := blk_frozen BK117.out 1
                            have hfz22_2 := blk_frozen BK117.out 2
                            have p120 : 0 ≤ (x3_2 : Int) := of_decide_eq_true mS
                            have q120 : x3_2 < (l0_2.length : Int) := of_decide_eq_true mS
                            obtain ⟨ad120, e120, hx120_0, hx120_1, hx120_2, hx120_3⟩ := at_T66 HR0_2.out x3_2 p120 q120
                            cases e120
                            replace hx120_0 := cB HB hx120_0
                            replace hx120_1 := cB HB hx120_1
                            replace hx120_2 := cB HB hx120_2
                            replace hx120_3 := cB HB hx120_3
                            replace p120 := eq_true p120
                            replace q120 := eq_true q120
                            try go_wp2_with (first | ((with_reducible refine gate_dst (N := 4) rfl ?_); refine box_event ?hg (N := 4) ?hd (cs := #[.int .u8 0, .int .u8 0, .int .u8 0, .int .i64 0]) (t := 66) ?hr ?_; (case hd => rfl); (case hg => rfl); (case hr => first | (go_simp; done) | (go_simp; rfl)); intro gb121 hg w23 hbox hb; have n0_ := Aside0.mk (blk_below (g := gb117) (o := .cells #[.int .i64 a0_0, .int .i64 a0_1, .slice (some ad120) l0_2.length c0_2] 44 (0, 0)) (mk BK117.out) hb); have n1_ := Aside0.mk (below_step mB hb); have n2_ := Aside0.mk (hbox); have n3_ := Aside0.mk ((mG : w.heap.size ≤ gb121)); have n4_ := Aside0.mk ((mG : w.heap.size ≤ gb121)); have n5_ := Aside0.mk ((by rw [hg]; exact Nat.ne_of_lt (blk_lt (g := gb117) (o := .cells #[.int .i64 a0_0, .int .i64 a0_1, .slice (some ad120) l0_2.length c0_2] 44 (0, 0)) (mk BK117.out)) : gb117 ≠ gb121)); have n6_ := Aside0.mk ((by rw [hg]; exact Nat.ne_of_gt (blk_lt (g := gb117) (o := .cells #[.int .i64 a0_0, .int .i64 a0_1, .slice (some ad120) l0_2.length c0_2] 44 (0, 0)) (mk BK117.out)) : gb121 ≠ gb117)); clear BK117; clear HB; have BK117 := n0_; have HB := n1_; have BK121 := n2_; have GW121 := n3_; have GE121 := n4_; have NB117_121 := n5_; have NB121_117 := n6_; clear n0_ n1_ n2_ n3_ n4_ n5_ n6_; clear hb hbox hg; have hnb24 := NB121_117.out; have hnc24 := NB117_121.out; have hcz25_0 : w23.cell? ⟨gb121, 0, none⟩ = some (.int .u8 0) := (blk_cell BK121.out 0).trans rfl; have hcz25_1 : w23.cell? ⟨gb121, 1, none⟩ = some (.int .u8 0) := (blk_cell BK121.out 1).trans rfl; have hcz25_2 : w23.cell? ⟨gb121, 2, none⟩ = some (.int .u8 0) := (blk_cell BK121.out 2).trans rfl; have hcz25_3 : w23.cell? ⟨gb121, 3, none⟩ = some (.int .i64 0) := (blk_cell BK121.out 3).trans rfl; have hfz25_0 := blk_frozen BK121.out 0; have hfz25_1 := blk_frozen BK121.out 1; have hfz25_2 := blk_frozen BK121.out 2; have hfz25_3 := blk_frozen BK121.out 3))
                            have n0_ : Aside0 (((((w23.setCell ⟨gb121, 0, none⟩ (.int .u8 ((rd_T66 l0_2 x3_2).f0.f0))).setCell ⟨gb121, 1, none⟩ (.int .u8 ((rd_T66 l0_2 x3_2).f0.f1))).setCell ⟨gb121, 2, none⟩ (.int .u8 ((rd_T66 l0_2 x3_2).f0.f2))).setCell ⟨gb121, 3, none⟩ (.int .i64 ((rd_T66 l0_2 x3_2).f1))).heap[gb117]? = some (.cells #[.int .i64 a0_0, .int .i64 a0_1, .slice (some ad120) l0_2.length c0_2] 44 (0, 0))) := ⟨by (with_reducible repeat (first | refine blk_drewN ?_ _ | refine blk_drew ?_ | refine blk_alloc ?_ _)); refine blk_far ?_ NB117_121.out _; (with_reducible repeat (first | refine blk_drewN ?_ _ | refine blk_drew ?_ | refine blk_alloc ?_ _)); refine blk_far ?_ NB117_121.out _; (with_reducible repeat (first | refine blk_drewN ?_ _ | refine blk_drew ?_ | refine blk_alloc ?_ _)); refine blk_far ?_ NB117_121.out _; (with_reducible repeat (first | refine blk_drewN ?_ _ | refine blk_drew ?_ | refine blk_alloc ?_ _)); refine blk_far ?_ NB117_121.out _; (with_reducible repeat (first | refine blk_drewN ?_ _ | refine blk_drew ?_ | refine blk_alloc ?_ _)); exact BK117.out⟩
                            have n1_ : Aside0 (((((w23.setCell ⟨gb121, 0, none⟩ (.int .u8 ((rd_T66 l0_2 x3_2).f0.f0))).setCell ⟨gb121, 1, none⟩ (.int .u8 ((rd_T66 l0_2 x3_2).f0.f1))).setCell ⟨gb121, 2, none⟩ (.int .u8 ((rd_T66 l0_2 x3_2).f0.f2))).setCell ⟨gb121, 3, none⟩ (.int .i64 ((rd_T66 l0_2 x3_2).f1))).heap[gb121]? = some (.cells #[.int .u8 ((rd_T66 l0_2 x3_2).f0.f0), .int .u8 ((rd_T66 l0_2 x3_2).f0.f1), .int .u8 ((rd_T66 l0_2 x3_2).f0.f2), .int .i64 ((rd_T66 l0_2 x3_2).f1)] 66 (0, 0))) := ⟨by (with_reducible repeat (first | refine blk_drewN ?_ _ | refine blk_drew ?_ | refine blk_alloc ?_ _)); refine blk_put (cs := #[.int .u8 ((rd_T66 l0_2 x3_2).f0.f0), .int .u8 ((rd_T66 l0_2 x3_2).f0.f1), .int .u8 ((rd_T66 l0_2 x3_2).f0.f2), .int .i64 0]) ?_ 3 _ rfl; (with_reducible repeat (first | refine blk_drewN ?_ _ | refine blk_drew ?_ | refine blk_alloc ?_ _)); refine blk_put (cs := #[.int .u8 ((rd_T66 l0_2 x3_2).f0.f0), .int .u8 ((rd_T66 l0_2 x3_2).f0.f1), .int .u8 0, .int .i64 0]) ?_ 2 _ rfl; (with_reducible repeat (first | refine blk_drewN ?_ _ | refine blk_drew ?_ | refine blk_alloc ?_ _)); refine blk_put (cs := #[.int .u8 ((rd_T66 l0_2 x3_2).f0.f0), .int .u8 0, .int .u8 0, .int .i64 0]) ?_ 1 _ rfl; (with_reducible repeat (first | refine blk_drewN ?_ _ | refine blk_drew ?_ | refine blk_alloc ?_ _)); refine blk_put (cs := #[.int .u8 0, .int .u8 0, .int .u8 0, .int .i64 0]) ?_ 0 _ rfl; (with_reducible repeat (first | refine blk_drewN ?_ _ | refine blk_drew ?_ | refine blk_alloc ?_ _)); exact BK121.out⟩
                            have n2_ : Aside0 (Below w.heap.size w ((((w23.setCell ⟨gb121, 0, none⟩ (.int .u8 ((rd_T66 l0_2 x3_2).f0.f0))).setCell ⟨gb121, 1, none⟩ (.int .u8 ((rd_T66 l0_2 x3_2).f0.f1))).setCell ⟨gb121, 2, none⟩ (.int .u8 ((rd_T66 l0_2 x3_2).f0.f2))).setCell ⟨gb121, 3, none⟩ (.int .i64 ((rd_T66 l0_2 x3_2).f1)))) := ⟨mB⟩
                            (try clear BK117)
                            (try clear BK121)
                            (try clear HB)
                            generalize ((((w23.setCell ⟨gb121, 0, none⟩ (.int .u8 ((rd_T66 l0_2 x3_2).f0.f0))).setCell ⟨gb121, 1, none⟩ (.int .u8 ((rd_T66 l0_2 x3_2).f0.f1))).setCell ⟨gb121, 2, none⟩ (.int .u8 ((rd_T66 l0_2 x3_2).f0.f2))).setCell ⟨gb121, 3, none⟩ (.int .i64 ((rd_T66 l0_2 x3_2).f1))) = w26 at n0_ n1_ n2_ ⊢
                            have BK117 := n0_
                            have BK121 := n1_
                            have HB := n2_
                            clear n0_ n1_ n2_
                            have n0_ := Aside0.mk (blk_drew BK117.out)
                            have n1_ := Aside0.mk (blk_drew BK121.out)
                            have n2_ := Aside0.mk (below_drew1 HB.out)
                            clear BK117
                            clear BK121
                            clear HB
                            have BK117 := n0_
                            have BK121 := n1_
                            have HB := n2_
                            clear n0_ n1_ n2_
                            have p124 : 0 ≤ ((ji17) : Int) := of_decide_eq_true mS
                            have q124 : (ji17) < (l0_2.length : Int) := of_decide_eq_true mS
                            obtain ⟨ad124, e124, hx124_0, hx124_1, hx124_2, hx124_3⟩ := at_T66 HR0_2.out (ji17) p124 q124
                            have hw124_3 := hx124_3
                            have hw124_2 := hx124_2
                            have hw124_1 := hx124_1
                            have hw124_0 := hx124_0
                            obtain rfl : ad120 = ad124 := (by injection e124)
                            replace hx124_0 := cB HB hx124_0
                            replace hx124_1 := cB HB hx124_1
                            replace hx124_2 := cB HB hx124_2
                            replace hx124_3 := cB HB hx124_3
                            replace p124 := eq_true p124
                            replace q124 := eq_true q124
                            refine start_ (n := 32) (S := fun w' => w'.cell? ⟨gb117, 0, none⟩ = some (.int .i64 a0_0) ∧ w'.cell? ⟨gb117, 1, none⟩ = some (.int .i64 a0_1) ∧ w'.cell? ⟨gb117, 2, none⟩ = some (.slice (some ad120) l0_2.length c0_2) ∧ w'.cell? ⟨gb121, 0, none⟩ = some (.int .u8 ((rd_T66 l0_2 x3_2).f0.f0)) ∧ w'.cell? ⟨gb121, 1, none⟩ = some (.int .u8 ((rd_T66 l0_2 x3_2).f0.f1)) ∧ w'.cell? ⟨gb121, 2, none⟩ = some (.int .u8 ((rd_T66 l0_2 x3_2).f0.f2)) ∧ w'.cell? ⟨gb121, 3, none⟩ = some (.int .i64 ((rd_T66 l0_2 x3_2).f1)) ∧ w'.cell? (ad120.add (((ji17)).toNat * 4)) = some (.int .u8 ((rd_T66 l0_2 (ji17)).f0.f0)) ∧ w'.cell? ⟨(ad120.add (((ji17)).toNat * 4)).block, (ad120.add (((ji17)).toNat * 4)).off + 1, none⟩ = some (.int .u8 ((rd_T66 l0_2 (ji17)).f0.f1)) ∧ w'.cell? ⟨(ad120.add (((ji17)).toNat * 4)).block, (ad120.add (((ji17)).toNat * 4)).off + 2, none⟩ = some (.int .u8 ((rd_T66 l0_2 (ji17)).f0.f2)) ∧ w'.cell? ⟨(ad120.add (((ji17)).toNat * 4)).block, (ad120.add (((ji17)).toNat * 4)).off + 3, none⟩ = some (.int .i64 ((rd_T66 l0_2 (ji17)).f1))) (ds := []) #[false, false, false, false, false, false, false, false, false, false, false, false, false, false, false, false, false, false, false, false, false, false, false, false, false, false, false, false, false, false, false, false] (by kernel_rfl) rfl rfl ⟨(blk_cell BK117.out 0).trans rfl, (blk_cell BK117.out 1).trans rfl, (blk_cell BK117.out 2).trans rfl, (blk_cell BK121.out 0).trans rfl, (blk_cell BK121.out 1).trans rfl, (blk_cell BK121.out 2).trans rfl, (blk_cell BK121.out 3).trans rfl, (cD HB hw124_0), (cD HB hw124_1), (cD HB hw124_2), (cD HB hw124_3)⟩ (fun hHeld => ?_); refine with_tabW spec_l01Is.tab7 spec_l01Is.bits7 (fun HT_ HW_ => ?_)
                            generalize w26.drew = w27 at BK117 BK121 HB hx124_0 hx124_1 hx124_2 hx124_3 hHeld ⊢
                            refine pu 0 27 HT_ (h := ?_)
                            refine pu 2 29 HT_ (h := ?_)
                            refine ta 1 28 HT_ HW_ hHeld (hy := by rintro w' ⟨s0, s1, s2, s3, s4, s5, s6, s7, s8, s9, s10⟩; go_simp; with_reducible rfl) (h := ?_)
                            refine ta 3 30 HT_ HW_ hHeld (hy := by rintro w' ⟨s0, s1, s2, s3, s4, s5, s6, s7, s8, s9, s10⟩; go_simp; with_reducible rfl) (h := ?_)
                            refine one_ (i := 4) (N := some 31) #[true, true, true, true, true, false, false, false, false, false, false, false, false, false, false, false, false, false, false, false, false, false, false, false, false, false, false, false, false, false, false, false] rfl rfl (one_of HT_.out (by kernel_rfl)) (by decide) (fun K hK => ?_)
                            refine go_ Try.func54 #[.int .i64 a0_1, .agg #[.int .u8 ((rd_T66 l0_2 x3_2).f0.f0), .int .u8 ((rd_T66 l0_2 x3_2).f0.f1), .int .u8 ((rd_T66 l0_2 x3_2).f0.f2)]] (h := ?_)
                            with_reducible refine (spec_l01Exps.calls k2 a0_1 ((rd_T66 l0_2 x3_2).f0.f0) ((rd_T66 l0_2 x3_2).f0.f1) ((rd_T66 l0_2 x3_2).f0.f2) true _ A12.out).mono ?_
                            rintro e w28 ⟨rfl, hb⟩
                            refine ⟨_, rfl, ?_⟩
                            have n0_ := Aside0.mk (blk_below (g := gb117) (o := .cells #[.int .i64 a0_0, .int .i64 a0_1, .slice (some ad120) l0_2.length c0_2] 44 (0, 0)) (mk BK117.out) hb)
                            have n1_ := Aside0.mk (blk_below (g := gb121) (o := .cells #[.int .u8 ((rd_T66 l0_2 x3_2).f0.f0), .int .u8 ((rd_T66 l0_2 x3_2).f0.f1), .int .u8 ((rd_T66 l0_2 x3_2).f0.f2), .int .i64 ((rd_T66 l0_2 x3_2).f1)] 66 (0, 0)) (mk BK121.out) hb)
                            have n2_ := Aside0.mk (below_step mB hb)
                            clear BK117
                            clear BK121
                            clear HB
                            have BK117 := n0_
                            have BK121 := n1_
                            have HB := n2_
                            clear n0_ n1_ n2_
                            (try clear hb)
                            (try clear hb2)
                            (try clear hk)
                            (try clear hi)
                            refine hK.out _ _ ⟨(blk_cell BK117.out 0).trans rfl, (blk_cell BK117.out 1).trans rfl, (blk_cell BK117.out 2).trans rfl, (blk_cell BK121.out 0).trans rfl, (blk_cell BK121.out 1).trans rfl, (blk_cell BK121.out 2).trans rfl, (blk_cell BK121.out 3).trans rfl, (cD HB hw124_0), (cD HB hw124_1), (cD HB hw124_2), (cD HB hw124_3)⟩ (fun hHeld => ?_)
                            clear hK K
                            refine nm (h := ?_)
                            refine pu 5 32 HT_ (h := ?_)
                            refine pu 6 33 HT_ (h := ?_)
                            refine pu 7 34 HT_ (h := ?_)
                            refine pu 9 36 HT_ (h := ?_)
                            refine ta 8 35 HT_ HW_ hHeld (hy := by rintro w' ⟨s0, s1, s2, s3, s4, s5, s6, s7, s8, s9, s10⟩; go_simp; with_reducible rfl) (h := ?_)
                            refine ta 10 37 HT_ HW_ hHeld (hy := by rintro w' ⟨s0, s1, s2, s3, s4, s5, s6, s7, s8, s9, s10⟩; go_simp; with_reducible rfl) (h := ?_)
                            refine pu 11 38 HT_ (h := ?_)
                            refine one_ (i := 12) (N := some 39) #[true, true, true, true, true, true, true, true, true, true, true, true, true, false, false, false, false, false, false, false, false, false, false, false, false, false, false, false, false, false, false, false] rfl rfl (one_of HT_.out (by kernel_rfl)) (by decide) (fun K hK => ?_)
                            refine go_ Try.func33 #[.int .i64 ((rd_T66 l0_2 x3_2).f1), .int .i64 1, .int .i64 (wrap64 (a0_0 - 1))] (h := ?_)
                            with_reducible refine (spec_l01In.calls ((rd_T66 l0_2 x3_2).f1) 1 (wrap64 (a0_0 - 1)) true _ A14.out).mono ?_
                            rintro e w' ⟨rfl, ⟨nd, rfl⟩⟩
                            refine ⟨_, rfl, ?_⟩
                            refine hK.out _ _ ⟨(blk_cell BK117.out 0).trans rfl, (blk_cell BK117.out 1).trans rfl, (blk_cell BK117.out 2).trans rfl, (blk_cell BK121.out 0).trans rfl, (blk_cell BK121.out 1).trans rfl, (blk_cell BK121.out 2).trans rfl, (blk_cell BK121.out 3).trans rfl, (cD HB hw124_0), (cD HB hw124_1), (cD HB hw124_2), (cD HB hw124_3)⟩ (fun hHeld => ?_)
                            clear hK K
                            refine nm (h := ?_)
                            refine pu 13 40 HT_ (h := ?_)
                            refine pu 14 41 HT_ (h := ?_)
                            refine pu 15 42 HT_ (h := ?_)
                            refine pu 16 43 HT_ (h := ?_)
                            refine pu 17 44 HT_ (h := ?_)
                            refine pu 18 45 HT_ (h := ?_)
                            refine pu 19 46 HT_ (h := ?_)
                            refine pu 21 48 HT_ (h := ?_)
                            refine pu 22 49 HT_ (h := ?_)
                            refine pu 26 53 HT_ (h := ?_)
                            refine ta 20 47 HT_ HW_ hHeld (hy := by rintro w' ⟨s0, s1, s2, s3, s4, s5, s6, s7, s8, s9, s10⟩; go_simp; with_reducible rfl) (h := ?_)
                            refine pu 23 50 HT_ (h := ?_)
                            refine pu 24 51 HT_ (h := ?_)
                            refine ta 25 52 HT_ HW_ hHeld (hy := by rintro w' ⟨s0, s1, s2, s3, s4, s5, s6, s7, s8, s9, s10⟩; go_simp; with_reducible rfl) (h := ?_)
                            refine ta 27 54 HT_ HW_ hHeld (hy := by rintro w' ⟨s0, s1, s2, s3, s4, s5, s6, s7, s8, s9, s10⟩; go_simp; with_reducible rfl) (h := ?_)
                            refine one_ (i := 28) (N := some 55) #[true, true, true, true, true, true, true, true, true, true, true, true, true, true, true, true, true, true, true, true, true, true, true, true, true, true, true, true, true, false, false, false] rfl rfl (one_of HT_.out (by kernel_rfl)) (by decide) (fun K hK => ?_)
                            refine goes_ Try.func55 (by kernel_rfl) rfl #[.agg #[.int .u8 ((rd_T66 l0_2 (ji17)).f0.f0), .int .u8 ((rd_T66 l0_2 (ji17)).f0.f1), .int .u8 ((rd_T66 l0_2 (ji17)).f0.f2)], .agg #[.int .u8 ((rd_T66 l0_2 x3_2).f0.f0), .int .u8 ((rd_T66 l0_2 x3_2).f0.f1), .int .u8 ((rd_T66 l0_2 x3_2).f0.f2)]] (by rfl) rfl rfl (by (try simp only [List.map_toArray, List.map_cons, List.map_nil]); first | done | (simp only [hji17]; rfl) | rfl | (simp only [List.length_drop, List.length_take]; rfl)) ?_
                            with_reducible refine (spec_l01Before.calls ((rd_T66 l0_2 (ji17)).f0.f0) ((rd_T66 l0_2 (ji17)).f0.f1) ((rd_T66 l0_2 (ji17)).f0.f2) ((rd_T66 l0_2 x3_2).f0.f0) ((rd_T66 l0_2 x3_2).f0.f1) ((rd_T66 l0_2 x3_2).f0.f2) true _ A20.out).mono ?_
                            rintro e w29 ⟨rfl, hb⟩
                            refine ⟨_, rfl, ?_⟩
                            have n0_ := Aside0.mk (blk_below (g := gb117) (o := .cells #[.int .i64 a0_0, .int .i64 a0_1, .slice (some ad120) l0_2.length c0_2] 44 (0, 0)) (mk BK117.out) hb)
                            have n1_ := Aside0.mk (blk_below (g := gb121) (o := .cells #[.int .u8 ((rd_T66 l0_2 x3_2).f0.f0), .int .u8 ((rd_T66 l0_2 x3_2).f0.f1), .int .u8 ((rd_T66 l0_2 x3_2).f0.f2), .int .i64 ((rd_T66 l0_2 x3_2).f1)] 66 (0, 0)) (mk BK121.out) hb)
                            have n2_ := Aside0.mk (below_step mB hb)
                            clear BK117
                            clear BK121
                            clear HB
                            have BK117 := n0_
                            have BK121 := n1_
                            have HB := n2_
                            clear n0_ n1_ n2_
                            (try clear hb)
                            (try clear hb2)
                            (try clear hk)
                            (try clear hi)
                            refine hK.out _ _ ⟨(blk_cell BK117.out 0).trans rfl, (blk_cell BK117.out 1).trans rfl, (blk_cell BK117.out 2).trans rfl, (blk_cell BK121.out 0).trans rfl, (blk_cell BK121.out 1).trans rfl, (blk_cell BK121.out 2).trans rfl, (blk_cell BK121.out 3).trans rfl, (cD HB hw124_0), (cD HB hw124_1), (cD HB hw124_2), (cD HB hw124_3)⟩ (fun hHeld => ?_)
                            clear hK K
                            refine nm (h := ?_)
                            refine pu 29 56 HT_ (h := ?_)
                            refine pu 30 57 HT_ (h := ?_)
                            refine pu 31 58 HT_ (h := ?_)
                            refine done_ (done_of HT_.out (by kernel_rfl)) ?_
                            try go_wp2
                            go_roundg k2
                            case measure => have := HJ1.out; have := HK2.out; omega
                            case rel => exact ⟨(wrap64 (x3_2 + 1)), mF, H', ⟨by have := HJ1.out; have := HK2.out; omega⟩, ⟨by (with_reducible repeat (first | refine blk_drewN ?_ _ | refine blk_drew ?_ | refine blk_alloc ?_ _)); exact BK117.out⟩, ⟨mB⟩⟩
                          · replace c21 := Bool.eq_false_iff.mpr c21
                            subst c21
                            have H1 : (some false) = some r := by rw [if_neg (show ¬ (false = true) by decide)] at H; exact H
                            clear H
                            have H := H1
                            clear H1
                            obtain rfl := Option.some.inj H
                            have hcz30_0 : wr.cell? ⟨gb117, 0, none⟩ = some (.int .i64 a0_0) := (blk_cell BK117.out 0).trans rfl
                            have hcz30_1 : wr.cell? ⟨gb117, 1, none⟩ = some (.int .i64 a0_1) := (blk_cell BK117.out 1).trans rfl
                            have hcz30_2 : wr.cell? ⟨gb117, 2, none⟩ = some (.slice A0_2 l0_2.length c0_2) := (blk_cell BK117.out 2).trans rfl
                            have hfz30_0 := blk_frozen BK117.out 0
                            have hfz30_1 := blk_frozen BK117.out 1
                            have hfz30_2 := blk_frozen BK117.out 2
                            have p120 : 0 ≤ (x3_2 : Int) := of_decide_eq_true mS
                            have q120 : x3_2 < (l0_2.length : Int) := of_decide_eq_true mS
                            obtain ⟨ad120, e120, hx120_0, hx120_1, hx120_2, hx120_3⟩ := at_T66 HR0_2.out x3_2 p120 q120
                            cases e120
                            replace hx120_0 := cB HB hx120_0
                            replace hx120_1 := cB HB hx120_1
                            replace hx120_2 := cB HB hx120_2
                            replace hx120_3 := cB HB hx120_3
                            replace p120 := eq_true p120
                            replace q120 := eq_true q120
                            try go_wp2_with (first | ((with_reducible refine gate_dst (N := 4) rfl ?_); refine box_event ?hg (N := 4) ?hd (cs := #[.int .u8 0, .int .u8 0, .int .u8 0, .int .i64 0]) (t := 66) ?hr ?_; (case hd => rfl); (case hg => rfl); (case hr => first | (go_simp; done) | (go_simp; rfl)); intro gb121 hg w31 hbox hb; have n0_ := Aside0.mk (blk_below (g := gb117) (o := .cells #[.int .i64 a0_0, .int .i64 a0_1, .slice (some ad120) l0_2.length c0_2] 44 (0, 0)) (mk BK117.out) hb); have n1_ := Aside0.mk (below_step mB hb); have n2_ := Aside0.mk (hbox); have n3_ := Aside0.mk ((mG : w.heap.size ≤ gb121)); have n4_ := Aside0.mk ((mG : w.heap.size ≤ gb121)); have n5_ := Aside0.mk ((by rw [hg]; exact Nat.ne_of_lt (blk_lt (g := gb117) (o := .cells #[.int .i64 a0_0, .int .i64 a0_1, .slice (some ad120) l0_2.length c0_2] 44 (0, 0)) (mk BK117.out)) : gb117 ≠ gb121)); have n6_ := Aside0.mk ((by rw [hg]; exact Nat.ne_of_gt (blk_lt (g := gb117) (o := .cells #[.int .i64 a0_0, .int .i64 a0_1, .slice (some ad120) l0_2.length c0_2] 44 (0, 0)) (mk BK117.out)) : gb121 ≠ gb117)); clear BK117; clear HB; have BK117 := n0_; have HB := n1_; have BK121 := n2_; have GW121 := n3_; have GE121 := n4_; have NB117_121 := n5_; have NB121_117 := n6_; clear n0_ n1_ n2_ n3_ n4_ n5_ n6_; clear hb hbox hg; have hnb32 := NB121_117.out; have hnc32 := NB117_121.out; have hcz33_0 : w31.cell? ⟨gb121, 0, none⟩ = some (.int .u8 0) := (blk_cell BK121.out 0).trans rfl; have hcz33_1 : w31.cell? ⟨gb121, 1, none⟩ = some (.int .u8 0) := (blk_cell BK121.out 1).trans rfl; have hcz33_2 : w31.cell? ⟨gb121, 2, none⟩ = some (.int .u8 0) := (blk_cell BK121.out 2).trans rfl; have hcz33_3 : w31.cell? ⟨gb121, 3, none⟩ = some (.int .i64 0) := (blk_cell BK121.out 3).trans rfl; have hfz33_0 := blk_frozen BK121.out 0; have hfz33_1 := blk_frozen BK121.out 1; have hfz33_2 := blk_frozen BK121.out 2; have hfz33_3 := blk_frozen BK121.out 3))
                            have n0_ : Aside0 (((((w31.setCell ⟨gb121, 0, none⟩ (.int .u8 ((rd_T66 l0_2 x3_2).f0.f0))).setCell ⟨gb121, 1, none⟩ (.int .u8 ((rd_T66 l0_2 x3_2).f0.f1))).setCell ⟨gb121, 2, none⟩ (.int .u8 ((rd_T66 l0_2 x3_2).f0.f2))).setCell ⟨gb121, 3, none⟩ (.int .i64 ((rd_T66 l0_2 x3_2).f1))).heap[gb117]? = some (.cells #[.int .i64 a0_0, .int .i64 a0_1, .slice (some ad120) l0_2.length c0_2] 44 (0, 0))) := ⟨by (with_reducible repeat (first | refine blk_drewN ?_ _ | refine blk_drew ?_ | refine blk_alloc ?_ _)); refine blk_far ?_ NB117_121.out _; (with_reducible repeat (first | refine blk_drewN ?_ _ | refine blk_drew ?_ | refine blk_alloc ?_ _)); refine blk_far ?_ NB117_121.out _; (with_reducible repeat (first | refine blk_drewN ?_ _ | refine blk_drew ?_ | refine blk_alloc ?_ _)); refine blk_far ?_ NB117_121.out _; (with_reducible repeat (first | refine blk_drewN ?_ _ | refine blk_drew ?_ | refine blk_alloc ?_ _)); refine blk_far ?_ NB117_121.out _; (with_reducible repeat (first | refine blk_drewN ?_ _ | refine blk_drew ?_ | refine blk_alloc ?_ _)); exact BK117.out⟩
                            have n1_ : Aside0 (((((w31.setCell ⟨gb121, 0, none⟩ (.int .u8 ((rd_T66 l0_2 x3_2).f0.f0))).setCell ⟨gb121, 1, none⟩ (.int .u8 ((rd_T66 l0_2 x3_2).f0.f1))).setCell ⟨gb121, 2, none⟩ (.int .u8 ((rd_T66 l0_2 x3_2).f0.f2))).setCell ⟨gb121, 3, none⟩ (.int .i64 ((rd_T66 l0_2 x3_2).f1))).heap[gb121]? = some (.cells #[.int .u8 ((rd_T66 l0_2 x3_2).f0.f0), .int .u8 ((rd_T66 l0_2 x3_2).f0.f1), .int .u8 ((rd_T66 l0_2 x3_2).f0.f2), .int .i64 ((rd_T66 l0_2 x3_2).f1)] 66 (0, 0))) := ⟨by (with_reducible repeat (first | refine blk_drewN ?_ _ | refine blk_drew ?_ | refine blk_alloc ?_ _)); refine blk_put (cs := #[.int .u8 ((rd_T66 l0_2 x3_2).f0.f0), .int .u8 ((rd_T66 l0_2 x3_2).f0.f1), .int .u8 ((rd_T66 l0_2 x3_2).f0.f2), .int .i64 0]) ?_ 3 _ rfl; (with_reducible repeat (first | refine blk_drewN ?_ _ | refine blk_drew ?_ | refine blk_alloc ?_ _)); refine blk_put (cs := #[.int .u8 ((rd_T66 l0_2 x3_2).f0.f0), .int .u8 ((rd_T66 l0_2 x3_2).f0.f1), .int .u8 0, .int .i64 0]) ?_ 2 _ rfl; (with_reducible repeat (first | refine blk_drewN ?_ _ | refine blk_drew ?_ | refine blk_alloc ?_ _)); refine blk_put (cs := #[.int .u8 ((rd_T66 l0_2 x3_2).f0.f0), .int .u8 0, .int .u8 0, .int .i64 0]) ?_ 1 _ rfl; (with_reducible repeat (first | refine blk_drewN ?_ _ | refine blk_drew ?_ | refine blk_alloc ?_ _)); refine blk_put (cs := #[.int .u8 0, .int .u8 0, .int .u8 0, .int .i64 0]) ?_ 0 _ rfl; (with_reducible repeat (first | refine blk_drewN ?_ _ | refine blk_drew ?_ | refine blk_alloc ?_ _)); exact BK121.out⟩
                            have n2_ : Aside0 (Below w.heap.size w ((((w31.setCell ⟨gb121, 0, none⟩ (.int .u8 ((rd_T66 l0_2 x3_2).f0.f0))).setCell ⟨gb121, 1, none⟩ (.int .u8 ((rd_T66 l0_2 x3_2).f0.f1))).setCell ⟨gb121, 2, none⟩ (.int .u8 ((rd_T66 l0_2 x3_2).f0.f2))).setCell ⟨gb121, 3, none⟩ (.int .i64 ((rd_T66 l0_2 x3_2).f1)))) := ⟨mB⟩
                            (try clear BK117)
                            (try clear BK121)
                            (try clear HB)
                            generalize ((((w31.setCell ⟨gb121, 0, none⟩ (.int .u8 ((rd_T66 l0_2 x3_2).f0.f0))).setCell ⟨gb121, 1, none⟩ (.int .u8 ((rd_T66 l0_2 x3_2).f0.f1))).setCell ⟨gb121, 2, none⟩ (.int .u8 ((rd_T66 l0_2 x3_2).f0.f2))).setCell ⟨gb121, 3, none⟩ (.int .i64 ((rd_T66 l0_2 x3_2).f1))) = w34 at n0_ n1_ n2_ ⊢
                            have BK117 := n0_
                            have BK121 := n1_
                            have HB := n2_
                            clear n0_ n1_ n2_
                            have n0_ := Aside0.mk (blk_drew BK117.out)
                            have n1_ := Aside0.mk (blk_drew BK121.out)
                            have n2_ := Aside0.mk (below_drew1 HB.out)
                            clear BK117
                            clear BK121
                            clear HB
                            have BK117 := n0_
                            have BK121 := n1_
                            have HB := n2_
                            clear n0_ n1_ n2_
                            have p124 : 0 ≤ ((ji17) : Int) := of_decide_eq_true mS
                            have q124 : (ji17) < (l0_2.length : Int) := of_decide_eq_true mS
                            obtain ⟨ad124, e124, hx124_0, hx124_1, hx124_2, hx124_3⟩ := at_T66 HR0_2.out (ji17) p124 q124
                            have hw124_3 := hx124_3
                            have hw124_2 := hx124_2
                            have hw124_1 := hx124_1
                            have hw124_0 := hx124_0
                            obtain rfl : ad120 = ad124 := (by injection e124)
                            replace hx124_0 := cB HB hx124_0
                            replace hx124_1 := cB HB hx124_1
                            replace hx124_2 := cB HB hx124_2
                            replace hx124_3 := cB HB hx124_3
                            replace p124 := eq_true p124
                            replace q124 := eq_true q124
                            refine start_ (n := 32) (S := fun w' => w'.cell? ⟨gb117, 0, none⟩ = some (.int .i64 a0_0) ∧ w'.cell? ⟨gb117, 1, none⟩ = some (.int .i64 a0_1) ∧ w'.cell? ⟨gb117, 2, none⟩ = some (.slice (some ad120) l0_2.length c0_2) ∧ w'.cell? ⟨gb121, 0, none⟩ = some (.int .u8 ((rd_T66 l0_2 x3_2).f0.f0)) ∧ w'.cell? ⟨gb121, 1, none⟩ = some (.int .u8 ((rd_T66 l0_2 x3_2).f0.f1)) ∧ w'.cell? ⟨gb121, 2, none⟩ = some (.int .u8 ((rd_T66 l0_2 x3_2).f0.f2)) ∧ w'.cell? ⟨gb121, 3, none⟩ = some (.int .i64 ((rd_T66 l0_2 x3_2).f1)) ∧ w'.cell? (ad120.add (((ji17)).toNat * 4)) = some (.int .u8 ((rd_T66 l0_2 (ji17)).f0.f0)) ∧ w'.cell? ⟨(ad120.add (((ji17)).toNat * 4)).block, (ad120.add (((ji17)).toNat * 4)).off + 1, none⟩ = some (.int .u8 ((rd_T66 l0_2 (ji17)).f0.f1)) ∧ w'.cell? ⟨(ad120.add (((ji17)).toNat * 4)).block, (ad120.add (((ji17)).toNat * 4)).off + 2, none⟩ = some (.int .u8 ((rd_T66 l0_2 (ji17)).f0.f2)) ∧ w'.cell? ⟨(ad120.add (((ji17)).toNat * 4)).block, (ad120.add (((ji17)).toNat * 4)).off + 3, none⟩ = some (.int .i64 ((rd_T66 l0_2 (ji17)).f1))) (ds := []) #[false, false, false, false, false, false, false, false, false, false, false, false, false, false, false, false, false, false, false, false, false, false, false, false, false, false, false, false, false, false, false, false] (by kernel_rfl) rfl rfl ⟨(blk_cell BK117.out 0).trans rfl, (blk_cell BK117.out 1).trans rfl, (blk_cell BK117.out 2).trans rfl, (blk_cell BK121.out 0).trans rfl, (blk_cell BK121.out 1).trans rfl, (blk_cell BK121.out 2).trans rfl, (blk_cell BK121.out 3).trans rfl, (cD HB hw124_0), (cD HB hw124_1), (cD HB hw124_2), (cD HB hw124_3)⟩ (fun hHeld => ?_); refine with_tabW spec_l01Is.tab7 spec_l01Is.bits7 (fun HT_ HW_ => ?_)
                            generalize w34.drew = w35 at BK117 BK121 HB hx124_0 hx124_1 hx124_2 hx124_3 hHeld ⊢
                            refine pu 0 27 HT_ (h := ?_)
                            refine pu 2 29 HT_ (h := ?_)
                            refine ta 1 28 HT_ HW_ hHeld (hy := by rintro w' ⟨s0, s1, s2, s3, s4, s5, s6, s7, s8, s9, s10⟩; go_simp; with_reducible rfl) (h := ?_)
                            refine ta 3 30 HT_ HW_ hHeld (hy := by rintro w' ⟨s0, s1, s2, s3, s4, s5, s6, s7, s8, s9, s10⟩; go_simp; with_reducible rfl) (h := ?_)
                            refine one_ (i := 4) (N := some 31) #[true, true, true, true, true, false, false, false, false, false, false, false, false, false, false, false, false, false, false, false, false, false, false, false, false, false, false, false, false, false, false, false] rfl rfl (one_of HT_.out (by kernel_rfl)) (by decide) (fun K hK => ?_)
                            refine go_ Try.func54 #[.int .i64 a0_1, .agg #[.int .u8 ((rd_T66 l0_2 x3_2).f0.f0), .int .u8 ((rd_T66 l0_2 x3_2).f0.f1), .int .u8 ((rd_T66 l0_2 x3_2).f0.f2)]] (h := ?_)
                            with_reducible refine (spec_l01Exps.calls k2 a0_1 ((rd_T66 l0_2 x3_2).f0.f0) ((rd_T66 l0_2 x3_2).f0.f1) ((rd_T66 l0_2 x3_2).f0.f2) true _ A12.out).mono ?_
                            rintro e w36 ⟨rfl, hb⟩
                            refine ⟨_, rfl, ?_⟩
                            have n0_ := Aside0.mk (blk_below (g := gb117) (o := .cells #[.int .i64 a0_0, .int .i64 a0_1, .slice (some ad120) l0_2.length c0_2] 44 (0, 0)) (mk BK117.out) hb)
                            have n1_ := Aside0.mk (blk_below (g := gb121) (o := .cells #[.int .u8 ((rd_T66 l0_2 x3_2).f0.f0), .int .u8 ((rd_T66 l0_2 x3_2).f0.f1), .int .u8 ((rd_T66 l0_2 x3_2).f0.f2), .int .i64 ((rd_T66 l0_2 x3_2).f1)] 66 (0, 0)) (mk BK121.out) hb)
                            have n2_ := Aside0.mk (below_step mB hb)
                            clear BK117
                            clear BK121
                            clear HB
                            have BK117 := n0_
                            have BK121 := n1_
                            have HB := n2_
                            clear n0_ n1_ n2_
                            (try clear hb)
                            (try clear hb2)
                            (try clear hk)
                            (try clear hi)
                            refine hK.out _ _ ⟨(blk_cell BK117.out 0).trans rfl, (blk_cell BK117.out 1).trans rfl, (blk_cell BK117.out 2).trans rfl, (blk_cell BK121.out 0).trans rfl, (blk_cell BK121.out 1).trans rfl, (blk_cell BK121.out 2).trans rfl, (blk_cell BK121.out 3).trans rfl, (cD HB hw124_0), (cD HB hw124_1), (cD HB hw124_2), (cD HB hw124_3)⟩ (fun hHeld => ?_)
                            clear hK K
                            refine nm (h := ?_)
                            refine pu 5 32 HT_ (h := ?_)
                            refine pu 6 33 HT_ (h := ?_)
                            refine pu 7 34 HT_ (h := ?_)
                            refine pu 9 36 HT_ (h := ?_)
                            refine ta 8 35 HT_ HW_ hHeld (hy := by rintro w' ⟨s0, s1, s2, s3, s4, s5, s6, s7, s8, s9, s10⟩; go_simp; with_reducible rfl) (h := ?_)
                            refine ta 10 37 HT_ HW_ hHeld (hy := by rintro w' ⟨s0, s1, s2, s3, s4, s5, s6, s7, s8, s9, s10⟩; go_simp; with_reducible rfl) (h := ?_)
                            refine pu 11 38 HT_ (h := ?_)
                            refine one_ (i := 12) (N := some 39) #[true, true, true, true, true, true, true, true, true, true, true, true, true, false, false, false, false, false, false, false, false, false, false, false, false, false, false, false, false, false, false, false] rfl rfl (one_of HT_.out (by kernel_rfl)) (by decide) (fun K hK => ?_)
                            refine go_ Try.func33 #[.int .i64 ((rd_T66 l0_2 x3_2).f1), .int .i64 1, .int .i64 (wrap64 (a0_0 - 1))] (h := ?_)
                            with_reducible refine (spec_l01In.calls ((rd_T66 l0_2 x3_2).f1) 1 (wrap64 (a0_0 - 1)) true _ A14.out).mono ?_
                            rintro e w' ⟨rfl, ⟨nd, rfl⟩⟩
                            refine ⟨_, rfl, ?_⟩
                            refine hK.out _ _ ⟨(blk_cell BK117.out 0).trans rfl, (blk_cell BK117.out 1).trans rfl, (blk_cell BK117.out 2).trans rfl, (blk_cell BK121.out 0).trans rfl, (blk_cell BK121.out 1).trans rfl, (blk_cell BK121.out 2).trans rfl, (blk_cell BK121.out 3).trans rfl, (cD HB hw124_0), (cD HB hw124_1), (cD HB hw124_2), (cD HB hw124_3)⟩ (fun hHeld => ?_)
                            clear hK K
                            refine nm (h := ?_)
                            refine pu 13 40 HT_ (h := ?_)
                            refine pu 14 41 HT_ (h := ?_)
                            refine pu 15 42 HT_ (h := ?_)
                            refine pu 16 43 HT_ (h := ?_)
                            refine pu 17 44 HT_ (h := ?_)
                            refine pu 18 45 HT_ (h := ?_)
                            refine pu 19 46 HT_ (h := ?_)
                            refine pu 21 48 HT_ (h := ?_)
                            refine pu 22 49 HT_ (h := ?_)
                            refine pu 26 53 HT_ (h := ?_)
                            refine ta 20 47 HT_ HW_ hHeld (hy := by rintro w' ⟨s0, s1, s2, s3, s4, s5, s6, s7, s8, s9, s10⟩; go_simp; with_reducible rfl) (h := ?_)
                            refine pu 23 50 HT_ (h := ?_)
                            refine pu 24 51 HT_ (h := ?_)
                            refine ta 25 52 HT_ HW_ hHeld (hy := by rintro w' ⟨s0, s1, s2, s3, s4, s5, s6, s7, s8, s9, s10⟩; go_simp; with_reducible rfl) (h := ?_)
                            refine ta 27 54 HT_ HW_ hHeld (hy := by rintro w' ⟨s0, s1, s2, s3, s4, s5, s6, s7, s8, s9, s10⟩; go_simp; with_reducible rfl) (h := ?_)
                            refine one_ (i := 28) (N := some 55) #[true, true, true, true, true, true, true, true, true, true, true, true, true, true, true, true, true, true, true, true, true, true, true, true, true, true, true, true, true, false, false, false] rfl rfl (one_of HT_.out (by kernel_rfl)) (by decide) (fun K hK => ?_)
                            refine goes_ Try.func55 (by kernel_rfl) rfl #[.agg #[.int .u8 ((rd_T66 l0_2 (ji17)).f0.f0), .int .u8 ((rd_T66 l0_2 (ji17)).f0.f1), .int .u8 ((rd_T66 l0_2 (ji17)).f0.f2)], .agg #[.int .u8 ((rd_T66 l0_2 x3_2).f0.f0), .int .u8 ((rd_T66 l0_2 x3_2).f0.f1), .int .u8 ((rd_T66 l0_2 x3_2).f0.f2)]] (by rfl) rfl rfl (by (try simp only [List.map_toArray, List.map_cons, List.map_nil]); first | done | (simp only [hji17]; rfl) | rfl | (simp only [List.length_drop, List.length_take]; rfl)) ?_
                            with_reducible refine (spec_l01Before.calls ((rd_T66 l0_2 (ji17)).f0.f0) ((rd_T66 l0_2 (ji17)).f0.f1) ((rd_T66 l0_2 (ji17)).f0.f2) ((rd_T66 l0_2 x3_2).f0.f0) ((rd_T66 l0_2 x3_2).f0.f1) ((rd_T66 l0_2 x3_2).f0.f2) false _ A20.out).mono ?_
                            rintro e w37 ⟨rfl, hb⟩
                            refine ⟨_, rfl, ?_⟩
                            have n0_ := Aside0.mk (blk_below (g := gb117) (o := .cells #[.int .i64 a0_0, .int .i64 a0_1, .slice (some ad120) l0_2.length c0_2] 44 (0, 0)) (mk BK117.out) hb)
                            have n1_ := Aside0.mk (blk_below (g := gb121) (o := .cells #[.int .u8 ((rd_T66 l0_2 x3_2).f0.f0), .int .u8 ((rd_T66 l0_2 x3_2).f0.f1), .int .u8 ((rd_T66 l0_2 x3_2).f0.f2), .int .i64 ((rd_T66 l0_2 x3_2).f1)] 66 (0, 0)) (mk BK121.out) hb)
                            have n2_ := Aside0.mk (below_step mB hb)
                            clear BK117
                            clear BK121
                            clear HB
                            have BK117 := n0_
                            have BK121 := n1_
                            have HB := n2_
                            clear n0_ n1_ n2_
                            (try clear hb)
                            (try clear hb2)
                            (try clear hk)
                            (try clear hi)
                            refine hK.out _ _ ⟨(blk_cell BK117.out 0).trans rfl, (blk_cell BK117.out 1).trans rfl, (blk_cell BK117.out 2).trans rfl, (blk_cell BK121.out 0).trans rfl, (blk_cell BK121.out 1).trans rfl, (blk_cell BK121.out 2).trans rfl, (blk_cell BK121.out 3).trans rfl, (cD HB hw124_0), (cD HB hw124_1), (cD HB hw124_2), (cD HB hw124_3)⟩ (fun hHeld => ?_)
                            clear hK K
                            refine nm (h := ?_)
                            refine pu 29 56 HT_ (h := ?_)
                            refine pu 30 57 HT_ (h := ?_)
                            refine pu 31 58 HT_ (h := ?_)
                            refine done_ (done_of HT_.out (by kernel_rfl)) ?_
                            try go_wp2
                            go_ret
                            exact ⟨by first | rfl | (simp [errW_none, errW_some] <;> rfl) | (simp only [← hji17]; first | rfl | (simp [errW_none, errW_some] <;> rfl)) | (simp [*, errW_none, errW_some] <;> rfl), mB⟩
                        · rw [if_neg c19] at H
                          exact absurd H (by simp)
                      · rw [if_neg c18] at H
                        exact absurd H (by simp)
                    · rw [if_neg c16] at H
                      have c16b0 : decide (0 < x3_2) = false := decide_eq_false c16
                      clear c16
                      have H' := Aside0.mk H
                      clear H
                      have hcz38_0 : wr.cell? ⟨gb117, 0, none⟩ = some (.int .i64 a0_0) := (blk_cell BK117.out 0).trans rfl
                      have hcz38_1 : wr.cell? ⟨gb117, 1, none⟩ = some (.int .i64 a0_1) := (blk_cell BK117.out 1).trans rfl
                      have hcz38_2 : wr.cell? ⟨gb117, 2, none⟩ = some (.slice A0_2 l0_2.length c0_2) := (blk_cell BK117.out 2).trans rfl
                      have hfz38_0 := blk_frozen BK117.out 0
                      have hfz38_1 := blk_frozen BK117.out 1
                      have hfz38_2 := blk_frozen BK117.out 2
                      have p120 : 0 ≤ (x3_2 : Int) := of_decide_eq_true mS
                      have q120 : x3_2 < (l0_2.length : Int) := of_decide_eq_true mS
                      obtain ⟨ad120, e120, hx120_0, hx120_1, hx120_2, hx120_3⟩ := at_T66 HR0_2.out x3_2 p120 q120
                      cases e120
                      replace hx120_0 := cB HB hx120_0
                      replace hx120_1 := cB HB hx120_1
                      replace hx120_2 := cB HB hx120_2
                      replace hx120_3 := cB HB hx120_3
                      replace p120 := eq_true p120
                      replace q120 := eq_true q120
                      try go_wp2_with (first | ((with_reducible refine gate_dst (N := 4) rfl ?_); refine box_event ?hg (N := 4) ?hd (cs := #[.int .u8 0, .int .u8 0, .int .u8 0, .int .i64 0]) (t := 66) ?hr ?_; (case hd => rfl); (case hg => rfl); (case hr => first | (go_simp; done) | (go_simp; rfl)); intro gb121 hg w39 hbox hb; have n0_ := Aside0.mk (blk_below (g := gb117) (o := .cells #[.int .i64 a0_0, .int .i64 a0_1, .slice (some ad120) l0_2.length c0_2] 44 (0, 0)) (mk BK117.out) hb); have n1_ := Aside0.mk (below_step mB hb); have n2_ := Aside0.mk (hbox); have n3_ := Aside0.mk ((mG : w.heap.size ≤ gb121)); have n4_ := Aside0.mk ((mG : w.heap.size ≤ gb121)); have n5_ := Aside0.mk ((by rw [hg]; exact Nat.ne_of_lt (blk_lt (g := gb117) (o := .cells #[.int .i64 a0_0, .int .i64 a0_1, .slice (some ad120) l0_2.length c0_2] 44 (0, 0)) (mk BK117.out)) : gb117 ≠ gb121)); have n6_ := Aside0.mk ((by rw [hg]; exact Nat.ne_of_gt (blk_lt (g := gb117) (o := .cells #[.int .i64 a0_0, .int .i64 a0_1, .slice (some ad120) l0_2.length c0_2] 44 (0, 0)) (mk BK117.out)) : gb121 ≠ gb117)); clear BK117; clear HB; have BK117 := n0_; have HB := n1_; have BK121 := n2_; have GW121 := n3_; have GE121 := n4_; have NB117_121 := n5_; have NB121_117 := n6_; clear n0_ n1_ n2_ n3_ n4_ n5_ n6_; clear hb hbox hg; have hnb40 := NB121_117.out; have hnc40 := NB117_121.out; have hcz41_0 : w39.cell? ⟨gb121, 0, none⟩ = some (.int .u8 0) := (blk_cell BK121.out 0).trans rfl; have hcz41_1 : w39.cell? ⟨gb121, 1, none⟩ = some (.int .u8 0) := (blk_cell BK121.out 1).trans rfl; have hcz41_2 : w39.cell? ⟨gb121, 2, none⟩ = some (.int .u8 0) := (blk_cell BK121.out 2).trans rfl; have hcz41_3 : w39.cell? ⟨gb121, 3, none⟩ = some (.int .i64 0) := (blk_cell BK121.out 3).trans rfl; have hfz41_0 := blk_frozen BK121.out 0; have hfz41_1 := blk_frozen BK121.out 1; have hfz41_2 := blk_frozen BK121.out 2; have hfz41_3 := blk_frozen BK121.out 3))
                      have n0_ : Aside0 (((((w39.setCell ⟨gb121, 0, none⟩ (.int .u8 ((rd_T66 l0_2 x3_2).f0.f0))).setCell ⟨gb121, 1, none⟩ (.int .u8 ((rd_T66 l0_2 x3_2).f0.f1))).setCell ⟨gb121, 2, none⟩ (.int .u8 ((rd_T66 l0_2 x3_2).f0.f2))).setCell ⟨gb121, 3, none⟩ (.int .i64 ((rd_T66 l0_2 x3_2).f1))).heap[gb117]? = some (.cells #[.int .i64 a0_0, .int .i64 a0_1, .slice (some ad120) l0_2.length c0_2] 44 (0, 0))) := ⟨by (with_reducible repeat (first | refine blk_drewN ?_ _ | refine blk_drew ?_ | refine blk_alloc ?_ _)); refine blk_far ?_ NB117_121.out _; (with_reducible repeat (first | refine blk_drewN ?_ _ | refine blk_drew ?_ | refine blk_alloc ?_ _)); refine blk_far ?_ NB117_121.out _; (with_reducible repeat (first | refine blk_drewN ?_ _ | refine blk_drew ?_ | refine blk_alloc ?_ _)); refine blk_far ?_ NB117_121.out _; (with_reducible repeat (first | refine blk_drewN ?_ _ | refine blk_drew ?_ | refine blk_alloc ?_ _)); refine blk_far ?_ NB117_121.out _; (with_reducible repeat (first | refine blk_drewN ?_ _ | refine blk_drew ?_ | refine blk_alloc ?_ _)); exact BK117.out⟩
                      have n1_ : Aside0 (((((w39.setCell ⟨gb121, 0, none⟩ (.int .u8 ((rd_T66 l0_2 x3_2).f0.f0))).setCell ⟨gb121, 1, none⟩ (.int .u8 ((rd_T66 l0_2 x3_2).f0.f1))).setCell ⟨gb121, 2, none⟩ (.int .u8 ((rd_T66 l0_2 x3_2).f0.f2))).setCell ⟨gb121, 3, none⟩ (.int .i64 ((rd_T66 l0_2 x3_2).f1))).heap[gb121]? = some (.cells #[.int .u8 ((rd_T66 l0_2 x3_2).f0.f0), .int .u8 ((rd_T66 l0_2 x3_2).f0.f1), .int .u8 ((rd_T66 l0_2 x3_2).f0.f2), .int .i64 ((rd_T66 l0_2 x3_2).f1)] 66 (0, 0))) := ⟨by (with_reducible repeat (first | refine blk_drewN ?_ _ | refine blk_drew ?_ | refine blk_alloc ?_ _)); refine blk_put (cs := #[.int .u8 ((rd_T66 l0_2 x3_2).f0.f0), .int .u8 ((rd_T66 l0_2 x3_2).f0.f1), .int .u8 ((rd_T66 l0_2 x3_2).f0.f2), .int .i64 0]) ?_ 3 _ rfl; (with_reducible repeat (first | refine blk_drewN ?_ _ | refine blk_drew ?_ | refine blk_alloc ?_ _)); refine blk_put (cs := #[.int .u8 ((rd_T66 l0_2 x3_2).f0.f0), .int .u8 ((rd_T66 l0_2 x3_2).f0.f1), .int .u8 0, .int .i64 0]) ?_ 2 _ rfl; (with_reducible repeat (first | refine blk_drewN ?_ _ | refine blk_drew ?_ | refine blk_alloc ?_ _)); refine blk_put (cs := #[.int .u8 ((rd_T66 l0_2 x3_2).f0.f0), .int .u8 0, .int .u8 0, .int .i64 0]) ?_ 1 _ rfl; (with_reducible repeat (first | refine blk_drewN ?_ _ | refine blk_drew ?_ | refine blk_alloc ?_ _)); refine blk_put (cs := #[.int .u8 0, .int .u8 0, .int .u8 0, .int .i64 0]) ?_ 0 _ rfl; (with_reducible repeat (first | refine blk_drewN ?_ _ | refine blk_drew ?_ | refine blk_alloc ?_ _)); exact BK121.out⟩
                      have n2_ : Aside0 (Below w.heap.size w ((((w39.setCell ⟨gb121, 0, none⟩ (.int .u8 ((rd_T66 l0_2 x3_2).f0.f0))).setCell ⟨gb121, 1, none⟩ (.int .u8 ((rd_T66 l0_2 x3_2).f0.f1))).setCell ⟨gb121, 2, none⟩ (.int .u8 ((rd_T66 l0_2 x3_2).f0.f2))).setCell ⟨gb121, 3, none⟩ (.int .i64 ((rd_T66 l0_2 x3_2).f1)))) := ⟨mB⟩
                      (try clear BK117)
                      (try clear BK121)
                      (try clear HB)
                      generalize ((((w39.setCell ⟨gb121, 0, none⟩ (.int .u8 ((rd_T66 l0_2 x3_2).f0.f0))).setCell ⟨gb121, 1, none⟩ (.int .u8 ((rd_T66 l0_2 x3_2).f0.f1))).setCell ⟨gb121, 2, none⟩ (.int .u8 ((rd_T66 l0_2 x3_2).f0.f2))).setCell ⟨gb121, 3, none⟩ (.int .i64 ((rd_T66 l0_2 x3_2).f1))) = w42 at n0_ n1_ n2_ ⊢
                      have BK117 := n0_
                      have BK121 := n1_
                      have HB := n2_
                      clear n0_ n1_ n2_
                      have n0_ := Aside0.mk (blk_drew BK117.out)
                      have n1_ := Aside0.mk (blk_drew BK121.out)
                      have n2_ := Aside0.mk (below_drew1 HB.out)
                      clear BK117
                      clear BK121
                      clear HB
                      have BK117 := n0_
                      have BK121 := n1_
                      have HB := n2_
                      clear n0_ n1_ n2_
                      refine start_ (n := 32) (S := fun w' => w'.cell? ⟨gb117, 0, none⟩ = some (.int .i64 a0_0) ∧ w'.cell? ⟨gb117, 1, none⟩ = some (.int .i64 a0_1) ∧ w'.cell? ⟨gb117, 2, none⟩ = some (.slice (some ad120) l0_2.length c0_2) ∧ w'.cell? ⟨gb121, 0, none⟩ = some (.int .u8 ((rd_T66 l0_2 x3_2).f0.f0)) ∧ w'.cell? ⟨gb121, 1, none⟩ = some (.int .u8 ((rd_T66 l0_2 x3_2).f0.f1)) ∧ w'.cell? ⟨gb121, 2, none⟩ = some (.int .u8 ((rd_T66 l0_2 x3_2).f0.f2)) ∧ w'.cell? ⟨gb121, 3, none⟩ = some (.int .i64 ((rd_T66 l0_2 x3_2).f1))) (ds := []) #[false, false, false, false, false, false, false, false, false, false, false, false, false, false, false, false, false, false, false, false, false, false, false, false, false, false, false, false, false, false, false, false] (by kernel_rfl) rfl rfl ⟨(blk_cell BK117.out 0).trans rfl, (blk_cell BK117.out 1).trans rfl, (blk_cell BK117.out 2).trans rfl, (blk_cell BK121.out 0).trans rfl, (blk_cell BK121.out 1).trans rfl, (blk_cell BK121.out 2).trans rfl, (blk_cell BK121.out 3).trans rfl⟩ (fun hHeld => ?_); refine with_tabW spec_l01Is.tab7 spec_l01Is.bits7 (fun HT_ HW_ => ?_)
                      generalize w42.drew = w43 at BK117 BK121 HB hHeld ⊢
                      refine pu 0 27 HT_ (h := ?_)
                      refine pu 2 29 HT_ (h := ?_)
                      refine ta 1 28 HT_ HW_ hHeld (hy := by rintro w' ⟨s0, s1, s2, s3, s4, s5, s6⟩; go_simp; with_reducible rfl) (h := ?_)
                      refine ta 3 30 HT_ HW_ hHeld (hy := by rintro w' ⟨s0, s1, s2, s3, s4, s5, s6⟩; go_simp; with_reducible rfl) (h := ?_)
                      refine one_ (i := 4) (N := some 31) #[true, true, true, true, true, false, false, false, false, false, false, false, false, false, false, false, false, false, false, false, false, false, false, false, false, false, false, false, false, false, false, false] rfl rfl (one_of HT_.out (by kernel_rfl)) (by decide) (fun K hK => ?_)
                      refine go_ Try.func54 #[.int .i64 a0_1, .agg #[.int .u8 ((rd_T66 l0_2 x3_2).f0.f0), .int .u8 ((rd_T66 l0_2 x3_2).f0.f1), .int .u8 ((rd_T66 l0_2 x3_2).f0.f2)]] (h := ?_)
                      with_reducible refine (spec_l01Exps.calls k2 a0_1 ((rd_T66 l0_2 x3_2).f0.f0) ((rd_T66 l0_2 x3_2).f0.f1) ((rd_T66 l0_2 x3_2).f0.f2) true _ A12.out).mono ?_
                      rintro e w44 ⟨rfl, hb⟩
                      refine ⟨_, rfl, ?_⟩
                      have n0_ := Aside0.mk (blk_below (g := gb117) (o := .cells #[.int .i64 a0_0, .int .i64 a0_1, .slice (some ad120) l0_2.length c0_2] 44 (0, 0)) (mk BK117.out) hb)
                      have n1_ := Aside0.mk (blk_below (g := gb121) (o := .cells #[.int .u8 ((rd_T66 l0_2 x3_2).f0.f0), .int .u8 ((rd_T66 l0_2 x3_2).f0.f1), .int .u8 ((rd_T66 l0_2 x3_2).f0.f2), .int .i64 ((rd_T66 l0_2 x3_2).f1)] 66 (0, 0)) (mk BK121.out) hb)
                      have n2_ := Aside0.mk (below_step mB hb)
                      clear BK117
                      clear BK121
                      clear HB
                      have BK117 := n0_
                      have BK121 := n1_
                      have HB := n2_
                      clear n0_ n1_ n2_
                      (try clear hb)
                      (try clear hb2)
                      (try clear hk)
                      (try clear hi)
                      refine hK.out _ _ ⟨(blk_cell BK117.out 0).trans rfl, (blk_cell BK117.out 1).trans rfl, (blk_cell BK117.out 2).trans rfl, (blk_cell BK121.out 0).trans rfl, (blk_cell BK121.out 1).trans rfl, (blk_cell BK121.out 2).trans rfl, (blk_cell BK121.out 3).trans rfl⟩ (fun hHeld => ?_)
                      clear hK K
                      refine nm (h := ?_)
                      refine pu 5 32 HT_ (h := ?_)
                      refine pu 6 33 HT_ (h := ?_)
                      refine pu 7 34 HT_ (h := ?_)
                      refine pu 9 36 HT_ (h := ?_)
                      refine ta 8 35 HT_ HW_ hHeld (hy := by rintro w' ⟨s0, s1, s2, s3, s4, s5, s6⟩; go_simp; with_reducible rfl) (h := ?_)
                      refine ta 10 37 HT_ HW_ hHeld (hy := by rintro w' ⟨s0, s1, s2, s3, s4, s5, s6⟩; go_simp; with_reducible rfl) (h := ?_)
                      refine pu 11 38 HT_ (h := ?_)
                      refine one_ (i := 12) (N := some 39) #[true, true, true, true, true, true, true, true, true, true, true, true, true, false, false, false, false, false, false, false, false, false, false, false, false, false, false, false, false, false, false, false] rfl rfl (one_of HT_.out (by kernel_rfl)) (by decide) (fun K hK => ?_)
                      refine go_ Try.func33 #[.int .i64 ((rd_T66 l0_2 x3_2).f1), .int .i64 1, .int .i64 (wrap64 (a0_0 - 1))] (h := ?_)
                      with_reducible refine (spec_l01In.calls ((rd_T66 l0_2 x3_2).f1) 1 (wrap64 (a0_0 - 1)) true _ A14.out).mono ?_
                      rintro e w' ⟨rfl, ⟨nd, rfl⟩⟩
                      refine ⟨_, rfl, ?_⟩
                      refine hK.out _ _ ⟨(blk_cell BK117.out 0).trans rfl, (blk_cell BK117.out 1).trans rfl, (blk_cell BK117.out 2).trans rfl, (blk_cell BK121.out 0).trans rfl, (blk_cell BK121.out 1).trans rfl, (blk_cell BK121.out 2).trans rfl, (blk_cell BK121.out 3).trans rfl⟩ (fun hHeld => ?_)
                      clear hK K
                      refine nm (h := ?_)
                      refine pu 13 40 HT_ (h := ?_)
                      refine pu 14 41 HT_ (h := ?_)
                      refine pu 15 42 HT_ (h := ?_)
                      refine pu 16 43 HT_ (h := ?_)
                      refine pu 17 44 HT_ (h := ?_)
                      refine pu 18 45 HT_ (h := ?_)
                      refine pv 19 46 HT_ (h := ?_)
                      refine pv 20 47 HT_ (h := ?_)
                      refine pv 21 48 HT_ (h := ?_)
                      refine pv 22 49 HT_ (h := ?_)
                      refine pv 23 50 HT_ (h := ?_)
                      refine pv 24 51 HT_ (h := ?_)
                      refine pv 25 52 HT_ (h := ?_)
                      refine pv 26 53 HT_ (h := ?_)
                      refine pv 27 54 HT_ (h := ?_)
                      refine pv 28 55 HT_ (h := ?_)
                      refine pv 29 56 HT_ (h := ?_)
                      refine pu 30 57 HT_ (h := ?_)
                      refine pu 31 58 HT_ (h := ?_)
                      refine done_ (done_of HT_.out (by kernel_rfl)) ?_
                      try go_wp2
                      go_roundg k2
                      case measure => have := HJ1.out; have := HK2.out; omega
                      case rel => exact ⟨(wrap64 (x3_2 + 1)), mF, H', ⟨by have := HJ1.out; have := HK2.out; omega⟩, ⟨by (with_reducible repeat (first | refine blk_drewN ?_ _ | refine blk_drew ?_ | refine blk_alloc ?_ _)); exact BK117.out⟩, ⟨mB⟩⟩
                  · replace c15 := Bool.eq_false_iff.mpr c15
                    subst c15
                    have H1 : (some false) = some r := by rw [if_neg (show ¬ (false = true) by decide)] at H; exact H
                    clear H
                    have H := H1
                    clear H1
                    obtain rfl := Option.some.inj H
                    have hcz45_0 : wr.cell? ⟨gb117, 0, none⟩ = some (.int .i64 a0_0) := (blk_cell BK117.out 0).trans rfl
                    have hcz45_1 : wr.cell? ⟨gb117, 1, none⟩ = some (.int .i64 a0_1) := (blk_cell BK117.out 1).trans rfl
                    have hcz45_2 : wr.cell? ⟨gb117, 2, none⟩ = some (.slice A0_2 l0_2.length c0_2) := (blk_cell BK117.out 2).trans rfl
                    have hfz45_0 := blk_frozen BK117.out 0
                    have hfz45_1 := blk_frozen BK117.out 1
                    have hfz45_2 := blk_frozen BK117.out 2
                    have p120 : 0 ≤ (x3_2 : Int) := of_decide_eq_true mS
                    have q120 : x3_2 < (l0_2.length : Int) := of_decide_eq_true mS
                    obtain ⟨ad120, e120, hx120_0, hx120_1, hx120_2, hx120_3⟩ := at_T66 HR0_2.out x3_2 p120 q120
                    cases e120
                    replace hx120_0 := cB HB hx120_0
                    replace hx120_1 := cB HB hx120_1
                    replace hx120_2 := cB HB hx120_2
                    replace hx120_3 := cB HB hx120_3
                    replace p120 := eq_true p120
                    replace q120 := eq_true q120
                    try go_wp2_with (first | ((with_reducible refine gate_dst (N := 4) rfl ?_); refine box_event ?hg (N := 4) ?hd (cs := #[.int .u8 0, .int .u8 0, .int .u8 0, .int .i64 0]) (t := 66) ?hr ?_; (case hd => rfl); (case hg => rfl); (case hr => first | (go_simp; done) | (go_simp; rfl)); intro gb121 hg w46 hbox hb; have n0_ := Aside0.mk (blk_below (g := gb117) (o := .cells #[.int .i64 a0_0, .int .i64 a0_1, .slice (some ad120) l0_2.length c0_2] 44 (0, 0)) (mk BK117.out) hb); have n1_ := Aside0.mk (below_step mB hb); have n2_ := Aside0.mk (hbox); have n3_ := Aside0.mk ((mG : w.heap.size ≤ gb121)); have n4_ := Aside0.mk ((mG : w.heap.size ≤ gb121)); have n5_ := Aside0.mk ((by rw [hg]; exact Nat.ne_of_lt (blk_lt (g := gb117) (o := .cells #[.int .i64 a0_0, .int .i64 a0_1, .slice (some ad120) l0_2.length c0_2] 44 (0, 0)) (mk BK117.out)) : gb117 ≠ gb121)); have n6_ := Aside0.mk ((by rw [hg]; exact Nat.ne_of_gt (blk_lt (g := gb117) (o := .cells #[.int .i64 a0_0, .int .i64 a0_1, .slice (some ad120) l0_2.length c0_2] 44 (0, 0)) (mk BK117.out)) : gb121 ≠ gb117)); clear BK117; clear HB; have BK117 := n0_; have HB := n1_; have BK121 := n2_; have GW121 := n3_; have GE121 := n4_; have NB117_121 := n5_; have NB121_117 := n6_; clear n0_ n1_ n2_ n3_ n4_ n5_ n6_; clear hb hbox hg; have hnb47 := NB121_117.out; have hnc47 := NB117_121.out; have hcz48_0 : w46.cell? ⟨gb121, 0, none⟩ = some (.int .u8 0) := (blk_cell BK121.out 0).trans rfl; have hcz48_1 : w46.cell? ⟨gb121, 1, none⟩ = some (.int .u8 0) := (blk_cell BK121.out 1).trans rfl; have hcz48_2 : w46.cell? ⟨gb121, 2, none⟩ = some (.int .u8 0) := (blk_cell BK121.out 2).trans rfl; have hcz48_3 : w46.cell? ⟨gb121, 3, none⟩ = some (.int .i64 0) := (blk_cell BK121.out 3).trans rfl; have hfz48_0 := blk_frozen BK121.out 0; have hfz48_1 := blk_frozen BK121.out 1; have hfz48_2 := blk_frozen BK121.out 2; have hfz48_3 := blk_frozen BK121.out 3))
                    have n0_ : Aside0 (((((w46.setCell ⟨gb121, 0, none⟩ (.int .u8 ((rd_T66 l0_2 x3_2).f0.f0))).setCell ⟨gb121, 1, none⟩ (.int .u8 ((rd_T66 l0_2 x3_2).f0.f1))).setCell ⟨gb121, 2, none⟩ (.int .u8 ((rd_T66 l0_2 x3_2).f0.f2))).setCell ⟨gb121, 3, none⟩ (.int .i64 ((rd_T66 l0_2 x3_2).f1))).heap[gb117]? = some (.cells #[.int .i64 a0_0, .int .i64 a0_1, .slice (some ad120) l0_2.length c0_2] 44 (0, 0))) := ⟨by (with_reducible repeat (first | refine blk_drewN ?_ _ | refine blk_drew ?_ | refine blk_alloc ?_ _)); refine blk_far ?_ NB117_121.out _; (with_reducible repeat (first | refine blk_drewN ?_ _ | refine blk_drew ?_ | refine blk_alloc ?_ _)); refine blk_far ?_ NB117_121.out _; (with_reducible repeat (first | refine blk_drewN ?_ _ | refine blk_drew ?_ | refine blk_alloc ?_ _)); refine blk_far ?_ NB117_121.out _; (with_reducible repeat (first | refine blk_drewN ?_ _ | refine blk_drew ?_ | refine blk_alloc ?_ _)); refine blk_far ?_ NB117_121.out _; (with_reducible repeat (first | refine blk_drewN ?_ _ | refine blk_drew ?_ | refine blk_alloc ?_ _)); exact BK117.out⟩
                    have n1_ : Aside0 (((((w46.setCell ⟨gb121, 0, none⟩ (.int .u8 ((rd_T66 l0_2 x3_2).f0.f0))).setCell ⟨gb121, 1, none⟩ (.int .u8 ((rd_T66 l0_2 x3_2).f0.f1))).setCell ⟨gb121, 2, none⟩ (.int .u8 ((rd_T66 l0_2 x3_2).f0.f2))).setCell ⟨gb121, 3, none⟩ (.int .i64 ((rd_T66 l0_2 x3_2).f1))).heap[gb121]? = some (.cells #[.int .u8 ((rd_T66 l0_2 x3_2).f0.f0), .int .u8 ((rd_T66 l0_2 x3_2).f0.f1), .int .u8 ((rd_T66 l0_2 x3_2).f0.f2), .int .i64 ((rd_T66 l0_2 x3_2).f1)] 66 (0, 0))) := ⟨by (with_reducible repeat (first | refine blk_drewN ?_ _ | refine blk_drew ?_ | refine blk_alloc ?_ _)); refine blk_put (cs := #[.int .u8 ((rd_T66 l0_2 x3_2).f0.f0), .int .u8 ((rd_T66 l0_2 x3_2).f0.f1), .int .u8 ((rd_T66 l0_2 x3_2).f0.f2), .int .i64 0]) ?_ 3 _ rfl; (with_reducible repeat (first | refine blk_drewN ?_ _ | refine blk_drew ?_ | refine blk_alloc ?_ _)); refine blk_put (cs := #[.int .u8 ((rd_T66 l0_2 x3_2).f0.f0), .int .u8 ((rd_T66 l0_2 x3_2).f0.f1), .int .u8 0, .int .i64 0]) ?_ 2 _ rfl; (with_reducible repeat (first | refine blk_drewN ?_ _ | refine blk_drew ?_ | refine blk_alloc ?_ _)); refine blk_put (cs := #[.int .u8 ((rd_T66 l0_2 x3_2).f0.f0), .int .u8 0, .int .u8 0, .int .i64 0]) ?_ 1 _ rfl; (with_reducible repeat (first | refine blk_drewN ?_ _ | refine blk_drew ?_ | refine blk_alloc ?_ _)); refine blk_put (cs := #[.int .u8 0, .int .u8 0, .int .u8 0, .int .i64 0]) ?_ 0 _ rfl; (with_reducible repeat (first | refine blk_drewN ?_ _ | refine blk_drew ?_ | refine blk_alloc ?_ _)); exact BK121.out⟩
                    have n2_ : Aside0 (Below w.heap.size w ((((w46.setCell ⟨gb121, 0, none⟩ (.int .u8 ((rd_T66 l0_2 x3_2).f0.f0))).setCell ⟨gb121, 1, none⟩ (.int .u8 ((rd_T66 l0_2 x3_2).f0.f1))).setCell ⟨gb121, 2, none⟩ (.int .u8 ((rd_T66 l0_2 x3_2).f0.f2))).setCell ⟨gb121, 3, none⟩ (.int .i64 ((rd_T66 l0_2 x3_2).f1)))) := ⟨mB⟩
                    (try clear BK117)
                    (try clear BK121)
                    (try clear HB)
                    generalize ((((w46.setCell ⟨gb121, 0, none⟩ (.int .u8 ((rd_T66 l0_2 x3_2).f0.f0))).setCell ⟨gb121, 1, none⟩ (.int .u8 ((rd_T66 l0_2 x3_2).f0.f1))).setCell ⟨gb121, 2, none⟩ (.int .u8 ((rd_T66 l0_2 x3_2).f0.f2))).setCell ⟨gb121, 3, none⟩ (.int .i64 ((rd_T66 l0_2 x3_2).f1))) = w49 at n0_ n1_ n2_ ⊢
                    have BK117 := n0_
                    have BK121 := n1_
                    have HB := n2_
                    clear n0_ n1_ n2_
                    have n0_ := Aside0.mk (blk_drew BK117.out)
                    have n1_ := Aside0.mk (blk_drew BK121.out)
                    have n2_ := Aside0.mk (below_drew1 HB.out)
                    clear BK117
                    clear BK121
                    clear HB
                    have BK117 := n0_
                    have BK121 := n1_
                    have HB := n2_
                    clear n0_ n1_ n2_
                    refine start_ (n := 32) (S := fun w' => w'.cell? ⟨gb117, 0, none⟩ = some (.int .i64 a0_0) ∧ w'.cell? ⟨gb117, 1, none⟩ = some (.int .i64 a0_1) ∧ w'.cell? ⟨gb117, 2, none⟩ = some (.slice (some ad120) l0_2.length c0_2) ∧ w'.cell? ⟨gb121, 0, none⟩ = some (.int .u8 ((rd_T66 l0_2 x3_2).f0.f0)) ∧ w'.cell? ⟨gb121, 1, none⟩ = some (.int .u8 ((rd_T66 l0_2 x3_2).f0.f1)) ∧ w'.cell? ⟨gb121, 2, none⟩ = some (.int .u8 ((rd_T66 l0_2 x3_2).f0.f2)) ∧ w'.cell? ⟨gb121, 3, none⟩ = some (.int .i64 ((rd_T66 l0_2 x3_2).f1))) (ds := []) #[false, false, false, false, false, false, false, false, false, false, false, false, false, false, false, false, false, false, false, false, false, false, false, false, false, false, false, false, false, false, false, false] (by kernel_rfl) rfl rfl ⟨(blk_cell BK117.out 0).trans rfl, (blk_cell BK117.out 1).trans rfl, (blk_cell BK117.out 2).trans rfl, (blk_cell BK121.out 0).trans rfl, (blk_cell BK121.out 1).trans rfl, (blk_cell BK121.out 2).trans rfl, (blk_cell BK121.out 3).trans rfl⟩ (fun hHeld => ?_); refine with_tabW spec_l01Is.tab7 spec_l01Is.bits7 (fun HT_ HW_ => ?_)
                    generalize w49.drew = w50 at BK117 BK121 HB hHeld ⊢
                    refine pu 0 27 HT_ (h := ?_)
                    refine pu 2 29 HT_ (h := ?_)
                    refine ta 1 28 HT_ HW_ hHeld (hy := by rintro w' ⟨s0, s1, s2, s3, s4, s5, s6⟩; go_simp; with_reducible rfl) (h := ?_)
                    refine ta 3 30 HT_ HW_ hHeld (hy := by rintro w' ⟨s0, s1, s2, s3, s4, s5, s6⟩; go_simp; with_reducible rfl) (h := ?_)
                    refine one_ (i := 4) (N := some 31) #[true, true, true, true, true, false, false, false, false, false, false, false, false, false, false, false, false, false, false, false, false, false, false, false, false, false, false, false, false, false, false, false] rfl rfl (one_of HT_.out (by kernel_rfl)) (by decide) (fun K hK => ?_)
                    refine go_ Try.func54 #[.int .i64 a0_1, .agg #[.int .u8 ((rd_T66 l0_2 x3_2).f0.f0), .int .u8 ((rd_T66 l0_2 x3_2).f0.f1), .int .u8 ((rd_T66 l0_2 x3_2).f0.f2)]] (h := ?_)
                    with_reducible refine (spec_l01Exps.calls k2 a0_1 ((rd_T66 l0_2 x3_2).f0.f0) ((rd_T66 l0_2 x3_2).f0.f1) ((rd_T66 l0_2 x3_2).f0.f2) true _ A12.out).mono ?_
                    rintro e w51 ⟨rfl, hb⟩
                    refine ⟨_, rfl, ?_⟩
                    have n0_ := Aside0.mk (blk_below (g := gb117) (o := .cells #[.int .i64 a0_0, .int .i64 a0_1, .slice (some ad120) l0_2.length c0_2] 44 (0, 0)) (mk BK117.out) hb)
                    have n1_ := Aside0.mk (blk_below (g := gb121) (o := .cells #[.int .u8 ((rd_T66 l0_2 x3_2).f0.f0), .int .u8 ((rd_T66 l0_2 x3_2).f0.f1), .int .u8 ((rd_T66 l0_2 x3_2).f0.f2), .int .i64 ((rd_T66 l0_2 x3_2).f1)] 66 (0, 0)) (mk BK121.out) hb)
                    have n2_ := Aside0.mk (below_step mB hb)
                    clear BK117
                    clear BK121
                    clear HB
                    have BK117 := n0_
                    have BK121 := n1_
                    have HB := n2_
                    clear n0_ n1_ n2_
                    (try clear hb)
                    (try clear hb2)
                    (try clear hk)
                    (try clear hi)
                    refine hK.out _ _ ⟨(blk_cell BK117.out 0).trans rfl, (blk_cell BK117.out 1).trans rfl, (blk_cell BK117.out 2).trans rfl, (blk_cell BK121.out 0).trans rfl, (blk_cell BK121.out 1).trans rfl, (blk_cell BK121.out 2).trans rfl, (blk_cell BK121.out 3).trans rfl⟩ (fun hHeld => ?_)
                    clear hK K
                    refine nm (h := ?_)
                    refine pu 5 32 HT_ (h := ?_)
                    refine pu 6 33 HT_ (h := ?_)
                    refine pu 7 34 HT_ (h := ?_)
                    refine pu 9 36 HT_ (h := ?_)
                    refine ta 8 35 HT_ HW_ hHeld (hy := by rintro w' ⟨s0, s1, s2, s3, s4, s5, s6⟩; go_simp; with_reducible rfl) (h := ?_)
                    refine ta 10 37 HT_ HW_ hHeld (hy := by rintro w' ⟨s0, s1, s2, s3, s4, s5, s6⟩; go_simp; with_reducible rfl) (h := ?_)
                    refine pu 11 38 HT_ (h := ?_)
                    refine one_ (i := 12) (N := some 39) #[true, true, true, true, true, true, true, true, true, true, true, true, true, false, false, false, false, false, false, false, false, false, false, false, false, false, false, false, false, false, false, false] rfl rfl (one_of HT_.out (by kernel_rfl)) (by decide) (fun K hK => ?_)
                    refine go_ Try.func33 #[.int .i64 ((rd_T66 l0_2 x3_2).f1), .int .i64 1, .int .i64 (wrap64 (a0_0 - 1))] (h := ?_)
                    with_reducible refine (spec_l01In.calls ((rd_T66 l0_2 x3_2).f1) 1 (wrap64 (a0_0 - 1)) false _ A14.out).mono ?_
                    rintro e w' ⟨rfl, ⟨nd, rfl⟩⟩
                    refine ⟨_, rfl, ?_⟩
                    refine hK.out _ _ ⟨(blk_cell BK117.out 0).trans rfl, (blk_cell BK117.out 1).trans rfl, (blk_cell BK117.out 2).trans rfl, (blk_cell BK121.out 0).trans rfl, (blk_cell BK121.out 1).trans rfl, (blk_cell BK121.out 2).trans rfl, (blk_cell BK121.out 3).trans rfl⟩ (fun hHeld => ?_)
                    clear hK K
                    refine nm (h := ?_)
                    refine pu 13 40 HT_ (h := ?_)
                    refine pu 14 41 HT_ (h := ?_)
                    refine pu 15 42 HT_ (h := ?_)
                    refine pv 16 43 HT_ (h := ?_)
                    refine pv 17 44 HT_ (h := ?_)
                    refine pv 18 45 HT_ (h := ?_)
                    refine pv 19 46 HT_ (h := ?_)
                    refine pv 20 47 HT_ (h := ?_)
                    refine pv 21 48 HT_ (h := ?_)
                    refine pv 22 49 HT_ (h := ?_)
                    refine pv 23 50 HT_ (h := ?_)
                    refine pv 24 51 HT_ (h := ?_)
                    refine pv 25 52 HT_ (h := ?_)
                    refine pv 26 53 HT_ (h := ?_)
                    refine pv 27 54 HT_ (h := ?_)
                    refine pv 28 55 HT_ (h := ?_)
                    refine pv 29 56 HT_ (h := ?_)
                    refine pv 30 57 HT_ (h := ?_)
                    refine pu 31 58 HT_ (h := ?_)
                    refine done_ (done_of HT_.out (by kernel_rfl)) ?_
                    try go_wp2
                    go_ret
                    exact ⟨mE, mB⟩
                · replace c13 := Bool.eq_false_iff.mpr c13
                  subst c13
                  have H1 : (some false) = some r := by rw [if_neg (show ¬ (false = true) by decide)] at H; exact H
                  clear H
                  have H := H1
                  clear H1
                  obtain rfl := Option.some.inj H
                  have hcz52_0 : wr.cell? ⟨gb117, 0, none⟩ = some (.int .i64 a0_0) := (blk_cell BK117.out 0).trans rfl
                  have hcz52_1 : wr.cell? ⟨gb117, 1, none⟩ = some (.int .i64 a0_1) := (blk_cell BK117.out 1).trans rfl
                  have hcz52_2 : wr.cell? ⟨gb117, 2, none⟩ = some (.slice A0_2 l0_2.length c0_2) := (blk_cell BK117.out 2).trans rfl
                  have hfz52_0 := blk_frozen BK117.out 0
                  have hfz52_1 := blk_frozen BK117.out 1
                  have hfz52_2 := blk_frozen BK117.out 2
                  have p120 : 0 ≤ (x3_2 : Int) := of_decide_eq_true mS
                  have q120 : x3_2 < (l0_2.length : Int) := of_decide_eq_true mS
                  obtain ⟨ad120, e120, hx120_0, hx120_1, hx120_2, hx120_3⟩ := at_T66 HR0_2.out x3_2 p120 q120
                  cases e120
                  replace hx120_0 := cB HB hx120_0
                  replace hx120_1 := cB HB hx120_1
                  replace hx120_2 := cB HB hx120_2
                  replace hx120_3 := cB HB hx120_3
                  replace p120 := eq_true p120
                  replace q120 := eq_true q120
                  try go_wp2_with (first | ((with_reducible refine gate_dst (N := 4) rfl ?_); refine box_event ?hg (N := 4) ?hd (cs := #[.int .u8 0, .int .u8 0, .int .u8 0, .int .i64 0]) (t := 66) ?hr ?_; (case hd => rfl); (case hg => rfl); (case hr => first | (go_simp; done) | (go_simp; rfl)); intro gb121 hg w53 hbox hb; have n0_ := Aside0.mk (blk_below (g := gb117) (o := .cells #[.int .i64 a0_0, .int .i64 a0_1, .slice (some ad120) l0_2.length c0_2] 44 (0, 0)) (mk BK117.out) hb); have n1_ := Aside0.mk (below_step mB hb); have n2_ := Aside0.mk (hbox); have n3_ := Aside0.mk ((mG : w.heap.size ≤ gb121)); have n4_ := Aside0.mk ((mG : w.heap.size ≤ gb121)); have n5_ := Aside0.mk ((by rw [hg]; exact Nat.ne_of_lt (blk_lt (g := gb117) (o := .cells #[.int .i64 a0_0, .int .i64 a0_1, .slice (some ad120) l0_2.length c0_2] 44 (0, 0)) (mk BK117.out)) : gb117 ≠ gb121)); have n6_ := Aside0.mk ((by rw [hg]; exact Nat.ne_of_gt (blk_lt (g := gb117) (o := .cells #[.int .i64 a0_0, .int .i64 a0_1, .slice (some ad120) l0_2.length c0_2] 44 (0, 0)) (mk BK117.out)) : gb121 ≠ gb117)); clear BK117; clear HB; have BK117 := n0_; have HB := n1_; have BK121 := n2_; have GW121 := n3_; have GE121 := n4_; have NB117_121 := n5_; have NB121_117 := n6_; clear n0_ n1_ n2_ n3_ n4_ n5_ n6_; clear hb hbox hg; have hnb54 := NB121_117.out; have hnc54 := NB117_121.out; have hcz55_0 : w53.cell? ⟨gb121, 0, none⟩ = some (.int .u8 0) := (blk_cell BK121.out 0).trans rfl; have hcz55_1 : w53.cell? ⟨gb121, 1, none⟩ = some (.int .u8 0) := (blk_cell BK121.out 1).trans rfl; have hcz55_2 : w53.cell? ⟨gb121, 2, none⟩ = some (.int .u8 0) := (blk_cell BK121.out 2).trans rfl; have hcz55_3 : w53.cell? ⟨gb121, 3, none⟩ = some (.int .i64 0) := (blk_cell BK121.out 3).trans rfl; have hfz55_0 := blk_frozen BK121.out 0; have hfz55_1 := blk_frozen BK121.out 1; have hfz55_2 := blk_frozen BK121.out 2; have hfz55_3 := blk_frozen BK121.out 3))
                  have n0_ : Aside0 (((((w53.setCell ⟨gb121, 0, none⟩ (.int .u8 ((rd_T66 l0_2 x3_2).f0.f0))).setCell ⟨gb121, 1, none⟩ (.int .u8 ((rd_T66 l0_2 x3_2).f0.f1))).setCell ⟨gb121, 2, none⟩ (.int .u8 ((rd_T66 l0_2 x3_2).f0.f2))).setCell ⟨gb121, 3, none⟩ (.int .i64 ((rd_T66 l0_2 x3_2).f1))).heap[gb117]? = some (.cells #[.int .i64 a0_0, .int .i64 a0_1, .slice (some ad120) l0_2.length c0_2] 44 (0, 0))) := ⟨by (with_reducible repeat (first | refine blk_drewN ?_ _ | refine blk_drew ?_ | refine blk_alloc ?_ _)); refine blk_far ?_ NB117_121.out _; (with_reducible repeat (first | refine blk_drewN ?_ _ | refine blk_drew ?_ | refine blk_alloc ?_ _)); refine blk_far ?_ NB117_121.out _; (with_reducible repeat (first | refine blk_drewN ?_ _ | refine blk_drew ?_ | refine blk_alloc ?_ _)); refine blk_far ?_ NB117_121.out _; (with_reducible repeat (first | refine blk_drewN ?_ _ | refine blk_drew ?_ | refine blk_alloc ?_ _)); refine blk_far ?_ NB117_121.out _; (with_reducible repeat (first | refine blk_drewN ?_ _ | refine blk_drew ?_ | refine blk_alloc ?_ _)); exact BK117.out⟩
                  have n1_ : Aside0 (((((w53.setCell ⟨gb121, 0, none⟩ (.int .u8 ((rd_T66 l0_2 x3_2).f0.f0))).setCell ⟨gb121, 1, none⟩ (.int .u8 ((rd_T66 l0_2 x3_2).f0.f1))).setCell ⟨gb121, 2, none⟩ (.int .u8 ((rd_T66 l0_2 x3_2).f0.f2))).setCell ⟨gb121, 3, none⟩ (.int .i64 ((rd_T66 l0_2 x3_2).f1))).heap[gb121]? = some (.cells #[.int .u8 ((rd_T66 l0_2 x3_2).f0.f0), .int .u8 ((rd_T66 l0_2 x3_2).f0.f1), .int .u8 ((rd_T66 l0_2 x3_2).f0.f2), .int .i64 ((rd_T66 l0_2 x3_2).f1)] 66 (0, 0))) := ⟨by (with_reducible repeat (first | refine blk_drewN ?_ _ | refine blk_drew ?_ | refine blk_alloc ?_ _)); refine blk_put (cs := #[.int .u8 ((rd_T66 l0_2 x3_2).f0.f0), .int .u8 ((rd_T66 l0_2 x3_2).f0.f1), .int .u8 ((rd_T66 l0_2 x3_2).f0.f2), .int .i64 0]) ?_ 3 _ rfl; (with_reducible repeat (first | refine blk_drewN ?_ _ | refine blk_drew ?_ | refine blk_alloc ?_ _)); refine blk_put (cs := #[.int .u8 ((rd_T66 l0_2 x3_2).f0.f0), .int .u8 ((rd_T66 l0_2 x3_2).f0.f1), .int .u8 0, .int .i64 0]) ?_ 2 _ rfl; (with_reducible repeat (first | refine blk_drewN ?_ _ | refine blk_drew ?_ | refine blk_alloc ?_ _)); refine blk_put (cs := #[.int .u8 ((rd_T66 l0_2 x3_2).f0.f0), .int .u8 0, .int .u8 0, .int .i64 0]) ?_ 1 _ rfl; (with_reducible repeat (first | refine blk_drewN ?_ _ | refine blk_drew ?_ | refine blk_alloc ?_ _)); refine blk_put (cs := #[.int .u8 0, .int .u8 0, .int .u8 0, .int .i64 0]) ?_ 0 _ rfl; (with_reducible repeat (first | refine blk_drewN ?_ _ | refine blk_drew ?_ | refine blk_alloc ?_ _)); exact BK121.out⟩
                  have n2_ : Aside0 (Below w.heap.size w ((((w53.setCell ⟨gb121, 0, none⟩ (.int .u8 ((rd_T66 l0_2 x3_2).f0.f0))).setCell ⟨gb121, 1, none⟩ (.int .u8 ((rd_T66 l0_2 x3_2).f0.f1))).setCell ⟨gb121, 2, none⟩ (.int .u8 ((rd_T66 l0_2 x3_2).f0.f2))).setCell ⟨gb121, 3, none⟩ (.int .i64 ((rd_T66 l0_2 x3_2).f1)))) := ⟨mB⟩
                  (try clear BK117)
                  (try clear BK121)
                  (try clear HB)
                  generalize ((((w53.setCell ⟨gb121, 0, none⟩ (.int .u8 ((rd_T66 l0_2 x3_2).f0.f0))).setCell ⟨gb121, 1, none⟩ (.int .u8 ((rd_T66 l0_2 x3_2).f0.f1))).setCell ⟨gb121, 2, none⟩ (.int .u8 ((rd_T66 l0_2 x3_2).f0.f2))).setCell ⟨gb121, 3, none⟩ (.int .i64 ((rd_T66 l0_2 x3_2).f1))) = w56 at n0_ n1_ n2_ ⊢
                  have BK117 := n0_
                  have BK121 := n1_
                  have HB := n2_
                  clear n0_ n1_ n2_
                  have n0_ := Aside0.mk (blk_drew BK117.out)
                  have n1_ := Aside0.mk (blk_drew BK121.out)
                  have n2_ := Aside0.mk (below_drew1 HB.out)
                  clear BK117
                  clear BK121
                  clear HB
                  have BK117 := n0_
                  have BK121 := n1_
                  have HB := n2_
                  clear n0_ n1_ n2_
                  refine start_ (n := 32) (S := fun w' => w'.cell? ⟨gb117, 0, none⟩ = some (.int .i64 a0_0) ∧ w'.cell? ⟨gb117, 1, none⟩ = some (.int .i64 a0_1) ∧ w'.cell? ⟨gb117, 2, none⟩ = some (.slice (some ad120) l0_2.length c0_2) ∧ w'.cell? ⟨gb121, 0, none⟩ = some (.int .u8 ((rd_T66 l0_2 x3_2).f0.f0)) ∧ w'.cell? ⟨gb121, 1, none⟩ = some (.int .u8 ((rd_T66 l0_2 x3_2).f0.f1)) ∧ w'.cell? ⟨gb121, 2, none⟩ = some (.int .u8 ((rd_T66 l0_2 x3_2).f0.f2)) ∧ w'.cell? ⟨gb121, 3, none⟩ = some (.int .i64 ((rd_T66 l0_2 x3_2).f1))) (ds := []) #[false, false, false, false, false, false, false, false, false, false, false, false, false, false, false, false, false, false, false, false, false, false, false, false, false, false, false, false, false, false, false, false] (by kernel_rfl) rfl rfl ⟨(blk_cell BK117.out 0).trans rfl, (blk_cell BK117.out 1).trans rfl, (blk_cell BK117.out 2).trans rfl, (blk_cell BK121.out 0).trans rfl, (blk_cell BK121.out 1).trans rfl, (blk_cell BK121.out 2).trans rfl, (blk_cell BK121.out 3).trans rfl⟩ (fun hHeld => ?_); refine with_tabW spec_l01Is.tab7 spec_l01Is.bits7 (fun HT_ HW_ => ?_)
                  generalize w56.drew = w57 at BK117 BK121 HB hHeld ⊢
                  refine pu 0 27 HT_ (h := ?_)
                  refine pu 2 29 HT_ (h := ?_)
                  refine ta 1 28 HT_ HW_ hHeld (hy := by rintro w' ⟨s0, s1, s2, s3, s4, s5, s6⟩; go_simp; with_reducible rfl) (h := ?_)
                  refine ta 3 30 HT_ HW_ hHeld (hy := by rintro w' ⟨s0, s1, s2, s3, s4, s5, s6⟩; go_simp; with_reducible rfl) (h := ?_)
                  refine one_ (i := 4) (N := some 31) #[true, true, true, true, true, false, false, false, false, false, false, false, false, false, false, false, false, false, false, false, false, false, false, false, false, false, false, false, false, false, false, false] rfl rfl (one_of HT_.out (by kernel_rfl)) (by decide) (fun K hK => ?_)
                  refine go_ Try.func54 #[.int .i64 a0_1, .agg #[.int .u8 ((rd_T66 l0_2 x3_2).f0.f0), .int .u8 ((rd_T66 l0_2 x3_2).f0.f1), .int .u8 ((rd_T66 l0_2 x3_2).f0.f2)]] (h := ?_)
                  with_reducible refine (spec_l01Exps.calls k2 a0_1 ((rd_T66 l0_2 x3_2).f0.f0) ((rd_T66 l0_2 x3_2).f0.f1) ((rd_T66 l0_2 x3_2).f0.f2) false _ A12.out).mono ?_
                  rintro e w58 ⟨rfl, hb⟩
                  refine ⟨_, rfl, ?_⟩
                  have n0_ := Aside0.mk (blk_below (g := gb117) (o := .cells #[.int .i64 a0_0, .int .i64 a0_1, .slice (some ad120) l0_2.length c0_2] 44 (0, 0)) (mk BK117.out) hb)
                  have n1_ := Aside0.mk (blk_below (g := gb121) (o := .cells #[.int .u8 ((rd_T66 l0_2 x3_2).f0.f0), .int .u8 ((rd_T66 l0_2 x3_2).f0.f1), .int .u8 ((rd_T66 l0_2 x3_2).f0.f2), .int .i64 ((rd_T66 l0_2 x3_2).f1)] 66 (0, 0)) (mk BK121.out) hb)
                  have n2_ := Aside0.mk (below_step mB hb)
                  clear BK117
                  clear BK121
                  clear HB
                  have BK117 := n0_
                  have BK121 := n1_
                  have HB := n2_
                  clear n0_ n1_ n2_
                  (try clear hb)
                  (try clear hb2)
                  (try clear hk)
                  (try clear hi)
                  refine hK.out _ _ ⟨(blk_cell BK117.out 0).trans rfl, (blk_cell BK117.out 1).trans rfl, (blk_cell BK117.out 2).trans rfl, (blk_cell BK121.out 0).trans rfl, (blk_cell BK121.out 1).trans rfl, (blk_cell BK121.out 2).trans rfl, (blk_cell BK121.out 3).trans rfl⟩ (fun hHeld => ?_)
                  clear hK K
                  refine nm (h := ?_)
                  refine pu 5 32 HT_ (h := ?_)
                  refine pu 6 33 HT_ (h := ?_)
                  refine pv 7 34 HT_ (h := ?_)
                  refine pv 8 35 HT_ (h := ?_)
                  refine pv 9 36 HT_ (h := ?_)
                  refine pv 10 37 HT_ (h := ?_)
                  refine pv 11 38 HT_ (h := ?_)
                  refine pv 12 39 HT_ (h := ?_)
                  refine pv 13 40 HT_ (h := ?_)
                  refine pu 14 41 HT_ (h := ?_)
                  refine pu 15 42 HT_ (h := ?_)
                  refine pv 16 43 HT_ (h := ?_)
                  refine pv 17 44 HT_ (h := ?_)
                  refine pv 18 45 HT_ (h := ?_)
                  refine pv 19 46 HT_ (h := ?_)
                  refine pv 20 47 HT_ (h := ?_)
                  refine pv 21 48 HT_ (h := ?_)
                  refine pv 22 49 HT_ (h := ?_)
                  refine pv 23 50 HT_ (h := ?_)
                  refine pv 24 51 HT_ (h := ?_)
                  refine pv 25 52 HT_ (h := ?_)
                  refine pv 26 53 HT_ (h := ?_)
                  refine pv 27 54 HT_ (h := ?_)
                  refine pv 28 55 HT_ (h := ?_)
                  refine pv 29 56 HT_ (h := ?_)
                  refine pv 30 57 HT_ (h := ?_)
                  refine pu 31 58 HT_ (h := ?_)
                  refine done_ (done_of HT_.out (by kernel_rfl)) ?_
                  try go_wp2
                  go_ret
                  exact ⟨mE, mB⟩
              · rw [if_neg c11] at H
                exact absurd H (by simp)
            · rw [if_neg c10] at H
              have c10b0 : decide (x3_2 < (l0_2.length : Int)) = false := decide_eq_false c10
              clear c10
              obtain rfl := Option.some.inj H
              have hcz59_0 : wr.cell? ⟨gb117, 0, none⟩ = some (.int .i64 a0_0) := (blk_cell BK117.out 0).trans rfl
              have hcz59_1 : wr.cell? ⟨gb117, 1, none⟩ = some (.int .i64 a0_1) := (blk_cell BK117.out 1).trans rfl
              have hcz59_2 : wr.cell? ⟨gb117, 2, none⟩ = some (.slice A0_2 l0_2.length c0_2) := (blk_cell BK117.out 2).trans rfl
              have hfz59_0 := blk_frozen BK117.out 0
              have hfz59_1 := blk_frozen BK117.out 1
              have hfz59_2 := blk_frozen BK117.out 2
              go_wp2
              go_ret
              exact ⟨mE, mB⟩

end Go.Proofs.Ytpeihdjefpnoaaa.EFnExactFreeNumber
