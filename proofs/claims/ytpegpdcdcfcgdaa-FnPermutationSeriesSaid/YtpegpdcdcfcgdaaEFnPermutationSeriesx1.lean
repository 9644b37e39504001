/- The functions that the law uses, as plain functions, and that the code comes to what they say. -/
import Derived.Test.YtpegpdcdcfcgdaaEFnPermutationSeriesx0
namespace Go.Proofs.Ytpegpdcdcfcgdaa.EFnPermutationSeries
open Go.RowKit Go.Proofs.YtpegpdcdcfcgdaaW.PrintWords Go.Proofs.YtpegpdcdcfcgdaaW.PrintLast Go.Proofs.YtpegpdcdcfcgdaaW.PrintMore Go.Proofs.YtpegpdcdcfcgdaaX
attribute [local go_sem] max2_int min2_int max_two min_two max_three min_three max_four min_four   -- for this text's walks alone
set_option linter.unusedVariables false
set_option linter.unusedSimpArgs false

/-! ### spec_l01In: function 28 -/
def spec_l01In.f (a0 : Int) (a1 : Int) (a2 : Int) : Option (Bool) := if a0 ≥ a1 then (some (decide (a0 ≤ a2))) else (some false)
set_option maxHeartbeats 8000000 in
set_option maxRecDepth 100000 in
theorem spec_l01In.calls (a0 : Int) (a1 : Int) (a2 : Int) (r : Bool) (w : World) (h : spec_l01In.f a0 a1 a2 = some r) :
    Calls Try.prog 28 #[.int .i64 a0, .int .i64 a1, .int .i64 a2] w fun e w' => e = .returned (.bool r) ∧ Drawn0 w w' := by
  have H : (if a0 ≥ a1 then (some (decide (a0 ≤ a2))) else (some false)) = some r := h
  clear h
  by_cases c4 : a0 ≥ a1
  · rw [if_pos c4] at H
    have c4b0 : decide (a1 ≤ a0) = true := decide_eq_true c4
    clear c4
    obtain rfl := Option.some.inj H
    go_enter Try.func28, Try.ntmps28
    go_wp2
    go_ret
    exact ⟨mF, by repeat (first | exact Drawn0.refl _ | apply Drawn0.step)⟩
  · rw [if_neg c4] at H
    have c4b0 : decide (a1 ≤ a0) = false := decide_eq_false c4
    clear c4
    obtain rfl := Option.some.inj H
    go_enter Try.func28, Try.ntmps28
    go_wp2
    go_ret
    exact ⟨mF, by repeat (first | exact Drawn0.refl _ | apply Drawn0.step)⟩

/-! ### spec_l04Permutation: function 24 -/
mutual
def spec_l04Permutation.l0 : Nat → List Int → Int → Bool → Bool → Bool → Bool → Bool → Bool → Bool → Bool → Option (Bool)
  | 0, _, _, _, _, _, _, _, _, _, _ => none
  | k + 1, x0, x4, x102000, x102001, x102002, x102003, x102004, x102005, x102006, x102007 => if x4 < (x0.length : Int) then (spec_l04Permutation.j1 k x0 x4 (decide ((x0.length : Int) ≤ 8)) x102000 x102001 x102002 x102003 x102004 x102005 x102006 x102007) else (spec_l04Permutation.j1 k x0 x4 false x102000 x102001 x102002 x102003 x102004 x102005 x102006 x102007)
def spec_l04Permutation.j1 : Nat → List Int → Int → Bool → Bool → Bool → Bool → Bool → Bool → Bool → Bool → Bool → Option (Bool)
  | 0, _, _, _, _, _, _, _, _, _, _, _ => none
  | k + 1, x0, x4, x14, x102000, x102001, x102002, x102003, x102004, x102005, x102006, x102007 => if x14 = true then (if 0 ≤ x4 then (if x4 < (x0.length : Int) then ((spec_l01In.f (rd x0 x4) 0 (wrap64 ((x0.length : Int) - 1))).bind fun t103 => (if t103 = true then (if rd x0 x4 = 0 then (if x102000 = true then (some false) else (spec_l04Permutation.l0 k x0 (wrap64 (x4 + 1)) true x102001 x102002 x102003 x102004 x102005 x102006 x102007)) else (if rd x0 x4 = 1 then (if x102001 = true then (some false) else (spec_l04Permutation.l0 k x0 (wrap64 (x4 + 1)) x102000 true x102002 x102003 x102004 x102005 x102006 x102007)) else (if rd x0 x4 = 2 then (if x102002 = true then (some false) else (spec_l04Permutation.l0 k x0 (wrap64 (x4 + 1)) x102000 x102001 true x102003 x102004 x102005 x102006 x102007)) else (if rd x0 x4 = 3 then (if x102003 = true then (some false) else (spec_l04Permutation.l0 k x0 (wrap64 (x4 + 1)) x102000 x102001 x102002 true x102004 x102005 x102006 x102007)) else (if rd x0 x4 = 4 then (if x102004 = true then (some false) else (spec_l04Permutation.l0 k x0 (wrap64 (x4 + 1)) x102000 x102001 x102002 x102003 true x102005 x102006 x102007)) else (if rd x0 x4 = 5 then (if x102005 = true then (some false) else (spec_l04Permutation.l0 k x0 (wrap64 (x4 + 1)) x102000 x102001 x102002 x102003 x102004 true x102006 x102007)) else (if rd x0 x4 = 6 then (if x102006 = true then (some false) else (spec_l04Permutation.l0 k x0 (wrap64 (x4 + 1)) x102000 x102001 x102002 x102003 x102004 x102005 true x102007)) else (if rd x0 x4 = 7 then (if x102007 = true then (some false) else (spec_l04Permutation.l0 k x0 (wrap64 (x4 + 1)) x102000 x102001 x102002 x102003 x102004 x102005 x102006 true)) else (none))))))))) else (some false))) else (none)) else (none)) else (if (x0.length : Int) ≥ 1 then (some (decide ((x0.length : Int) ≤ 8))) else (some false))
end
def spec_l04Permutation.f (k : Nat) (l0 : List Int) : Option (Bool) := spec_l04Permutation.l0 k l0 0 false false false false false false false false
theorem spec_l04Permutation.mono_l : ∀ k, (∀ y0 y1 y2 y3 y4 y5 y6 y7 y8 y9, LeO (spec_l04Permutation.l0 k y0 y1 y2 y3 y4 y5 y6 y7 y8 y9) (spec_l04Permutation.l0 (k + 1) y0 y1 y2 y3 y4 y5 y6 y7 y8 y9)) ∧ (∀ y0 y1 y2 y3 y4 y5 y6 y7 y8 y9 y10, LeO (spec_l04Permutation.j1 k y0 y1 y2 y3 y4 y5 y6 y7 y8 y9 y10) (spec_l04Permutation.j1 (k + 1) y0 y1 y2 y3 y4 y5 y6 y7 y8 y9 y10))
  | 0 => ⟨fun _ _ _ _ _ _ _ _ _ _ r h => by simp [spec_l04Permutation.l0] at h, fun _ _ _ _ _ _ _ _ _ _ _ r h => by simp [spec_l04Permutation.j1] at h⟩
  | k + 1 => by
    obtain ⟨ih0, ih1⟩ := spec_l04Permutation.mono_l k
    refine ⟨?_, ?_⟩
    · intro y0 y1 y2 y3 y4 y5 y6 y7 y8 y9
      unfold spec_l04Permutation.l0
      repeat' first
      | (with_reducible exact ih0 _ _ _ _ _ _ _ _ _ _)
      | (with_reducible exact ih1 _ _ _ _ _ _ _ _ _ _ _)
      | (with_reducible exact LeO.refl _)
      | (with_reducible exact LeO.none _)
      | (with_reducible refine LeO.ite ?_ ?_)
      | (with_reducible refine LeO.bind ?_ (fun _ => ?_))
      | exact ih0 _ _ _ _ _ _ _ _ _ _
      | exact ih1 _ _ _ _ _ _ _ _ _ _ _
      | exact LeO.none _
      | refine LeO.ite ?_ ?_
      | refine LeO.bind ?_ (fun _ => ?_)
    · intro y0 y1 y2 y3 y4 y5 y6 y7 y8 y9 y10
      unfold spec_l04Permutation.j1
      repeat' first
      | (with_reducible exact ih0 _ _ _ _ _ _ _ _ _ _)
      | (with_reducible exact ih1 _ _ _ _ _ _ _ _ _ _ _)
      | (with_reducible exact LeO.refl _)
      | (with_reducible exact LeO.none _)
      | (with_reducible refine LeO.ite ?_ ?_)
      | (with_reducible refine LeO.bind ?_ (fun _ => ?_))
      | exact ih0 _ _ _ _ _ _ _ _ _ _
      | exact ih1 _ _ _ _ _ _ _ _ _ _ _
      | exact LeO.none _
      | refine LeO.ite ?_ ?_
      | refine LeO.bind ?_ (fun _ => ?_)
theorem spec_l04Permutation.mono : ∀ a0 k, LeO (spec_l04Permutation.f k a0) (spec_l04Permutation.f (k + 1) a0) := by
  intro a0 k
  obtain ⟨ih0, ih1⟩ := spec_l04Permutation.mono_l k
  unfold spec_l04Permutation.f
  repeat' first
      | (with_reducible exact ih0 _ _ _ _ _ _ _ _ _ _)
      | (with_reducible exact ih1 _ _ _ _ _ _ _ _ _ _ _)
      | (with_reducible exact LeO.refl _)
      | (with_reducible exact LeO.none _)
      | (with_reducible refine LeO.ite ?_ ?_)
      | (with_reducible refine LeO.bind ?_ (fun _ => ?_))
      | exact ih0 _ _ _ _ _ _ _ _ _ _
      | exact ih1 _ _ _ _ _ _ _ _ _ _ _
      | exact LeO.none _
      | refine LeO.ite ?_ ?_
      | refine LeO.bind ?_ (fun _ => ?_)
set_option maxHeartbeats 8000000 in
set_option maxRecDepth 100000 in
theorem spec_l04Permutation.calls (k : Nat) (A0 : Option Addr) (c0 : Nat) (l0 : List Int) (r : Bool) (w : World) (hr0 : Kd.C (Kd.int .i64) w A0 l0.length l0) (hc0 : l0.length ≤ c0) (h : spec_l04Permutation.f k l0 = some r) :
    Calls Try.prog 24 #[.slice A0 l0.length c0] w fun e w' => e = .returned (.bool r) ∧ Below w.heap.size w w' := by
  have hu50 := Try.underlying50
  have HR0 := Aside0.mk hr0
  have HC0 := Aside0.mk hc0
  clear hr0 hc0
  have HB := Aside0.mk (Below.refl w.heap.size w)
  have H : (spec_l04Permutation.l0 k l0 0 false false false false false false false false) = some r := h
  clear h
  have H' := Aside0.mk H
  clear H
  go_enter Try.func24, Try.ntmps24
  go_wp2_with (first | ((with_reducible refine gate_dst (N := 3) rfl ?_); (try (refine gate_guard (by rfl) ?_; dsimp only)); refine box_event ?hg (N := 3) ?hd (cs := #[.bool false, .bool false, .bool false, .bool false, .bool false, .bool false, .bool false, .bool false]) (t := 50) ?hr ?_; (case hd => rfl); (case hg => rfl); (case hr => first | (go_simp; done) | (go_simp; rfl)); intro gb101 hg w2 hbox hb; have n0_ := Aside0.mk (below_step mB hb); have n1_ := Aside0.mk (hbox); have n2_ := Aside0.mk ((mG : w.heap.size ≤ gb101)); have n3_ := Aside0.mk ((mG : w.heap.size ≤ gb101)); clear HB; have HB := n0_; have BK101 := n1_; have GW101 := n2_; have GE101 := n3_; clear n0_ n1_ n2_ n3_; clear hb hbox hg; have hcz3_0 : w2.cell? ⟨gb101, 0, none⟩ = some (.bool false) := (blk_cell BK101.out 0).trans rfl; have hcz3_1 : w2.cell? ⟨gb101, 1, none⟩ = some (.bool false) := (blk_cell BK101.out 1).trans rfl; have hcz3_2 : w2.cell? ⟨gb101, 2, none⟩ = some (.bool false) := (blk_cell BK101.out 2).trans rfl; have hcz3_3 : w2.cell? ⟨gb101, 3, none⟩ = some (.bool false) := (blk_cell BK101.out 3).trans rfl; have hcz3_4 : w2.cell? ⟨gb101, 4, none⟩ = some (.bool false) := (blk_cell BK101.out 4).trans rfl; have hcz3_5 : w2.cell? ⟨gb101, 5, none⟩ = some (.bool false) := (blk_cell BK101.out 5).trans rfl; have hcz3_6 : w2.cell? ⟨gb101, 6, none⟩ = some (.bool false) := (blk_cell BK101.out 6).trans rfl; have hcz3_7 : w2.cell? ⟨gb101, 7, none⟩ = some (.bool false) := (blk_cell BK101.out 7).trans rfl; have hfz3_0 := blk_frozen BK101.out 0; have hfz3_1 := blk_frozen BK101.out 1; have hfz3_2 := blk_frozen BK101.out 2; have hfz3_3 := blk_frozen BK101.out 3; have hfz3_4 := blk_frozen BK101.out 4; have hfz3_5 := blk_frozen BK101.out 5; have hfz3_6 := blk_frozen BK101.out 6; have hfz3_7 := blk_frozen BK101.out 7))
  go_loopg [4] k (fun kq v4 w' => ∃ (x4_1 : Int) (x102000_1 : Bool) (x102001_1 : Bool) (x102002_1 : Bool) (x102003_1 : Bool) (x102004_1 : Bool) (x102005_1 : Bool) (x102006_1 : Bool) (x102007_1 : Bool), v4 = .int .i64 x4_1 ∧ Aside0 (spec_l04Permutation.l0 kq l0 x4_1 x102000_1 x102001_1 x102002_1 x102003_1 x102004_1 x102005_1 x102006_1 x102007_1 = some r) ∧ Aside0 (kq ≤ k) ∧ Aside0 (w'.heap[gb101]? = some (.cells #[.bool x102000_1, .bool x102001_1, .bool x102002_1, .bool x102003_1, .bool x102004_1, .bool x102005_1, .bool x102006_1, .bool x102007_1] 50 (0, 0))) ∧ Aside0 (Below w.heap.size w w'))
  case atStart => exact ⟨(0), (false), (false), (false), (false), (false), (false), (false), (false), mF, H', ⟨Nat.le_refl _⟩, ⟨by (with_reducible repeat (first | refine blk_drewN ?_ _ | refine blk_drew ?_ | refine blk_alloc ?_ _)); refine blk_put (cs := #[.bool false, .bool false, .bool false, .bool false, .bool false, .bool false, .bool false, .bool false]) ?_ 7 _ rfl; (with_reducible repeat (first | refine blk_drewN ?_ _ | refine blk_drew ?_ | refine blk_alloc ?_ _)); refine blk_put (cs := #[.bool false, .bool false, .bool false, .bool false, .bool false, .bool false, .bool false, .bool false]) ?_ 6 _ rfl; (with_reducible repeat (first | refine blk_drewN ?_ _ | refine blk_drew ?_ | refine blk_alloc ?_ _)); refine blk_put (cs := #[.bool false, .bool false, .bool false, .bool false, .bool false, .bool false, .bool false, .bool false]) ?_ 5 _ rfl; (with_reducible repeat (first | refine blk_drewN ?_ _ | refine blk_drew ?_ | refine blk_alloc ?_ _)); refine blk_put (cs := #[.bool false, .bool false, .bool false, .bool false, .bool false, .bool false, .bool false, .bool false]) ?_ 4 _ rfl; (with_reducible repeat (first | refine blk_drewN ?_ _ | refine blk_drew ?_ | refine blk_alloc ?_ _)); refine blk_put (cs := #[.bool false, .bool false, .bool false, .bool false, .bool false, .bool false, .bool false, .bool false]) ?_ 3 _ rfl; (with_reducible repeat (first | refine blk_drewN ?_ _ | refine blk_drew ?_ | refine blk_alloc ?_ _)); refine blk_put (cs := #[.bool false, .bool false, .bool false, .bool false, .bool false, .bool false, .bool false, .bool false]) ?_ 2 _ rfl; (with_reducible repeat (first | refine blk_drewN ?_ _ | refine blk_drew ?_ | refine blk_alloc ?_ _)); refine blk_put (cs := #[.bool false, .bool false, .bool false, .bool false, .bool false, .bool false, .bool false, .bool false]) ?_ 1 _ rfl; (with_reducible repeat (first | refine blk_drewN ?_ _ | refine blk_drew ?_ | refine blk_alloc ?_ _)); refine blk_put (cs := #[.bool false, .bool false, .bool false, .bool false, .bool false, .bool false, .bool false, .bool false]) ?_ 0 _ rfl; (with_reducible repeat (first | refine blk_drewN ?_ _ | refine blk_drew ?_ | refine blk_alloc ?_ _)); exact BK101.out⟩, ⟨mB⟩⟩
  case round =>
    clear H'
    try clear c2
    try clear p2
    try clear hcz3_0
    try clear hcz3_1
    try clear hcz3_2
    try clear hcz3_3
    try clear hcz3_4
    try clear hcz3_5
    try clear hcz3_6
    try clear hcz3_7
    try clear hfz3_0
    try clear hfz3_1
    try clear hfz3_2
    try clear hfz3_3
    try clear hfz3_4
    try clear hfz3_5
    try clear hfz3_6
    try clear hfz3_7
    obtain ⟨x4_1, x102000_1, x102001_1, x102002_1, x102003_1, x102004_1, x102005_1, x102006_1, x102007_1, rfl, HA, HK1, BK101, HB⟩ := hrel
    cases gk with
    | zero => exact absurd HA.out (by simp [spec_l04Permutation.l0])
    | succ k1 =>
      have H := HA.out
      clear HA
      simp only [spec_l04Permutation.l0] at H
      have HC4 := Aside0.mk H
      clear H
      go_upto_region 3 with (fail)
      go_cut [14] (fun v14 wc => ∃ (kq : Nat) (x14_3 : Bool), v14 = .bool x14_3 ∧ Aside0 (spec_l04Permutation.j1 kq l0 x4_1 x14_3 x102000_1 x102001_1 x102002_1 x102003_1 x102004_1 x102005_1 x102006_1 x102007_1 = some r) ∧ Aside0 (kq ≤ k1) ∧ Aside0 (wc.heap[gb101]? = some (.cells #[.bool x102000_1, .bool x102001_1, .bool x102002_1, .bool x102003_1, .bool x102004_1, .bool x102005_1, .bool x102006_1, .bool x102007_1] 50 (0, 0))) ∧ Aside0 (Below w.heap.size w wc))
      case first =>
        have H := HC4.out
        clear HC4
        by_cases c5 : x4_1 < (l0.length : Int)
        · rw [if_pos c5] at H
          have c5b0 : decide (x4_1 < (l0.length : Int)) = true := decide_eq_true c5
          clear c5
          (first | rw [c5b0] | (simp only [i64_w, i32_w]; rw [c5b0]) | skip)
          have H' := Aside0.mk H
          clear H
          go_wp2
          go_meet
          case rel => exact ⟨_, (decide ((l0.length : Int) ≤ 8)), mF, H', ⟨by have := HK1.out; first | omega | exact Nat.le_refl _⟩, ⟨by (with_reducible repeat (first | refine blk_drewN ?_ _ | refine blk_drew ?_ | refine blk_alloc ?_ _)); exact BK101.out⟩, ⟨mB⟩⟩
        · rw [if_neg c5] at H
          have c5b0 : decide (x4_1 < (l0.length : Int)) = false := decide_eq_false c5
          clear c5
          (first | rw [c5b0] | (simp only [i64_w, i32_w]; rw [c5b0]) | skip)
          have H' := Aside0.mk H
          clear H
          go_wp2
          go_meet
          case rel => exact ⟨_, (false), mF, H', ⟨by have := HK1.out; first | omega | exact Nat.le_refl _⟩, ⟨by (with_reducible repeat (first | refine blk_drewN ?_ _ | refine blk_drew ?_ | refine blk_alloc ?_ _)); exact BK101.out⟩, ⟨mB⟩⟩
      case rest =>
        clear HC4
        try clear c2
        try clear p2
        try clear c5
        try clear c5b0
        try clear hcz3_0
        try clear hcz3_1
        try clear hcz3_2
        try clear hcz3_3
        try clear hcz3_4
        try clear hcz3_5
        try clear hcz3_6
        try clear hcz3_7
        try clear hfz3_0
        try clear hfz3_1
        try clear hfz3_2
        try clear hfz3_3
        try clear hfz3_4
        try clear hfz3_5
        try clear hfz3_6
        try clear hfz3_7
        try clear p2
        obtain ⟨kq, x14_3, rfl, HA, HJ3, BK101, HB⟩ := hcut
        cases kq with
        | zero => exact absurd HA.out (by simp [spec_l04Permutation.j1])
        | succ kj3 =>
          have H := HA.out
          clear HA
          simp only [spec_l04Permutation.j1] at H
          by_cases c6 : x14_3 = true
          · subst c6
            have H1 : (if 0 ≤ x4_1 then (if x4_1 < (l0.length : Int) then ((spec_l01In.f (rd l0 x4_1) 0 (wrap64 ((l0.length : Int) - 1))).bind fun t103 => (if t103 = true then (if rd l0 x4_1 = 0 then (if x102000_1 = true then (some false) else (spec_l04Permutation.l0 kj3 l0 (wrap64 (x4_1 + 1)) true x102001_1 x102002_1 x102003_1 x102004_1 x102005_1 x102006_1 x102007_1)) else (if rd l0 x4_1 = 1 then (if x102001_1 = true then (some false) else (spec_l04Permutation.l0 kj3 l0 (wrap64 (x4_1 + 1)) x102000_1 true x102002_1 x102003_1 x102004_1 x102005_1 x102006_1 x102007_1)) else (if rd l0 x4_1 = 2 then (if x102002_1 = true then (some false) else (spec_l04Permutation.l0 kj3 l0 (wrap64 (x4_1 + 1)) x102000_1 x102001_1 true x102003_1 x102004_1 x102005_1 x102006_1 x102007_1)) else (if rd l0 x4_1 = 3 then (if x102003_1 = true then (some false) else (spec_l04Permutation.l0 kj3 l0 (wrap64 (x4_1 + 1)) x102000_1 x102001_1 x102002_1 true x102004_1 x102005_1 x102006_1 x102007_1)) else (if rd l0 x4_1 = 4 then (if x102004_1 = true then (some false) else (spec_l04Permutation.l0 kj3 l0 (wrap64 (x4_1 + 1)) x102000_1 x102001_1 x102002_1 x102003_1 true x102005_1 x102006_1 x102007_1)) else (if rd l0 x4_1 = 5 then (if x102005_1 = true then (some false) else (spec_l04Permutation.l0 kj3 l0 (wrap64 (x4_1 + 1)) x102000_1 x102001_1 x102002_1 x102003_1 x102004_1 true x102006_1 x102007_1)) else (if rd l0 x4_1 = 6 then (if x102006_1 = true then (some false) else (spec_l04Permutation.l0 kj3 l0 (wrap64 (x4_1 + 1)) x102000_1 x102001_1 x102002_1 x102003_1 x102004_1 x102005_1 true x102007_1)) else (if rd l0 x4_1 = 7 then (if x102007_1 = true then (some false) else (spec_l04Permutation.l0 kj3 l0 (wrap64 (x4_1 + 1)) x102000_1 x102001_1 x102002_1 x102003_1 x102004_1 x102005_1 x102006_1 true)) else (none))))))))) else (some false))) else (none)) else (none)) = some r := by rw [if_pos rfl] at H; exact H
            clear H
            have H := H1
            clear H1
            by_cases c7 : 0 ≤ x4_1
            · rw [if_pos c7] at H
              have c7b0 : decide (0 ≤ x4_1) = true := decide_eq_true c7
              clear c7
              by_cases c8 : x4_1 < (l0.length : Int)
              · rw [if_pos c8] at H
                have c8b0 : decide (x4_1 < (l0.length : Int)) = true := decide_eq_true c8
                clear c8
                replace H := Option.bind_eq_some_iff.mp H
                obtain ⟨t103, A90, H⟩ := H
                replace H : (if t103 = true then (if rd l0 x4_1 = 0 then (if x102000_1 = true then (some false) else (spec_l04Permutation.l0 kj3 l0 (wrap64 (x4_1 + 1)) true x102001_1 x102002_1 x102003_1 x102004_1 x102005_1 x102006_1 x102007_1)) else (if rd l0 x4_1 = 1 then (if x102001_1 = true then (some false) else (spec_l04Permutation.l0 kj3 l0 (wrap64 (x4_1 + 1)) x102000_1 true x102002_1 x102003_1 x102004_1 x102005_1 x102006_1 x102007_1)) else (if rd l0 x4_1 = 2 then (if x102002_1 = true then (some false) else (spec_l04Permutation.l0 kj3 l0 (wrap64 (x4_1 + 1)) x102000_1 x102001_1 true x102003_1 x102004_1 x102005_1 x102006_1 x102007_1)) else (if rd l0 x4_1 = 3 then (if x102003_1 = true then (some false) else (spec_l04Permutation.l0 kj3 l0 (wrap64 (x4_1 + 1)) x102000_1 x102001_1 x102002_1 true x102004_1 x102005_1 x102006_1 x102007_1)) else (if rd l0 x4_1 = 4 then (if x102004_1 = true then (some false) else (spec_l04Permutation.l0 kj3 l0 (wrap64 (x4_1 + 1)) x102000_1 x102001_1 x102002_1 x102003_1 true x102005_1 x102006_1 x102007_1)) else (if rd l0 x4_1 = 5 then (if x102005_1 = true then (some false) else (spec_l04Permutation.l0 kj3 l0 (wrap64 (x4_1 + 1)) x102000_1 x102001_1 x102002_1 x102003_1 x102004_1 true x102006_1 x102007_1)) else (if rd l0 x4_1 = 6 then (if x102006_1 = true then (some false) else (spec_l04Permutation.l0 kj3 l0 (wrap64 (x4_1 + 1)) x102000_1 x102001_1 x102002_1 x102003_1 x102004_1 x102005_1 true x102007_1)) else (if rd l0 x4_1 = 7 then (if x102007_1 = true then (some false) else (spec_l04Permutation.l0 kj3 l0 (wrap64 (x4_1 + 1)) x102000_1 x102001_1 x102002_1 x102003_1 x102004_1 x102005_1 x102006_1 true)) else (none))))))))) else (some false)) = some r := H
                have A9 := Aside0.mk A90
                clear A90
                by_cases c10 : t103 = true
                · subst c10
                  have H1 : (if rd l0 x4_1 = 0 then (if x102000_1 = true then (some false) else (spec_l04Permutation.l0 kj3 l0 (wrap64 (x4_1 + 1)) true x102001_1 x102002_1 x102003_1 x102004_1 x102005_1 x102006_1 x102007_1)) else (if rd l0 x4_1 = 1 then (if x102001_1 = true then (some false) else (spec_l04Permutation.l0 kj3 l0 (wrap64 (x4_1 + 1)) x102000_1 true x102002_1 x102003_1 x102004_1 x102005_1 x102006_1 x102007_1)) else (if rd l0 x4_1 = 2 then (if x102002_1 = true then (some false) else (spec_l04Permutation.l0 kj3 l0 (wrap64 (x4_1 + 1)) x102000_1 x102001_1 true x102003_1 x102004_1 x102005_1 x102006_1 x102007_1)) else (if rd l0 x4_1 = 3 then (if x102003_1 = true then (some false) else (spec_l04Permutation.l0 kj3 l0 (wrap64 (x4_1 + 1)) x102000_1 x102001_1 x102002_1 true x102004_1 x102005_1 x102006_1 x102007_1)) else (if rd l0 x4_1 = 4 then (if x102004_1 = true then (some false) else (spec_l04Permutation.l0 kj3 l0 (wrap64 (x4_1 + 1)) x102000_1 x102001_1 x102002_1 x102003_1 true x102005_1 x102006_1 x102007_1)) else (if rd l0 x4_1 = 5 then (if x102005_1 = true then (some false) else (spec_l04Permutation.l0 kj3 l0 (wrap64 (x4_1 + 1)) x102000_1 x102001_1 x102002_1 x102003_1 x102004_1 true x102006_1 x102007_1)) else (if rd l0 x4_1 = 6 then (if x102006_1 = true then (some false) else (spec_l04Permutation.l0 kj3 l0 (wrap64 (x4_1 + 1)) x102000_1 x102001_1 x102002_1 x102003_1 x102004_1 x102005_1 true x102007_1)) else (if rd l0 x4_1 = 7 then (if x102007_1 = true then (some false) else (spec_l04Permutation.l0 kj3 l0 (wrap64 (x4_1 + 1)) x102000_1 x102001_1 x102002_1 x102003_1 x102004_1 x102005_1 x102006_1 true)) else (none))))))))) = some r := by rw [if_pos rfl] at H; exact H
                  clear H
                  have H := H1
                  clear H1
                  obtain ⟨ji11, hji11⟩ : ∃ j_ : Int, (rd l0 x4_1) = j_ := ⟨_, rfl⟩
                  replace H : (if ji11 = 0 then (if x102000_1 = true then (some false) else (spec_l04Permutation.l0 kj3 l0 (wrap64 (x4_1 + 1)) true x102001_1 x102002_1 x102003_1 x102004_1 x102005_1 x102006_1 x102007_1)) else (if ji11 = 1 then (if x102001_1 = true then (some false) else (spec_l04Permutation.l0 kj3 l0 (wrap64 (x4_1 + 1)) x102000_1 true x102002_1 x102003_1 x102004_1 x102005_1 x102006_1 x102007_1)) else (if ji11 = 2 then (if x102002_1 = true then (some false) else (spec_l04Permutation.l0 kj3 l0 (wrap64 (x4_1 + 1)) x102000_1 x102001_1 true x102003_1 x102004_1 x102005_1 x102006_1 x102007_1)) else (if ji11 = 3 then (if x102003_1 = true then (some false) else (spec_l04Permutation.l0 kj3 l0 (wrap64 (x4_1 + 1)) x102000_1 x102001_1 x102002_1 true x102004_1 x102005_1 x102006_1 x102007_1)) else (if ji11 = 4 then (if x102004_1 = true then (some false) else (spec_l04Permutation.l0 kj3 l0 (wrap64 (x4_1 + 1)) x102000_1 x102001_1 x102002_1 x102003_1 true x102005_1 x102006_1 x102007_1)) else (if ji11 = 5 then (if x102005_1 = true then (some false) else (spec_l04Permutation.l0 kj3 l0 (wrap64 (x4_1 + 1)) x102000_1 x102001_1 x102002_1 x102003_1 x102004_1 true x102006_1 x102007_1)) else (if ji11 = 6 then (if x102006_1 = true then (some false) else (spec_l04Permutation.l0 kj3 l0 (wrap64 (x4_1 + 1)) x102000_1 x102001_1 x102002_1 x102003_1 x102004_1 x102005_1 true x102007_1)) else (if ji11 = 7 then (if x102007_1 = true then (some false) else (spec_l04Permutation.l0 kj3 l0 (wrap64 (x4_1 + 1)) x102000_1 x102001_1 x102002_1 x102003_1 x102004_1 x102005_1 x102006_1 true)) else (none))))))))) = some r := by first | (rw [hji11] at H; exact H) | (simp only [hji11] at H ⊢; exact H)
                  (try rw [hji11] at A9)
                  by_cases c12 : ji11 = 0
                  · subst c12
                    have H1 : (if x102000_1 = true then (some false) else (spec_l04Permutation.l0 kj3 l0 (wrap64 (x4_1 + 1)) true x102001_1 x102002_1 x102003_1 x102004_1 x102005_1 x102006_1 x102007_1)) = some r := by rw [if_pos rfl] at H; exact H
                    clear H
                    have H := H1
                    clear H1
                    by_cases c13 : x102000_1 = true
                    · subst c13
                      have H1 : (some false) = some r := by rw [if_pos rfl] at H; exact H
                      clear H
                      have H := H1
                      clear H1
                      obtain rfl := Option.some.inj H
                      have p102 : 0 ≤ (x4_1 : Int) := of_decide_eq_true mS
                      have q102 : x4_1 < (l0.length : Int) := of_decide_eq_true mS
                      obtain ⟨ad102, e102, hx102_0⟩ := Kd.at_int HR0.out x4_1 p102 q102
                      cases e102
                      replace hx102_0 := cB HB hx102_0
                      replace p102 := eq_true p102
                      replace q102 := eq_true q102
                      go_wp2_with (first | ((with_reducible refine gate_callee (f := 28) rfl ?_); refine goL (some 24) Try.func28 #[.int .i64 0, .int .i64 0, .int .i64 (wrap64 ((l0.length : Int) - 1))] (h := ?_); (with_reducible refine (spec_l01In.calls 0 0 (wrap64 ((l0.length : Int) - 1)) true _ A9.out).mono ?_); rintro e w' ⟨rfl, ⟨nd, rfl⟩⟩; refine ⟨_, rfl, ?_⟩; have p104 : 0 ≤ (x4_1 : Int) := of_decide_eq_true mS; have q104 : x4_1 < (l0.length : Int) := of_decide_eq_true mS; obtain ⟨ad104, e104, hx104_0⟩ := Kd.at_int HR0.out x4_1 p104 q104; obtain rfl : ad102 = ad104 := (by injection e104); replace hx104_0 := cB HB hx104_0; replace p104 := eq_true p104; replace q104 := eq_true q104; have hcz14_0 : wc.cell? ⟨gb101, 0, none⟩ = some (.bool true) := (blk_cell BK101.out 0).trans rfl; have hcz14_1 : wc.cell? ⟨gb101, 1, none⟩ = some (.bool x102001_1) := (blk_cell BK101.out 1).trans rfl; have hcz14_2 : wc.cell? ⟨gb101, 2, none⟩ = some (.bool x102002_1) := (blk_cell BK101.out 2).trans rfl; have hcz14_3 : wc.cell? ⟨gb101, 3, none⟩ = some (.bool x102003_1) := (blk_cell BK101.out 3).trans rfl; have hcz14_4 : wc.cell? ⟨gb101, 4, none⟩ = some (.bool x102004_1) := (blk_cell BK101.out 4).trans rfl; have hcz14_5 : wc.cell? ⟨gb101, 5, none⟩ = some (.bool x102005_1) := (blk_cell BK101.out 5).trans rfl; have hcz14_6 : wc.cell? ⟨gb101, 6, none⟩ = some (.bool x102006_1) := (blk_cell BK101.out 6).trans rfl; have hcz14_7 : wc.cell? ⟨gb101, 7, none⟩ = some (.bool x102007_1) := (blk_cell BK101.out 7).trans rfl; have hfz14_0 := blk_frozen BK101.out 0; have hfz14_1 := blk_frozen BK101.out 1; have hfz14_2 := blk_frozen BK101.out 2; have hfz14_3 := blk_frozen BK101.out 3; have hfz14_4 := blk_frozen BK101.out 4; have hfz14_5 := blk_frozen BK101.out 5; have hfz14_6 := blk_frozen BK101.out 6; have hfz14_7 := blk_frozen BK101.out 7))
                      go_ret
                      exact ⟨by first | rfl | (simp [errW_none, errW_some] <;> rfl) | (simp only [← hji11]; first | rfl | (simp [errW_none, errW_some] <;> rfl)) | (simp [*, errW_none, errW_some] <;> rfl), mB⟩
                    · replace c13 := Bool.eq_false_iff.mpr c13
                      subst c13
                      have H1 : (spec_l04Permutation.l0 kj3 l0 (wrap64 (x4_1 + 1)) true x102001_1 x102002_1 x102003_1 x102004_1 x102005_1 x102006_1 x102007_1) = some r := by rw [if_neg (show ¬ (false = true) by decide)] at H; exact H
                      clear H
                      have H := H1
                      clear H1
                      have H' := Aside0.mk H
                      clear H
                      have p102 : 0 ≤ (x4_1 : Int) := of_decide_eq_true mS
                      have q102 : x4_1 < (l0.length : Int) := of_decide_eq_true mS
                      obtain ⟨ad102, e102, hx102_0⟩ := Kd.at_int HR0.out x4_1 p102 q102
                      cases e102
                      replace hx102_0 := cB HB hx102_0
                      replace p102 := eq_true p102
                      replace q102 := eq_true q102
                      go_wp2_with (first | ((with_reducible refine gate_callee (f := 28) rfl ?_); refine goL (some 24) Try.func28 #[.int .i64 0, .int .i64 0, .int .i64 (wrap64 ((l0.length : Int) - 1))] (h := ?_); (with_reducible refine (spec_l01In.calls 0 0 (wrap64 ((l0.length : Int) - 1)) true _ A9.out).mono ?_); rintro e w' ⟨rfl, ⟨nd, rfl⟩⟩; refine ⟨_, rfl, ?_⟩; (try (rw [drewN_self wc]; generalize hq_ : World.drewN wc _ = wc; have n0_ : Aside0 (wc.heap[gb101]? = some (.cells #[.bool false, .bool x102001_1, .bool x102002_1, .bool x102003_1, .bool x102004_1, .bool x102005_1, .bool x102006_1, .bool x102007_1] 50 (0, 0))) := ⟨by rw [← hq_]; exact (mk BK101.out)⟩; have n1_ : Aside0 (Below w.heap.size w wc) := ⟨by rw [← hq_]; exact mB⟩; clear BK101 HB hq_; have BK101 := n0_; have HB := n1_; clear n0_ n1_)); have p104 : 0 ≤ (x4_1 : Int) := of_decide_eq_true mS; have q104 : x4_1 < (l0.length : Int) := of_decide_eq_true mS; obtain ⟨ad104, e104, hx104_0⟩ := Kd.at_int HR0.out x4_1 p104 q104; obtain rfl : ad102 = ad104 := (by injection e104); replace hx104_0 := cB HB hx104_0; replace p104 := eq_true p104; replace q104 := eq_true q104; have hcz15_0 : wc.cell? ⟨gb101, 0, none⟩ = some (.bool false) := (blk_cell BK101.out 0).trans rfl; have hcz15_1 : wc.cell? ⟨gb101, 1, none⟩ = some (.bool x102001_1) := (blk_cell BK101.out 1).trans rfl; have hcz15_2 : wc.cell? ⟨gb101, 2, none⟩ = some (.bool x102002_1) := (blk_cell BK101.out 2).trans rfl; have hcz15_3 : wc.cell? ⟨gb101, 3, none⟩ = some (.bool x102003_1) := (blk_cell BK101.out 3).trans rfl; have hcz15_4 : wc.cell? ⟨gb101, 4, none⟩ = some (.bool x102004_1) := (blk_cell BK101.out 4).trans rfl; have hcz15_5 : wc.cell? ⟨gb101, 5, none⟩ = some (.bool x102005_1) := (blk_cell BK101.out 5).trans rfl; have hcz15_6 : wc.cell? ⟨gb101, 6, none⟩ = some (.bool x102006_1) := (blk_cell BK101.out 6).trans rfl; have hcz15_7 : wc.cell? ⟨gb101, 7, none⟩ = some (.bool x102007_1) := (blk_cell BK101.out 7).trans rfl; have hfz15_0 := blk_frozen BK101.out 0; have hfz15_1 := blk_frozen BK101.out 1; have hfz15_2 := blk_frozen BK101.out 2; have hfz15_3 := blk_frozen BK101.out 3; have hfz15_4 := blk_frozen BK101.out 4; have hfz15_5 := blk_frozen BK101.out 5; have hfz15_6 := blk_frozen BK101.out 6; have hfz15_7 := blk_frozen BK101.out 7; have p105 : 0 ≤ (x4_1 : Int) := of_decide_eq_true mS; have q105 : x4_1 < (l0.length : Int) := of_decide_eq_true mS; obtain ⟨ad105, e105, hx105_0⟩ := Kd.at_int HR0.out x4_1 p105 q105; obtain rfl : ad102 = ad105 := (by injection e105); replace hx105_0 := cB HB hx105_0; replace p105 := eq_true p105; replace q105 := eq_true q105))
                      go_roundg kj3
                      case measure => have := HK1.out; have := HJ3.out; omega
                      case rel => exact ⟨(wrap64 (x4_1 + 1)), (true), (x102001_1), (x102002_1), (x102003_1), (x102004_1), (x102005_1), (x102006_1), (x102007_1), mF, H', ⟨by have := HK1.out; have := HJ3.out; omega⟩, ⟨by (with_reducible repeat (first | refine blk_drewN ?_ _ | refine blk_drew ?_ | refine blk_alloc ?_ _)); refine blk_put (cs := #[.bool false, .bool x102001_1, .bool x102002_1, .bool x102003_1, .bool x102004_1, .bool x102005_1, .bool x102006_1, .bool x102007_1]) ?_ 0 _ rfl; (with_reducible repeat (first | refine blk_drewN ?_ _ | refine blk_drew ?_ | refine blk_alloc ?_ _)); exact BK101.out⟩, ⟨mB⟩⟩
                  · rw [if_neg c12] at H
                    by_cases c16 : ji11 = 1
                    · subst c16
                      have H1 : (if x102001_1 = true then (some false) else (spec_l04Permutation.l0 kj3 l0 (wrap64 (x4_1 + 1)) x102000_1 true x102002_1 x102003_1 x102004_1 x102005_1 x102006_1 x102007_1)) = some r := by rw [if_pos rfl] at H; exact H
                      clear H
                      have H := H1
                      clear H1
                      by_cases c17 : x102001_1 = true
                      · subst c17
                        have H1 : (some false) = some r := by rw [if_pos rfl] at H; exact H
                        clear H
                        have H := H1
                        clear H1
                        obtain rfl := Option.some.inj H
                        have p102 : 0 ≤ (x4_1 : Int) := of_decide_eq_true mS
                        have q102 : x4_1 < (l0.length : Int) := of_decide_eq_true mS
                        obtain ⟨ad102, e102, hx102_0⟩ := Kd.at_int HR0.out x4_1 p102 q102
                        cases e102
                        replace hx102_0 := cB HB hx102_0
                        replace p102 := eq_true p102
                        replace q102 := eq_true q102
                        go_wp2_with (first | ((with_reducible refine gate_callee (f := 28) rfl ?_); refine goL (some 24) Try.func28 #[.int .i64 1, .int .i64 0, .int .i64 (wrap64 ((l0.length : Int) - 1))] (h := ?_); (with_reducible refine (spec_l01In.calls 1 0 (wrap64 ((l0.length : Int) - 1)) true _ A9.out).mono ?_); rintro e w' ⟨rfl, ⟨nd, rfl⟩⟩; refine ⟨_, rfl, ?_⟩; have p104 : 0 ≤ (x4_1 : Int) := of_decide_eq_true mS; have q104 : x4_1 < (l0.length : Int) := of_decide_eq_true mS; obtain ⟨ad104, e104, hx104_0⟩ := Kd.at_int HR0.out x4_1 p104 q104; obtain rfl : ad102 = ad104 := (by injection e104); replace hx104_0 := cB HB hx104_0; replace p104 := eq_true p104; replace q104 := eq_true q104; have hcz18_0 : wc.cell? ⟨gb101, 0, none⟩ = some (.bool x102000_1) := (blk_cell BK101.out 0).trans rfl; have hcz18_1 : wc.cell? ⟨gb101, 1, none⟩ = some (.bool true) := (blk_cell BK101.out 1).trans rfl; have hcz18_2 : wc.cell? ⟨gb101, 2, none⟩ = some (.bool x102002_1) := (blk_cell BK101.out 2).trans rfl; have hcz18_3 : wc.cell? ⟨gb101, 3, none⟩ = some (.bool x102003_1) := (blk_cell BK101.out 3).trans rfl; have hcz18_4 : wc.cell? ⟨gb101, 4, none⟩ = some (.bool x102004_1) := (blk_cell BK101.out 4).trans rfl; have hcz18_5 : wc.cell? ⟨gb101, 5, none⟩ = some (.bool x102005_1) := (blk_cell BK101.out 5).trans rfl; have hcz18_6 : wc.cell? ⟨gb101, 6, none⟩ = some (.bool x102006_1) := (blk_cell BK101.out 6).trans rfl; have hcz18_7 : wc.cell? ⟨gb101, 7, none⟩ = some (.bool x102007_1) := (blk_cell BK101.out 7).trans rfl; have hfz18_0 := blk_frozen BK101.out 0; have hfz18_1 := blk_frozen BK101.out 1; have hfz18_2 := blk_frozen BK101.out 2; have hfz18_3 := blk_frozen BK101.out 3; have hfz18_4 := blk_frozen BK101.out 4; have hfz18_5 := blk_frozen BK101.out 5; have hfz18_6 := blk_frozen BK101.out 6; have hfz18_7 := blk_frozen BK101.out 7))
                        go_ret
                        exact ⟨by first | rfl | (simp [errW_none, errW_some] <;> rfl) | (simp only [← hji11]; first | rfl | (simp [errW_none, errW_some] <;> rfl)) | (simp [*, errW_none, errW_some] <;> rfl), mB⟩
                      · replace c17 := Bool.eq_false_iff.mpr c17
                        subst c17
                        have H1 : (spec_l04Permutation.l0 kj3 l0 (wrap64 (x4_1 + 1)) x102000_1 true x102002_1 x102003_1 x102004_1 x102005_1 x102006_1 x102007_1) = some r := by rw [if_neg (show ¬ (false = true) by decide)] at H; exact H
                        clear H
                        have H := H1
                        clear H1
                        have H' := Aside0.mk H
                        clear H
                        have p102 : 0 ≤ (x4_1 : Int) := of_decide_eq_true mS
                        have q102 : x4_1 < (l0.length : Int) := of_decide_eq_true mS
                        obtain ⟨ad102, e102, hx102_0⟩ := Kd.at_int HR0.out x4_1 p102 q102
                        cases e102
                        replace hx102_0 := cB HB hx102_0
                        replace p102 := eq_true p102
                        replace q102 := eq_true q102
                        go_wp2_with (first | ((with_reducible refine gate_callee (f := 28) rfl ?_); refine goL (some 24) Try.func28 #[.int .i64 1, .int .i64 0, .int .i64 (wrap64 ((l0.length : Int) - 1))] (h := ?_); (with_reducible refine (spec_l01In.calls 1 0 (wrap64 ((l0.length : Int) - 1)) true _ A9.out).mono ?_); rintro e w' ⟨rfl, ⟨nd, rfl⟩⟩; refine ⟨_, rfl, ?_⟩; (try (rw [drewN_self wc]; generalize hq_ : World.drewN wc _ = wc; have n0_ : Aside0 (wc.heap[gb101]? = some (.cells #[.bool x102000_1, .bool false, .bool x102002_1, .bool x102003_1, .bool x102004_1, .bool x102005_1, .bool x102006_1, .bool x102007_1] 50 (0, 0))) := ⟨by rw [← hq_]; exact (mk BK101.out)⟩; have n1_ : Aside0 (Below w.heap.size w wc) := ⟨by rw [← hq_]; exact mB⟩; clear BK101 HB hq_; have BK101 := n0_; have HB := n1_; clear n0_ n1_)); have p104 : 0 ≤ (x4_1 : Int) := of_decide_eq_true mS; have q104 : x4_1 < (l0.length : Int) := of_decide_eq_true mS; obtain ⟨ad104, e104, hx104_0⟩ := Kd.at_int HR0.out x4_1 p104 q104; obtain rfl : ad102 = ad104 := (by injection e104); replace hx104_0 := cB HB hx104_0; replace p104 := eq_true p104; replace q104 := eq_true q104; have hcz19_0 : wc.cell? ⟨gb101, 0, none⟩ = some (.bool x102000_1) := (blk_cell BK101.out 0).trans rfl; have hcz19_1 : wc.cell? ⟨gb101, 1, none⟩ = some (.bool false) := (blk_cell BK101.out 1).trans rfl; have hcz19_2 : wc.cell? ⟨gb101, 2, none⟩ = some (.bool x102002_1) := (blk_cell BK101.out 2).trans rfl; have hcz19_3 : wc.cell? ⟨gb101, 3, none⟩ = some (.bool x102003_1) := (blk_cell BK101.out 3).trans rfl; have hcz19_4 : wc.cell? ⟨gb101, 4, none⟩ = some (.bool x102004_1) := (blk_cell BK101.out 4).trans rfl; have hcz19_5 : wc.cell? ⟨gb101, 5, none⟩ = some (.bool x102005_1) := (blk_cell BK101.out 5).trans rfl; have hcz19_6 : wc.cell? ⟨gb101, 6, none⟩ = some (.bool x102006_1) := (blk_cell BK101.out 6).trans rfl; have hcz19_7 : wc.cell? ⟨gb101, 7, none⟩ = some (.bool x102007_1) := (blk_cell BK101.out 7).trans rfl; have hfz19_0 := blk_frozen BK101.out 0; have hfz19_1 := blk_frozen BK101.out 1; have hfz19_2 := blk_frozen BK101.out 2; have hfz19_3 := blk_frozen BK101.out 3; have hfz19_4 := blk_frozen BK101.out 4; have hfz19_5 := blk_frozen BK101.out 5; have hfz19_6 := blk_frozen BK101.out 6; have hfz19_7 := blk_frozen BK101.out 7; have p106 : 0 ≤ (x4_1 : Int) := of_decide_eq_true mS; have q106 : x4_1 < (l0.length : Int) := of_decide_eq_true mS; obtain ⟨ad106, e106, hx106_0⟩ := Kd.at_int HR0.out x4_1 p106 q106; obtain rfl : ad102 = ad106 := (by injection e106); replace hx106_0 := cB HB hx106_0; replace p106 := eq_true p106; replace q106 := eq_true q106))
                        go_roundg kj3
                        case measure => have := HK1.out; have := HJ3.out; omega
                        case rel => exact ⟨(wrap64 (x4_1 + 1)), (x102000_1), (true), (x102002_1), (x102003_1), (x102004_1), (x102005_1), (x102006_1), (x102007_1), mF, H', ⟨by have := HK1.out; have := HJ3.out; omega⟩, ⟨by (with_reducible repeat (first | refine blk_drewN ?_ _ | refine blk_drew ?_ | refine blk_alloc ?_ _)); refine blk_put (cs := #[.bool x102000_1, .bool false, .bool x102002_1, .bool x102003_1, .bool x102004_1, .bool x102005_1, .bool x102006_1, .bool x102007_1]) ?_ 1 _ rfl; (with_reducible repeat (first | refine blk_drewN ?_ _ | refine blk_drew ?_ | refine blk_alloc ?_ _)); exact BK101.out⟩, ⟨mB⟩⟩
                    · rw [if_neg c16] at H
                      by_cases c20 : ji11 = 2
                      · subst c20
                        have H1 : (if x102002_1 = true then (some false) else (spec_l04Permutation.l0 kj3 l0 (wrap64 (x4_1 + 1)) x102000_1 x102001_1 true x102003_1 x102004_1 x102005_1 x102006_1 x102007_1)) = some r := by rw [if_pos rfl] at H; exact H
                        clear H
                        have H := H1
                        clear H1
                        by_cases c21 : x102002_1 = true
                        · subst c21
                          have H1 : (some false) = some r := by rw [if_pos rfl] at H; exact H
                          clear H
                          have H := H1
                          clear H1
                          obtain rfl := Option.some.inj H
                          have p102 : 0 ≤ (x4_1 : Int) := of_decide_eq_true mS
                          have q102 : x4_1 < (l0.length : Int) := of_decide_eq_true mS
                          obtain ⟨ad102, e102, hx102_0⟩ := Kd.at_int HR0.out x4_1 p102 q102
                          cases e102
                          replace hx102_0 := cB HB hx102_0
                          replace p102 := eq_true p102
                          replace q102 := eq_true q102
                          go_wp2_with (first | ((with_reducible refine gate_callee (f := 28) rfl ?_); refine goL (some 24) Try.func28 #[.int .i64 2, .int .i64 0, .int .i64 (wrap64 ((l0.length : Int) - 1))] (h := ?_); (with_reducible refine (spec_l01In.calls 2 0 (wrap64 ((l0.length : Int) - 1)) true _ A9.out).mono ?_); rintro e w' ⟨rfl, ⟨nd, rfl⟩⟩; refine ⟨_, rfl, ?_⟩; have p104 : 0 ≤ (x4_1 : Int) := of_decide_eq_true mS; have q104 : x4_1 < (l0.length : Int) := of_decide_eq_true mS; obtain ⟨ad104, e104, hx104_0⟩ := Kd.at_int HR0.out x4_1 p104 q104; obtain rfl : ad102 = ad104 := (by injection e104); replace hx104_0 := cB HB hx104_0; replace p104 := eq_true p104; replace q104 := eq_true q104; have hcz22_0 : wc.cell? ⟨gb101, 0, none⟩ = some (.bool x102000_1) := (blk_cell BK101.out 0).trans rfl; have hcz22_1 : wc.cell? ⟨gb101, 1, none⟩ = some (.bool x102001_1) := (blk_cell BK101.out 1).trans rfl; have hcz22_2 : wc.cell? ⟨gb101, 2, none⟩ = some (.bool true) := (blk_cell BK101.out 2).trans rfl; have hcz22_3 : wc.cell? ⟨gb101, 3, none⟩ = some (.bool x102003_1) := (blk_cell BK101.out 3).trans rfl; have hcz22_4 : wc.cell? ⟨gb101, 4, none⟩ = some (.bool x102004_1) := (blk_cell BK101.out 4).trans rfl; have hcz22_5 : wc.cell? ⟨gb101, 5, none⟩ = some (.bool x102005_1) := (blk_cell BK101.out 5).trans rfl; have hcz22_6 : wc.cell? ⟨gb101, 6, none⟩ = some (.bool x102006_1) := (blk_cell BK101.out 6).trans rfl; have hcz22_7 : wc.cell? ⟨gb101, 7, none⟩ = some (.bool x102007_1) := (blk_cell BK101.out 7).trans rfl; have hfz22_0 := blk_frozen BK101.out 0; have hfz22_1 := blk_frozen BK101.out 1; have hfz22_2 := blk_frozen BK101.out 2; have hfz22_3 := blk_frozen BK101.out 3; have hfz22_4 := blk_frozen BK101.out 4; have hfz22_5 := blk_frozen BK101.out 5; have hfz22_6 := blk_frozen BK101.out 6; have hfz22_7 := blk_frozen BK101.out 7))
                          go_ret
                          exact ⟨by first | rfl | (simp [errW_none, errW_some] <;> rfl) | (simp only [← hji11]; first | rfl | (simp [errW_none, errW_some] <;> rfl)) | (simp [*, errW_none, errW_some] <;> rfl), mB⟩
                        · replace c21 := Bool.eq_false_iff.mpr c21
                          subst c21
                          have H1 : (spec_l04Permutation.l0 kj3 l0 (wrap64 (x4_1 + 1)) x102000_1 x102001_1 true x102003_1 x102004_1 x102005_1 x102006_1 x102007_1) = some r := by rw [if_neg (show ¬ (false = true) by decide)] at H; exact H
                          clear H
                          have H := H1
                          clear H1
                          have H' := Aside0.mk H
                          clear H
                          have p102 : 0 ≤ (x4_1 : Int) := of_decide_eq_true mS
                          have q102 : x4_1 < (l0.length : Int) := of_decide_eq_true mS
                          obtain ⟨ad102, e102, hx102_0⟩ := Kd.at_int HR0.out x4_1 p102 q102
                          cases e102
                          replace hx102_0 := cB HB hx102_0
                          replace p102 := eq_true p102
                          replace q102 := eq_true q102
                          go_wp2_with (first | ((with_reducible refine gate_callee (f := 28) rfl ?_); refine goL (some 24) Try.func28 #[.int .i64 2, .int .i64 0, .int .i64 (wrap64 ((l0.length : Int) - 1))] (h := ?_); (with_reducible refine (spec_l01In.calls 2 0 (wrap64 ((l0.length : Int) - 1)) true _ A9.out).mono ?_); rintro e w' ⟨rfl, ⟨nd, rfl⟩⟩; refine ⟨_, rfl, ?_⟩; (try (rw [drewN_self wc]; generalize hq_ : World.drewN wc _ = wc; have n0_ : Aside0 (wc.heap[gb101]? = some (.cells #[.bool x102000_1, .bool x102001_1, .bool false, .bool x102003_1, .bool x102004_1, .bool x102005_1, .bool x102006_1, .bool x102007_1] 50 (0, 0))) := ⟨by rw [← hq_]; exact (mk BK101.out)⟩; have n1_ : Aside0 (Below w.heap.size w wc) := ⟨by rw [← hq_]; exact mB⟩; clear BK101 HB hq_; have BK101 := n0_; have HB := n1_; clear n0_ n1_)); have p104 : 0 ≤ (x4_1 : Int) := of_decide_eq_true mS; have q104 : x4_1 < (l0.length : Int) := of_decide_eq_true mS; obtain ⟨ad104, e104, hx104_0⟩ := Kd.at_int HR0.out x4_1 p104 q104; obtain rfl : ad102 = ad104 := (by injection e104); replace hx104_0 := cB HB hx104_0; replace p104 := eq_true p104; replace q104 := eq_true q104; have hcz23_0 : wc.cell? ⟨gb101, 0, none⟩ = some (.bool x102000_1) := (blk_cell BK101.out 0).trans rfl; have hcz23_1 : wc.cell? ⟨gb101, 1, none⟩ = some (.bool x102001_1) := (blk_cell BK101.out 1).trans rfl; have hcz23_2 : wc.cell? ⟨gb101, 2, none⟩ = some (.bool false) := (blk_cell BK101.out 2).trans rfl; have hcz23_3 : wc.cell? ⟨gb101, 3, none⟩ = some (.bool x102003_1) := (blk_cell BK101.out 3).trans rfl; have hcz23_4 : wc.cell? ⟨gb101, 4, none⟩ = some (.bool x102004_1) := (blk_cell BK101.out 4).trans rfl; have hcz23_5 : wc.cell? ⟨gb101, 5, none⟩ = some (.bool x102005_1) := (blk_cell BK101.out 5).trans rfl; have hcz23_6 : wc.cell? ⟨gb101, 6, none⟩ = some (.bool x102006_1) := (blk_cell BK101.out 6).trans rfl; have hcz23_7 : wc.cell? ⟨gb101, 7, none⟩ = some (.bool x102007_1) := (blk_cell BK101.out 7).trans rfl; have hfz23_0 := blk_frozen BK101.out 0; have hfz23_1 := blk_frozen BK101.out 1; have hfz23_2 := blk_frozen BK101.out 2; have hfz23_3 := blk_frozen BK101.out 3; have hfz23_4 := blk_frozen BK101.out 4; have hfz23_5 := blk_frozen BK101.out 5; have hfz23_6 := blk_frozen BK101.out 6; have hfz23_7 := blk_frozen BK101.out 7; have p107 : 0 ≤ (x4_1 : Int) := of_decide_eq_true mS; have q107 : x4_1 < (l0.length : Int) := of_decide_eq_true mS; obtain ⟨ad107, e107, hx107_0⟩ := Kd.at_int HR0.out x4_1 p107 q107; obtain rfl : ad102 = ad107 := (by injection e107); replace hx107_0 := cB HB hx107_0; replace p107 := eq_true p107; replace q107 := eq_true q107))
                          go_roundg kj3
                          case measure => have := HK1.out; have := HJ3.out; omega
                          case rel => exact ⟨(wrap64 (x4_1 + 1)), (x102000_1), (x102001_1), (true), (x102003_1), (x102004_1), (x102005_1), (x102006_1), (x102007_1), mF, H', ⟨by have := HK1.out; have := HJ3.out; omega⟩, ⟨by (with_reducible repeat (first | refine blk_drewN ?_ _ | refine blk_drew ?_ | refine blk_alloc ?_ _)); refine blk_put (cs := #[.bool x102000_1, .bool x102001_1, .bool false, .bool x102003_1, .bool x102004_1, .bool x102005_1, .bool x102006_1, .bool x102007_1]) ?_ 2 _ rfl; (with_reducible repeat (first | refine blk_drewN ?_ _ | refine blk_drew ?_ | refine blk_alloc ?_ _)); exact BK101.out⟩, ⟨mB⟩⟩
                      · rw [if_neg c20] at H
                        by_cases c24 : ji11 = 3
                        · subst c24
                          have H1 : (if x102003_1 = true then (some false) else (spec_l04Permutation.l0 kj3 l0 (wrap64 (x4_1 + 1)) x102000_1 x102001_1 x102002_1 true x102004_1 x102005_1 x102006_1 x102007_1)) = some r := by rw [if_pos rfl] at H; exact H
                          clear H
                          have H := H1
                          clear H1
                          by_cases c25 : x102003_1 = true
                          · subst c25
                            have H1 : (some false) = some r := by rw [if_pos rfl] at H; exact H
                            clear H
                            have H := H1
                            clear H1
                            obtain rfl := Option.some.inj H
                            have p102 : 0 ≤ (x4_1 : Int) := of_decide_eq_true mS
                            have q102 : x4_1 < (l0.length : Int) := of_decide_eq_true mS
                            obtain ⟨ad102, e102, hx102_0⟩ := Kd.at_int HR0.out x4_1 p102 q102
                            cases e102
                            replace hx102_0 := cB HB hx102_0
                            replace p102 := eq_true p102
                            replace q102 := eq_true q102
                            go_wp2_with (first | ((with_reducible refine gate_callee (f := 28) rfl ?_); refine goL (some 24) Try.func28 #[.int .i64 3, .int .i64 0, .int .i64 (wrap64 ((l0.length : Int) - 1))] (h := ?_); (with_reducible refine (spec_l01In.calls 3 0 (wrap64 ((l0.length : Int) - 1)) true _ A9.out).mono ?_); rintro e w' ⟨rfl, ⟨nd, rfl⟩⟩; refine ⟨_, rfl, ?_⟩; have p104 : 0 ≤ (x4_1 : Int) := of_decide_eq_true mS; have q104 : x4_1 < (l0.length : Int) := of_decide_eq_true mS; obtain ⟨ad104, e104, hx104_0⟩ := Kd.at_int HR0.out x4_1 p104 q104; obtain rfl : ad102 = ad104 := (by injection e104); replace hx104_0 := cB HB hx104_0; replace p104 := eq_true p104; replace q104 := eq_true q104; have hcz26_0 : wc.cell? ⟨gb101, 0, none⟩ = some (.bool x102000_1) := (blk_cell BK101.out 0).trans rfl; have hcz26_1 : wc.cell? ⟨gb101, 1, none⟩ = some (.bool x102001_1) := (blk_cell BK101.out 1).trans rfl; have hcz26_2 : wc.cell? ⟨gb101, 2, none⟩ = some (.bool x102002_1) := (blk_cell BK101.out 2).trans rfl; have hcz26_3 : wc.cell? ⟨gb101, 3, none⟩ = some (.bool true) := (blk_cell BK101.out 3).trans rfl; have hcz26_4 : wc.cell? ⟨gb101, 4, none⟩ = some (.bool x102004_1) := (blk_cell BK101.out 4).trans rfl; have hcz26_5 : wc.cell? ⟨gb101, 5, none⟩ = some (.bool x102005_1) := (blk_cell BK101.out 5).trans rfl; have hcz26_6 : wc.cell? ⟨gb101, 6, none⟩ = some (.bool x102006_1) := (blk_cell BK101.out 6).trans rfl; have hcz26_7 : wc.cell? ⟨gb101, 7, none⟩ = some (.bool x102007_1) := (blk_cell BK101.out 7).trans rfl; have hfz26_0 := blk_frozen BK101.out 0; have hfz26_1 := blk_frozen BK101.out 1; have hfz26_2 := blk_frozen BK101.out 2; have hfz26_3 := blk_frozen BK101.out 3; have hfz26_4 := blk_frozen BK101.out 4; have hfz26_5 := blk_frozen BK101.out 5; have hfz26_6 := blk_frozen BK101.out 6; have hfz26_7 := blk_frozen BK101.out 7))
                            go_ret
                            exact ⟨by first | rfl | (simp [errW_none, errW_some] <;> rfl) | (simp only [← hji11]; first | rfl | (simp [errW_none, errW_some] <;> rfl)) | (simp [*, errW_none, errW_some] <;> rfl), mB⟩
                          · replace c25 := Bool.eq_false_iff.mpr c25
                            subst c25
                            have H1 : (spec_l04Permutation.l0 kj3 l0 (wrap64 (x4_1 + 1)) x102000_1 x102001_1 x102002_1 true x102004_1 x102005_1 x102006_1 x102007_1) = some r := by rw [if_neg (show ¬ (false = true) by decide)] at H; exact H
                            clear H
                            have H := H1
                            clear H1
                            have H' := Aside0.mk H
                            clear H
                            have p102 : 0 ≤ (x4_1 : Int) := of_decide_eq_true mS
                            have q102 : x4_1 < (l0.length : Int) := of_decide_eq_true mS
                            obtain ⟨ad102, e102, hx102_0⟩ := Kd.at_int HR0.out x4_1 p102 q102
                            cases e102
                            replace hx102_0 := cB HB hx102_0
                            replace p102 := eq_true p102
                            replace q102 := eq_true q102
                            go_wp2_with (first | ((with_reducible refine gate_callee (f := 28) rfl ?_); refine goL (some 24) Try.func28 #[.int .i64 3, .int .i64 0, .int .i64 (wrap64 ((l0.length : Int) - 1))] (h := ?_); (with_reducible refine (spec_l01In.calls 3 0 (wrap64 ((l0.length : Int) - 1)) true _ A9.out).mono ?_); rintro e w' ⟨rfl, ⟨nd, rfl⟩⟩; refine ⟨_, rfl, ?_⟩; (try (rw [drewN_self wc]; generalize hq_ : World.drewN wc _ = wc; have n0_ : Aside0 (wc.heap[gb101]? = some (.cells #[.bool x102000_1, .bool x102001_1, .bool x102002_1, .bool false, .bool x102004_1, .bool x102005_1, .bool x102006_1, .bool x102007_1] 50 (0, 0))) := ⟨by rw [← hq_]; exact (mk BK101.out)⟩; have n1_ : Aside0 (Below w.heap.size w wc) := ⟨by rw [← hq_]; exact mB⟩; clear BK101 HB hq_; have BK101 := n0_; have HB := n1_; clear n0_ n1_)); have p104 : 0 ≤ (x4_1 : Int) := of_decide_eq_true mS; have q104 : x4_1 < (l0.length : Int) := of_decide_eq_true mS; obtain ⟨ad104, e104, hx104_0⟩ := Kd.at_int HR0.out x4_1 p104 q104; obtain rfl : ad102 = ad104 := (by injection e104); replace hx104_0 := cB HB hx104_0; replace p104 := eq_true p104; replace q104 := eq_true q104; have hcz27_0 : wc.cell? ⟨gb101, 0, none⟩ = some (.bool x102000_1) := (blk_cell BK101.out 0).trans rfl; have hcz27_1 : wc.cell? ⟨gb101, 1, none⟩ = some (.bool x102001_1) := (blk_cell BK101.out 1).trans rfl; have hcz27_2 : wc.cell? ⟨gb101, 2, none⟩ = some (.bool x102002_1) := (blk_cell BK101.out 2).trans rfl; have hcz27_3 : wc.cell? ⟨gb101, 3, none⟩ = some (.bool false) := (blk_cell BK101.out 3).trans rfl; have hcz27_4 : wc.cell? ⟨gb101, 4, none⟩ = some (.bool x102004_1) := (blk_cell BK101.out 4).trans rfl; have hcz27_5 : wc.cell? ⟨gb101, 5, none⟩ = some (.bool x102005_1) := (blk_cell BK101.out 5).trans rfl; have hcz27_6 : wc.cell? ⟨gb101, 6, none⟩ = some (.bool x102006_1) := (blk_cell BK101.out 6).trans rfl; have hcz27_7 : wc.cell? ⟨gb101, 7, none⟩ = some (.bool x102007_1) := (blk_cell BK101.out 7).trans rfl; have hfz27_0 := blk_frozen BK101.out 0; have hfz27_1 := blk_frozen BK101.out 1; have hfz27_2 := blk_frozen BK101.out 2; have hfz27_3 := blk_frozen BK101.out 3; have hfz27_4 := blk_frozen BK101.out 4; have hfz27_5 := blk_frozen BK101.out 5; have hfz27_6 := blk_frozen BK101.out 6; have hfz27_7 := blk_frozen BK101.out 7; have p108 : 0 ≤ (x4_1 : Int) := of_decide_eq_true mS; have q108 : x4_1 < (l0.length : Int) := of_decide_eq_true mS; obtain ⟨ad108, e108, hx108_0⟩ := Kd.at_int HR0.out x4_1 p108 q108; obtain rfl : ad102 = ad108 := (by injection e108); replace hx108_0 := cB HB hx108_0; replace p108 := eq_true p108; replace q108 := eq_true q108))
                            go_roundg kj3
                            case measure => have := HK1.out; have := HJ3.out; omega
                            case rel => exact ⟨(wrap64 (x4_1 + 1)), (x102000_1), (x102001_1), (x102002_1), (true), (x102004_1), (x102005_1), (x102006_1), (x102007_1), mF, H', ⟨by have := HK1.out; have := HJ3.out; omega⟩, ⟨by (with_reducible repeat (first | refine blk_drewN ?_ _ | refine blk_drew ?_ | refine blk_alloc ?_ _)); refine blk_put (cs := #[.bool x102000_1, .bool x102001_1, .bool x102002_1, .bool false, .bool x102004_1, .bool x102005_1, .bool x102006_1, .bool x102007_1]) ?_ 3 _ rfl; (with_reducible repeat (first | refine blk_drewN ?_ _ | refine blk_drew ?_ | refine blk_alloc ?_ _)); exact BK101.out⟩, ⟨mB⟩⟩
                        · rw [if_neg c24] at H
                          by_cases c28 : ji11 = 4
                          · subst c28
                            have H1 : (if x102004_1 = true then (some false) else (spec_l04Permutation.l0 kj3 l0 (wrap64 (x4_1 + 1)) x102000_1 x102001_1 x102002_1 x102003_1 true x102005_1 x102006_1 x102007_1)) = some r := by rw [if_pos rfl] at H; exact H
                            clear H
                            have H := H1
                            clear H1
                            by_cases c29 : x102004_1 = true
                            · subst c29
                              have H1 : (some false) = some r := by rw [if_pos rfl] at H; exact H
                              clear H
                              have H := H1
                              clear H1
                              obtain rfl := Option.some.inj H
                              have p102 : 0 ≤ (x4_1 : Int) := of_decide_eq_true mS
                              have q102 : x4_1 < (l0.length : Int) := of_decide_eq_true mS
                              obtain ⟨ad102, e102, hx102_0⟩ := Kd.at_int HR0.out x4_1 p102 q102
                              cases e102
                              replace hx102_0 := cB HB hx102_0
                              replace p102 := eq_true p102
                              replace q102 := eq_true q102
                              go_wp2_with (first | ((with_reducible refine gate_callee (f := 28) rfl ?_); refine goL (some 24) Try.func28 #[.int .i64 4, .int .i64 0, .int .i64 (wrap64 ((l0.length : Int) - 1))] (h := ?_); (with_reducible refine (spec_l01In.calls 4 0 (wrap64 ((l0.length : Int) - 1)) true _ A9.out).mono ?_); rintro e w' ⟨rfl, ⟨nd, rfl⟩⟩; refine ⟨_, rfl, ?_⟩; have p104 : 0 ≤ (x4_1 : Int) := of_decide_eq_true mS; have q104 : x4_1 < (l0.length : Int) := of_decide_eq_true mS; obtain ⟨ad104, e104, hx104_0⟩ := Kd.at_int HR0.out x4_1 p104 q104; obtain rfl : ad102 = ad104 := (by injection e104); replace hx104_0 := cB HB hx104_0; replace p104 := eq_true p104; replace q104 := eq_true q104; have hcz30_0 : wc.cell? ⟨gb101, 0, none⟩ = some (.bool x102000_1) := (blk_cell BK101.out 0).trans rfl; have hcz30_1 : wc.cell? ⟨gb101, 1, none⟩ = some (.bool x102001_1) := (blk_cell BK101.out 1).trans rfl; have hcz30_2 : wc.cell? ⟨gb101, 2, none⟩ = some (.bool x102002_1) := (blk_cell BK101.out 2).trans rfl; have hcz30_3 : wc.cell? ⟨gb101, 3, none⟩ = some (.bool x102003_1) := (blk_cell BK101.out 3).trans rfl; have hcz30_4 : wc.cell? ⟨gb101, 4, none⟩ = some (.bool true) := (blk_cell BK101.out 4).trans rfl; have hcz30_5 : wc.cell? ⟨gb101, 5, none⟩ = some (.bool x102005_1) := (blk_cell BK101.out 5).trans rfl; have hcz30_6 : wc.cell? ⟨gb101, 6, none⟩ = some (.bool x102006_1) := (blk_cell BK101.out 6).trans rfl; have hcz30_7 : wc.cell? ⟨gb101, 7, none⟩ = some (.bool x102007_1) := (blk_cell BK101.out 7).trans rfl; have hfz30_0 := blk_frozen BK101.out 0; have hfz30_1 := blk_frozen BK101.out 1; have hfz30_2 := blk_frozen BK101.out 2; have hfz30_3 := blk_frozen BK101.out 3; have hfz30_4 := blk_frozen BK101.out 4; have hfz30_5 := blk_frozen BK101.out 5; have hfz30_6 := blk_frozen BK101.out 6; have hfz30_7 := blk_frozen BK101.out 7))
                              go_ret
                              exact ⟨by first | rfl | (simp [errW_none, errW_some] <;> rfl) | (simp only [← hji11]; first | rfl | (simp [errW_none, errW_some] <;> rfl)) | (simp [*, errW_none, errW_some] <;> rfl), mB⟩
                            · replace c29 := Bool.eq_false_iff.mpr c29
                              subst c29
                              have H1 : (spec_l04Permutation.l0 kj3 l0 (wrap64 (x4_1 + 1)) x102000_1 x102001_1 x102002_1 x102003_1 true x102005_1 x102006_1 x102007_1) = some r := by rw [if_neg (show ¬ (false = true) by decide)] at H; exact H
                              clear H
                              have H := H1
                              clear H1
                              have H' := Aside0.mk H
                              clear H
                              have p102 : 0 ≤ (x4_1 : Int) := of_decide_eq_true mS
                              have q102 : x4_1 < (l0.length : Int) := of_decide_eq_true mS
                              obtain ⟨ad102, e102, hx102_0⟩ := Kd.at_int HR0.out x4_1 p102 q102
                              cases e102
                              replace hx102_0 := cB HB hx102_0
                              replace p102 := eq_true p102
                              replace q102 := eq_true q102
                              go_wp2_with (first | ((with_reducible refine gate_callee (f := 28) rfl ?_); refine goL (some 24) Try.func28 #[.int .i64 4, .int .i64 0, .int .i64 (wrap64 ((l0.length : Int) - 1))] (h := ?_); (with_reducible refine (spec_l01In.calls 4 0 (wrap64 ((l0.length : Int) - 1)) true _ A9.out).mono ?_); rintro e w' ⟨rfl, ⟨nd, rfl⟩⟩; refine ⟨_, rfl, ?_⟩; (try (rw [drewN_self wc]; generalize hq_ : World.drewN wc _ = wc; have n0_ : Aside0 (wc.heap[gb101]? = some (.cells #[.bool x102000_1, .bool x102001_1, .bool x102002_1, .bool x102003_1, .bool false, .bool x102005_1, .bool x102006_1, .bool x102007_1] 50 (0, 0))) := ⟨by rw [← hq_]; exact (mk BK101.out)⟩; have n1_ : Aside0 (Below w.heap.size w wc) := ⟨by rw [← hq_]; exact mB⟩; clear BK101 HB hq_; have BK101 := n0_; have HB := n1_; clear n0_ n1_)); have p104 : 0 ≤ (x4_1 : Int) := of_decide_eq_true mS; have q104 : x4_1 < (l0.length : Int) := of_decide_eq_true mS; obtain ⟨ad104, e104, hx104_0⟩ := Kd.at_int HR0.out x4_1 p104 q104; obtain rfl : ad102 = ad104 := (by injection e104); replace hx104_0 := cB HB hx104_0; replace p104 := eq_true p104; replace q104 := eq_true q104; have hcz31_0 : wc.cell? ⟨gb101, 0, none⟩ = some (.bool x102000_1) := (blk_cell BK101.out 0).trans rfl; have hcz31_1 : wc.cell? ⟨gb101, 1, none⟩ = some (.bool x102001_1) := (blk_cell BK101.out 1).trans rfl; have hcz31_2 : wc.cell? ⟨gb101, 2, none⟩ = some (.bool x102002_1) := (blk_cell BK101.out 2).trans rfl; have hcz31_3 : wc.cell? ⟨gb101, 3, none⟩ = some (.bool x102003_1) := (blk_cell BK101.out 3).trans rfl; have hcz31_4 : wc.cell? ⟨gb101, 4, none⟩ = some (.bool false) := (blk_cell BK101.out 4).trans rfl; have hcz31_5 : wc.cell? ⟨gb101, 5, none⟩ = some (.bool x102005_1) := (blk_cell BK101.out 5).trans rfl; have hcz31_6 : wc.cell? ⟨gb101, 6, none⟩ = some (.bool x102006_1) := (blk_cell BK101.out 6).trans rfl; have hcz31_7 : wc.cell? ⟨gb101, 7, none⟩ = some (.bool x102007_1) := (blk_cell BK101.out 7).trans rfl; have hfz31_0 := blk_frozen BK101.out 0; have hfz31_1 := blk_frozen BK101.out 1; have hfz31_2 := blk_frozen BK101.out 2; have hfz31_3 := blk_frozen BK101.out 3; have hfz31_4 := blk_frozen BK101.out 4; have hfz31_5 := blk_frozen BK101.out 5; have hfz31_6 := blk_frozen BK101.out 6; have hfz31_7 := blk_frozen BK101.out 7; have p109 : 0 ≤ (x4_1 : Int) := of_decide_eq_true mS; have q109 : x4_1 < (l0.length : Int) := of_decide_eq_true mS; obtain ⟨ad109, e109, hx109_0⟩ := Kd.at_int HR0.out x4_1 p109 q109; obtain rfl : ad102 = ad109 := (by injection e109); replace hx109_0 := cB HB hx109_0; replace p109 := eq_true p109; replace q109 := eq_true q109))
                              go_roundg kj3
                              case measure => have := HK1.out; have := HJ3.out; omega
                              case rel => exact ⟨(wrap64 (x4_1 + 1)), (x102000_1), (x102001_1), (x102002_1), (x102003_1), (true), (x102005_1), (x102006_1), (x102007_1), mF, H', ⟨by have := HK1.out; have := HJ3.out; omega⟩, ⟨by (with_reducible repeat (first | refine blk_drewN ?_ _ | refine blk_drew ?_ | refine blk_alloc ?_ _)); refine blk_put (cs := #[.bool x102000_1, .bool x102001_1, .bool x102002_1, .bool x102003_1, .bool false, .bool x102005_1, .bool x102006_1, .bool x102007_1]) ?_ 4 _ rfl; (with_reducible repeat (first | refine blk_drewN ?_ _ | refine blk_drew ?_ | refine blk_alloc ?_ _)); exact BK101.out⟩, ⟨mB⟩⟩
                          · rw [if_neg c28] at H
                            by_cases c32 : ji11 = 5
                            · subst c32
                              have H1 : (if x102005_1 = true then (some false) else (spec_l04Permutation.l0 kj3 l0 (wrap64 (x4_1 + 1)) x102000_1 x102001_1 x102002_1 x102003_1 x102004_1 true x102006_1 x102007_1)) = some r := by rw [if_pos rfl] at H; exact H
                              clear H
                              have H := H1
                              clear H1
                              by_cases c33 : x102005_1 = true
                              · subst c33
                                have H1 : (some false) = some r := by rw [if_pos rfl] at H; exact H
                                clear H
                                have H := H1
                                clear H1
                                obtain rfl := Option.some.inj H
                                have p102 : 0 ≤ (x4_1 : Int) := of_decide_eq_true mS
                                have q102 : x4_1 < (l0.length : Int) := of_decide_eq_true mS
                                obtain ⟨ad102, e102, hx102_0⟩ := Kd.at_int HR0.out x4_1 p102 q102
                                cases e102
                                replace hx102_0 := cB HB hx102_0
                                replace p102 := eq_true p102
                                replace q102 := eq_true q102
                                go_wp2_with (first | ((with_reducible refine gate_callee (f := 28) rfl ?_); refine goL (some 24) Try.func28 #[.int .i64 5, .int .i64 0, .int .i64 (wrap64 ((l0.length : Int) - 1))] (h := ?_); (with_reducible refine (spec_l01In.calls 5 0 (wrap64 ((l0.length : Int) - 1)) true _ A9.out).mono ?_); rintro e w' ⟨rfl, ⟨nd, rfl⟩⟩; refine ⟨_, rfl, ?_⟩; have p104 : 0 ≤ (x4_1 : Int) := of_decide_eq_true mS; have q104 : x4_1 < (l0.length : Int) := of_decide_eq_true mS; obtain ⟨ad104, e104, hx104_0⟩ := Kd.at_int HR0.out x4_1 p104 q104; obtain rfl : ad102 = ad104 := (by injection e104); replace hx104_0 := cB HB hx104_0; replace p104 := eq_true p104; replace q104 := eq_true q104; have hcz34_0 : wc.cell? ⟨gb101, 0, none⟩ = some (.bool x102000_1) := (blk_cell BK101.out 0).trans rfl; have hcz34_1 : wc.cell? ⟨gb101, 1, none⟩ = some (.bool x102001_1) := (blk_cell BK101.out 1).trans rfl; have hcz34_2 : wc.cell? ⟨gb101, 2, none⟩ = some (.bool x102002_1) := (blk_cell BK101.out 2).trans rfl; have hcz34_3 : wc.cell? ⟨gb101, 3, none⟩ = some (.bool x102003_1) := (blk_cell BK101.out 3).trans rfl; have hcz34_4 : wc.cell? ⟨gb101, 4, none⟩ = some (.bool x102004_1) := (blk_cell BK101.out 4).trans rfl; have hcz34_5 : wc.cell? ⟨gb101, 5, none⟩ = some (.bool true) := (blk_cell BK101.out 5).trans rfl; have hcz34_6 : wc.cell? ⟨gb101, 6, none⟩ = some (.bool x102006_1) := (blk_cell BK101.out 6).trans rfl; have hcz34_7 : wc.cell? ⟨gb101, 7, none⟩ = some (.bool x102007_1) := (blk_cell BK101.out 7).trans rfl; have hfz34_0 := blk_frozen BK101.out 0; have hfz34_1 := blk_frozen BK101.out 1; have hfz34_2 := blk_frozen BK101.out 2; have hfz34_3 := blk_frozen BK101.out 3; have hfz34_4 := blk_frozen BK101.out 4; have hfz34_5 := blk_frozen BK101.out 5; have hfz34_6 := blk_frozen BK101.out 6; have hfz34_7 := blk_frozen BK101.out 7))
                                go_ret
                                exact ⟨by first | rfl | (simp [errW_none, errW_some] <;> rfl) | (simp only [← hji11]; first | rfl | (simp [errW_none, errW_some] <;> rfl)) | (simp [*, errW_none, errW_some] <;> rfl), mB⟩
                              · replace c33 := Bool.eq_false_iff.mpr c33
                                subst c33
                                have H1 : (spec_l04Permutation.l0 kj3 l0 (wrap64 (x4_1 + 1)) x102000_1 x102001_1 x102002_1 x102003_1 x102004_1 true x102006_1 x102007_1) = some r := by rw [if_neg (show ¬ (false = true) by decide)] at H; exact H
                                clear H
                                have H := H1
                                clear H1
                                have H' := Aside0.mk H
                                clear H
                                have p102 : 0 ≤ (x4_1 : Int) := of_decide_eq_true mS
                                have q102 : x4_1 < (l0.length : Int) := of_decide_eq_true mS
                                obtain ⟨ad102, e102, hx102_0⟩ := Kd.at_int HR0.out x4_1 p102 q102
                                cases e102
                                replace hx102_0 := cB HB hx102_0
                                replace p102 := eq_true p102
                                replace q102 := eq_true q102
                                go_wp2_with (first | ((with_reducible refine gate_callee (f := 28) rfl ?_); refine goL (some 24) Try.func28 #[.int .i64 5, .int .i64 0, .int .i64 (wrap64 ((l0.length : Int) - 1))] (h := ?_); (with_reducible refine (spec_l01In.calls 5 0 (wrap64 ((l0.length : Int) - 1)) true _ A9.out).mono ?_); rintro e w' ⟨rfl, ⟨nd, rfl⟩⟩; refine ⟨_, rfl, ?_⟩; (try (rw [drewN_self wc]; generalize hq_ : World.drewN wc _ = wc; have n0_ : Aside0 (wc.heap[gb101]? = some (.cells #[.bool x102000_1, .bool x102001_1, .bool x102002_1, .bool x102003_1, .bool x102004_1, .bool false, .bool x102006_1, .bool x102007_1] 50 (0, 0))) := ⟨by rw [← hq_]; exact (mk BK101.out)⟩; have n1_ : Aside0 (Below w.heap.size w wc) := ⟨by rw [← hq_]; exact mB⟩; clear BK101 HB hq_; have BK101 := n0_; have HB := n1_; clear n0_ n1_)); have p104 : 0 ≤ (x4_1 : Int) := of_decide_eq_true mS; have q104 : x4_1 < (l0.length : Int) := of_decide_eq_true mS; obtain ⟨ad104, e104, hx104_0⟩ := Kd.at_int HR0.out x4_1 p104 q104; obtain rfl : ad102 = ad104 := (by injection e104); replace hx104_0 := cB HB hx104_0; replace p104 := eq_true p104; replace q104 := eq_true q104; have hcz35_0 : wc.cell? ⟨gb101, 0, none⟩ = some (.bool x102000_1) := (blk_cell BK101.out 0).trans rfl; have hcz35_1 : wc.cell? ⟨gb101, 1, none⟩ = some (.bool x102001_1) := (blk_cell BK101.out 1).trans rfl; have hcz35_2 : wc.cell? ⟨gb101, 2, none⟩ = some (.bool x102002_1) := (blk_cell BK101.out 2).trans rfl; have hcz35_3 : wc.cell? ⟨gb101, 3, none⟩ = some (.bool x102003_1) := (blk_cell BK101.out 3).trans rfl; have hcz35_4 : wc.cell? ⟨gb101, 4, none⟩ = some (.bool x102004_1) := (blk_cell BK101.out 4).trans rfl; have hcz35_5 : wc.cell? ⟨gb101, 5, none⟩ = some (.bool false) := (blk_cell BK101.out 5).trans rfl; have hcz35_6 : wc.cell? ⟨gb101, 6, none⟩ = some (.bool x102006_1) := (blk_cell BK101.out 6).trans rfl; have hcz35_7 : wc.cell? ⟨gb101, 7, none⟩ = some (.bool x102007_1) := (blk_cell BK101.out 7).trans rfl; have hfz35_0 := blk_frozen BK101.out 0; have hfz35_1 := blk_frozen BK101.out 1; have hfz35_2 := blk_frozen BK101.out 2; have hfz35_3 := blk_frozen BK101.out 3; have hfz35_4 := blk_frozen BK101.out 4; have hfz35_5 := blk_frozen BK101.out 5; have hfz35_6 := blk_frozen BK101.out 6; have hfz35_7 := blk_frozen BK101.out 7; have p110 : 0 ≤ (x4_1 : Int) := of_decide_eq_true mS; have q110 : x4_1 < (l0.length : Int) := of_decide_eq_true mS; obtain ⟨ad110, e110, hx110_0⟩ := Kd.at_int HR0.out x4_1 p110 q110; obtain rfl : ad102 = ad110 := (by injection e110); replace hx110_0 := cB HB hx110_0; replace p110 := eq_true p110; replace q110 := eq_true q110))
                                go_roundg kj3
                                case measure => have := HK1.out; have := HJ3.out; omega
                                case rel => exact ⟨(wrap64 (x4_1 + 1)), (x102000_1), (x102001_1), (x102002_1), (x102003_1), (x102004_1), (true), (x102006_1), (x102007_1), mF, H', ⟨by have := HK1.out; have := HJ3.out; omega⟩, ⟨by (with_reducible repeat (first | refine blk_drewN ?_ _ | refine blk_drew ?_ | refine blk_alloc ?_ _)); refine blk_put (cs := #[.bool x102000_1, .bool x102001_1, .bool x102002_1, .bool x102003_1, .bool x102004_1, .bool false, .bool x102006_1, .bool x102007_1]) ?_ 5 _ rfl; (with_reducible repeat (first | refine blk_drewN ?_ _ | refine blk_drew ?_ | refine blk_alloc ?_ _)); exact BK101.out⟩, ⟨mB⟩⟩
                            · rw [if_neg c32] at H
                              by_cases c36 : ji11 = 6
                              · subst c36
                                have H1 : (if x102006_1 = true then (some false) else (spec_l04Permutation.l0 kj3 l0 (wrap64 (x4_1 + 1)) x102000_1 x102001_1 x102002_1 x102003_1 x102004_1 x102005_1 true x102007_1)) = some r := by rw [if_pos rfl] at H; exact H
                                clear H
                                have H := H1
                                clear H1
                                by_cases c37 : x102006_1 = true
                                · subst c37
                                  have H1 : (some false) = some r := by rw [if_pos rfl] at H; exact H
                                  clear H
                                  have H := H1
                                  clear H1
                                  obtain rfl := Option.some.inj H
                                  have p102 : 0 ≤ (x4_1 : Int) := of_decide_eq_true mS
                                  have q102 : x4_1 < (l0.length : Int) := of_decide_eq_true mS
                                  obtain ⟨ad102, e102, hx102_0⟩ := Kd.at_int HR0.out x4_1 p102 q102
                                  cases e102
                                  replace hx102_0 := cB HB hx102_0
                                  replace p102 := eq_true p102
                                  replace q102 := eq_true q102
                                  go_wp2_with (first | ((with_reducible refine gate_callee (f := 28) rfl ?_); refine goL (some 24) Try.func28 #[.int .i64 6, .int .i64 0, .int .i64 (wrap64 ((l0.length : Int) - 1))] (h := ?_); (with_reducible refine (spec_l01In.calls 6 0 (wrap64 ((l0.length : Int) - 1)) true _ A9.out).mono ?_); rintro e w' ⟨rfl, ⟨nd, rfl⟩⟩; refine ⟨_, rfl, ?_⟩; have p104 : 0 ≤ (x4_1 : Int) := of_decide_eq_true mS; have q104 : x4_1 < (l0.length : Int) := of_decide_eq_true mS; obtain ⟨ad104, e104, hx104_0⟩ := Kd.at_int HR0.out x4_1 p104 q104; obtain rfl : ad102 = ad104 := (by injection e104); replace hx104_0 := cB HB hx104_0; replace p104 := eq_true p104; replace q104 := eq_true q104; have hcz38_0 : wc.cell? ⟨gb101, 0, none⟩ = some (.bool x102000_1) := (blk_cell BK101.out 0).trans rfl; have hcz38_1 : wc.cell? ⟨gb101, 1, none⟩ = some (.bool x102001_1) := (blk_cell BK101.out 1).trans rfl; have hcz38_2 : wc.cell? ⟨gb101, 2, none⟩ = some (.bool x102002_1) := (blk_cell BK101.out 2).trans rfl; have hcz38_3 : wc.cell? ⟨gb101, 3, none⟩ = some (.bool x102003_1) := (blk_cell BK101.out 3).trans rfl; have hcz38_4 : wc.cell? ⟨gb101, 4, none⟩ = some (.bool x102004_1) := (blk_cell BK101.out 4).trans rfl; have hcz38_5 : wc.cell? ⟨gb101, 5, none⟩ = some (.bool x102005_1) := (blk_cell BK101.out 5).trans rfl; have hcz38_6 : wc.cell? ⟨gb101, 6, none⟩ = some (.bool true) := (blk_cell BK101.out 6).trans rfl; have hcz38_7 : wc.cell? ⟨gb101, 7, none⟩ = some (.bool x102007_1) := (blk_cell BK101.out 7).trans rfl; have hfz38_0 := blk_frozen BK101.out 0; have hfz38_1 := blk_frozen BK101.out 1; have hfz38_2 := blk_frozen BK101.out 2; have hfz38_3 := blk_frozen BK101.out 3; have hfz38_4 := blk_frozen BK101.out 4; have hfz38_5 := blk_frozen BK101.out 5; have hfz38_6 := blk_frozen BK101.out 6; have hfz38_7 := blk_frozen BK101.out 7))
                                  go_ret
                                  exact ⟨by first | rfl | (simp [errW_none, errW_some] <;> rfl) | (simp only [← hji11]; first | rfl | (simp [errW_none, errW_some] <;> rfl)) | (simp [*, errW_none, errW_some] <;> rfl), mB⟩
                                · replace c37 := Bool.eq_false_iff.mpr c37
                                  subst c37
                                  have H1 : (spec_l04Permutation.l0 kj3 l0 (wrap64 (x4_1 + 1)) x102000_1 x102001_1 x102002_1 x102003_1 x102004_1 x102005_1 true x102007_1) = some r := by rw [if_neg (show ¬ (false = true) by decide)] at H; exact H
                                  clear H
                                  have H := H1
                                  clear H1
                                  have H' := Aside0.mk H
                                  clear H
                                  have p102 : 0 ≤ (x4_1 : Int) := of_decide_eq_true mS
                                  have q102 : x4_1 < (l0.length : Int) := of_decide_eq_true mS
                                  obtain ⟨ad102, e102, hx102_0⟩ := Kd.at_int HR0.out x4_1 p102 q102
                                  cases e102
                                  replace hx102_0 := cB HB hx102_0
                                  replace p102 := eq_true p102
                                  replace q102 := eq_true q102
                                  go_wp2_with (first | ((with_reducible refine gate_callee (f := 28) rfl ?_); refine goL (some 24) Try.func28 #[.int .i64 6, .int .i64 0, .int .i64 (wrap64 ((l0.length : Int) - 1))] (h := ?_); (with_reducible refine (spec_l01In.calls 6 0 (wrap64 ((l0.length : Int) - 1)) true _ A9.out).mono ?_); rintro e w' ⟨rfl, ⟨nd, rfl⟩⟩; refine ⟨_, rfl, ?_⟩; (try (rw [drewN_self wc]; generalize hq_ : World.drewN wc _ = wc; have n0_ : Aside0 (wc.heap[gb101]? = some (.cells #[.bool x102000_1, .bool x102001_1, .bool x102002_1, .bool x102003_1, .bool x102004_1, .bool x102005_1, .bool false, .bool x102007_1] 50 (0, 0))) := ⟨by rw [← hq_]; exact (mk BK101.out)⟩; have n1_ : Aside0 (Below w.heap.size w wc) := ⟨by rw [← hq_]; exact mB⟩; clear BK101 HB hq_; have BK101 := n0_; have HB := n1_; clear n0_ n1_)); have p104 : 0 ≤ (x4_1 : Int) := of_decide_eq_true mS; have q104 : x4_1 < (l0.length : Int) := of_decide_eq_true mS; obtain ⟨ad104, e104, hx104_0⟩ := Kd.at_int HR0.out x4_1 p104 q104; obtain rfl : ad102 = ad104 := (by injection e104); replace hx104_0 := cB HB hx104_0; replace p104 := eq_true p104; replace q104 := eq_true q104; have hcz39_0 : wc.cell? ⟨gb101, 0, none⟩ = some (.bool x102000_1) := (blk_cell BK101.out 0).trans rfl; have hcz39_1 : wc.cell? ⟨gb101, 1, none⟩ = some (.bool x102001_1) := (blk_cell BK101.out 1).trans rfl; have hcz39_2 : wc.cell? ⟨gb101, 2, none⟩ = some (.bool x102002_1) := (blk_cell BK101.out 2).trans rfl; have hcz39_3 : wc.cell? ⟨gb101, 3, none⟩ = some (.bool x102003_1) := (blk_cell BK101.out 3).trans rfl; have hcz39_4 : wc.cell? ⟨gb101, 4, none⟩ = some (.bool x102004_1) := (blk_cell BK101.out 4).trans rfl; have hcz39_5 : wc.cell? ⟨gb101, 5, none⟩ = some (.bool x102005_1) := (blk_cell BK101.out 5).trans rfl; have hcz39_6 : wc.cell? ⟨gb101, 6, none⟩ = some (.bool false) := (blk_cell BK101.out 6).trans rfl; have hcz39_7 : wc.cell? ⟨gb101, 7, none⟩ = some (.bool x102007_1) := (blk_cell BK101.out 7).trans rfl; have hfz39_0 := blk_frozen BK101.out 0; have hfz39_1 := blk_frozen BK101.out 1; have hfz39_2 := blk_frozen BK101.out 2; have hfz39_3 := blk_frozen BK101.out 3; have hfz39_4 := blk_frozen BK101.out 4; have hfz39_5 := blk_frozen BK101.out 5; have hfz39_6 := blk_frozen BK101.out 6; have hfz39_7 := blk_frozen BK101.out 7; have p111 : 0 ≤ (x4_1 : Int) := of_decide_eq_true mS; have q111 : x4_1 < (l0.length : Int) := of_decide_eq_true mS; obtain ⟨ad111, e111, hx111_0⟩ := Kd.at_int HR0.out x4_1 p111 q111; obtain rfl : ad102 = ad111 := (by injection e111); replace hx111_0 := cB HB hx111_0; replace p111 := eq_true p111; replace q111 := eq_true q111))
                                  go_roundg kj3
                                  case measure => have := HK1.out; have := HJ3.out; omega
                                  case rel => exact ⟨(wrap64 (x4_1 + 1)), (x102000_1), (x102001_1), (x102002_1), (x102003_1), (x102004_1), (x102005_1), (true), (x102007_1), mF, H', ⟨by have := HK1.out; have := HJ3.out; omega⟩, ⟨by (with_reducible repeat (first | refine blk_drewN ?_ _ | refine blk_drew ?_ | refine blk_alloc ?_ _)); refine blk_put (cs := #[.bool x102000_1, .bool x102001_1, .bool x102002_1, .bool x102003_1, .bool x102004_1, .bool x102005_1, .bool false, .bool x102007_1]) ?_ 6 _ rfl; (with_reducible repeat (first | refine blk_drewN ?_ _ | refine blk_drew ?_ | refine blk_alloc ?_ _)); exact BK101.out⟩, ⟨mB⟩⟩
                              · rw [if_neg c36] at H
                                by_cases c40 : ji11 = 7
                                · subst c40
                                  have H1 : (if x102007_1 = true then (some false) else (spec_l04Permutation.l0 kj3 l0 (wrap64 (x4_1 + 1)) x102000_1 x102001_1 x102002_1 x102003_1 x102004_1 x102005_1 x102006_1 true)) = some r := by rw [if_pos rfl] at H; exact H
                                  clear H
                                  have H := H1
                                  clear H1
                                  by_cases c41 : x102007_1 = true
                                  · subst c41
                                    have H1 : (some false) = some r := by rw [if_pos rfl] at H; exact H
                                    clear H
                                    have H := H1
                                    clear H1
                                    obtain rfl := Option.some.inj H
                                    have p102 : 0 ≤ (x4_1 : Int) := of_decide_eq_true mS
                                    have q102 : x4_1 < (l0.length : Int) := of_decide_eq_true mS
                                    obtain ⟨ad102, e102, hx102_0⟩ := Kd.at_int HR0.out x4_1 p102 q102
                                    cases e102
                                    replace hx102_0 := cB HB hx102_0
                                    replace p102 := eq_true p102
                                    replace q102 := eq_true q102
                                    go_wp2_with (first | ((with_reducible refine gate_callee (f := 28) rfl ?_); refine goL (some 24) Try.func28 #[.int .i64 7, .int .i64 0, .int .i64 (wrap64 ((l0.length : Int) - 1))] (h := ?_); (with_reducible refine (spec_l01In.calls 7 0 (wrap64 ((l0.length : Int) - 1)) true _ A9.out).mono ?_); rintro e w' ⟨rfl, ⟨nd, rfl⟩⟩; refine ⟨_, rfl, ?_⟩; have p104 : 0 ≤ (x4_1 : Int) := of_decide_eq_true mS; have q104 : x4_1 < (l0.length : Int) := of_decide_eq_true mS; obtain ⟨ad104, e104, hx104_0⟩ := Kd.at_int HR0.out x4_1 p104 q104; obtain rfl : ad102 = ad104 := (by injection e104); replace hx104_0 := cB HB hx104_0; replace p104 := eq_true p104; replace q104 := eq_true q104; have hcz42_0 : wc.cell? ⟨gb101, 0, none⟩ = some (.bool x102000_1) := (blk_cell BK101.out 0).trans rfl; have hcz42_1 : wc.cell? ⟨gb101, 1, none⟩ = some (.bool x102001_1) := (blk_cell BK101.out 1).trans rfl; have hcz42_2 : wc.cell? ⟨gb101, 2, none⟩ = some (.bool x102002_1) := (blk_cell BK101.out 2).trans rfl; have hcz42_3 : wc.cell? ⟨gb101, 3, none⟩ = some (.bool x102003_1) := (blk_cell BK101.out 3).trans rfl; have hcz42_4 : wc.cell? ⟨gb101, 4, none⟩ = some (.bool x102004_1) := (blk_cell BK101.out 4).trans rfl; have hcz42_5 : wc.cell? ⟨gb101, 5, none⟩ = some (.bool x102005_1) := (blk_cell BK101.out 5).trans rfl; have hcz42_6 : wc.cell? ⟨gb101, 6, none⟩ = some (.bool x102006_1) := (blk_cell BK101.out 6).trans rfl; have hcz42_7 : wc.cell? ⟨gb101, 7, none⟩ = some (.bool true) := (blk_cell BK101.out 7).trans rfl; have hfz42_0 := blk_frozen BK101.out 0; have hfz42_1 := blk_frozen BK101.out 1; have hfz42_2 := blk_frozen BK101.out 2; have hfz42_3 := blk_frozen BK101.out 3; have hfz42_4 := blk_frozen BK101.out 4; have hfz42_5 := blk_frozen BK101.out 5; have hfz42_6 := blk_frozen BK101.out 6; have hfz42_7 := blk_frozen BK101.out 7))
                                    go_ret
                                    exact ⟨by first | rfl | (simp [errW_none, errW_some] <;> rfl) | (simp only [← hji11]; first | rfl | (simp [errW_none, errW_some] <;> rfl)) | (simp [*, errW_none, errW_some] <;> rfl), mB⟩
                                  · replace c41 := Bool.eq_false_iff.mpr c41
                                    subst c41
                                    have H1 : (spec_l04Permutation.l0 kj3 l0 (wrap64 (x4_1 + 1)) x102000_1 x102001_1 x102002_1 x102003_1 x102004_1 x102005_1 x102006_1 true) = some r := by rw [if_neg (show ¬ (false = true) by decide)] at H; exact H
                                    clear H
                                    have H := H1
                                    clear H1
                                    have H' := Aside0.mk H
                                    clear H
                                    have p102 : 0 ≤ (x4_1 : Int) := of_decide_eq_true mS
                                    have q102 : x4_1 < (l0.length : Int) := of_decide_eq_true mS
                                    obtain ⟨ad102, e102, hx102_0⟩ := Kd.at_int HR0.out x4_1 p102 q102
                                    cases e102
                                    replace hx102_0 := cB HB hx102_0
                                    replace p102 := eq_true p102
                                    replace q102 := eq_true q102
                                    go_wp2_with (first | ((with_reducible refine gate_callee (f := 28) rfl ?_); refine goL (some 24) Try.func28 #[.int .i64 7, .int .i64 0, .int .i64 (wrap64 ((l0.length : Int) - 1))] (h := ?_); (with_reducible refine (spec_l01In.calls 7 0 (wrap64 ((l0.length : Int) - 1)) true _ A9.out).mono ?_); rintro e w' ⟨rfl, ⟨nd, rfl⟩⟩; refine ⟨_, rfl, ?_⟩; (try (rw [drewN_self wc]; generalize hq_ : World.drewN wc _ = wc; have n0_ : Aside0 (wc.heap[gb101]? = some (.cells #[.bool x102000_1, .bool x102001_1, .bool x102002_1, .bool x102003_1, .bool x102004_1, .bool x102005_1, .bool x102006_1, .bool false] 50 (0, 0))) := ⟨by rw [← hq_]; exact (mk BK101.out)⟩; have n1_ : Aside0 (Below w.heap.size w wc) := ⟨by rw [← hq_]; exact mB⟩; clear BK101 HB hq_; have BK101 := n0_; have HB := n1_; clear n0_ n1_)); have p104 : 0 ≤ (x4_1 : Int) := of_decide_eq_true mS; have q104 : x4_1 < (l0.length : Int) := of_decide_eq_true mS; obtain ⟨ad104, e104, hx104_0⟩ := Kd.at_int HR0.out x4_1 p104 q104; obtain rfl : ad102 = ad104 := (by injection e104); replace hx104_0 := cB HB hx104_0; replace p104 := eq_true p104; replace q104 := eq_true q104; have hcz43_0 : wc.cell? ⟨gb101, 0, none⟩ = some (.bool x102000_1) := (blk_cell BK101.out 0).trans rfl; have hcz43_1 : wc.cell? ⟨gb101, 1, none⟩ = some (.bool x102001_1) := (blk_cell BK101.out 1).trans rfl; have hcz43_2 : wc.cell? ⟨gb101, 2, none⟩ = some (.bool x102002_1) := (blk_cell BK101.out 2).trans rfl; have hcz43_3 : wc.cell? ⟨gb101, 3, none⟩ = some (.bool x102003_1) := (blk_cell BK101.out 3).trans rfl; have hcz43_4 : wc.cell? ⟨gb101, 4, none⟩ = some (.bool x102004_1) := (blk_cell BK101.out 4).trans rfl; have hcz43_5 : wc.cell? ⟨gb101, 5, none⟩ = some (.bool x102005_1) := (blk_cell BK101.out 5).trans rfl; have hcz43_6 : wc.cell? ⟨gb101, 6, none⟩ = some (.bool x102006_1) := (blk_cell BK101.out 6).trans rfl; have hcz43_7 : wc.cell? ⟨gb101, 7, none⟩ = some (.bool false) := (blk_cell BK101.out 7).trans rfl; have hfz43_0 := blk_frozen BK101.out 0; have hfz43_1 := blk_frozen BK101.out 1; have hfz43_2 := blk_frozen BK101.out 2; have hfz43_3 := blk_frozen BK101.out 3; have hfz43_4 := blk_frozen BK101.out 4; have hfz43_5 := blk_frozen BK101.out 5; have hfz43_6 := blk_frozen BK101.out 6; have hfz43_7 := blk_frozen BK101.out 7; have p112 : 0 ≤ (x4_1 : Int) := of_decide_eq_true mS; have q112 : x4_1 < (l0.length : Int) := of_decide_eq_true mS; obtain ⟨ad112, e112, hx112_0⟩ := Kd.at_int HR0.out x4_1 p112 q112; obtain rfl : ad102 = ad112 := (by injection e112); replace hx112_0 := cB HB hx112_0; replace p112 := eq_true p112; replace q112 := eq_true q112))
                                    go_roundg kj3
                                    case measure => have := HK1.out; have := HJ3.out; omega
                                    case rel => exact ⟨(wrap64 (x4_1 + 1)), (x102000_1), (x102001_1), (x102002_1), (x102003_1), (x102004_1), (x102005_1), (x102006_1), (true), mF, H', ⟨by have := HK1.out; have := HJ3.out; omega⟩, ⟨by (with_reducible repeat (first | refine blk_drewN ?_ _ | refine blk_drew ?_ | refine blk_alloc ?_ _)); refine blk_put (cs := #[.bool x102000_1, .bool x102001_1, .bool x102002_1, .bool x102003_1, .bool x102004_1, .bool x102005_1, .bool x102006_1, .bool false]) ?_ 7 _ rfl; (with_reducible repeat (first | refine blk_drewN ?_ _ | refine blk_drew ?_ | refine blk_alloc ?_ _)); exact BK101.out⟩, ⟨mB⟩⟩
                                · rw [if_neg c40] at H
                                  exact absurd H (by simp)
                · replace c10 := Bool.eq_false_iff.mpr c10
                  subst c10
                  have H1 : (some false) = some r := by rw [if_neg (show ¬ (false = true) by decide)] at H; exact H
                  clear H
                  have H := H1
                  clear H1
                  obtain rfl := Option.some.inj H
                  have p102 : 0 ≤ (x4_1 : Int) := of_decide_eq_true mS
                  have q102 : x4_1 < (l0.length : Int) := of_decide_eq_true mS
                  obtain ⟨ad102, e102, hx102_0⟩ := Kd.at_int HR0.out x4_1 p102 q102
                  cases e102
                  replace hx102_0 := cB HB hx102_0
                  replace p102 := eq_true p102
                  replace q102 := eq_true q102
                  go_wp2_with (first | ((with_reducible refine gate_callee (f := 28) rfl ?_); refine goL (some 24) Try.func28 #[.int .i64 (rd l0 x4_1), .int .i64 0, .int .i64 (wrap64 ((l0.length : Int) - 1))] (h := ?_); (with_reducible refine (spec_l01In.calls (rd l0 x4_1) 0 (wrap64 ((l0.length : Int) - 1)) false _ A9.out).mono ?_); rintro e w' ⟨rfl, ⟨nd, rfl⟩⟩; refine ⟨_, rfl, ?_⟩))
                  go_ret
                  exact ⟨mE, mB⟩
              · rw [if_neg c8] at H
                exact absurd H (by simp)
            · rw [if_neg c7] at H
              exact absurd H (by simp)
          · replace c6 := Bool.eq_false_iff.mpr c6
            subst c6
            have H1 : (if (l0.length : Int) ≥ 1 then (some (decide ((l0.length : Int) ≤ 8))) else (some false)) = some r := by rw [if_neg (show ¬ (false = true) by decide)] at H; exact H
            clear H
            have H := H1
            clear H1
            by_cases c44 : (l0.length : Int) ≥ 1
            · rw [if_pos c44] at H
              have c44b0 : decide (1 ≤ (l0.length : Int)) = true := decide_eq_true c44
              have c44b1 : decide (1 ≤ l0.length) = true := decide_eq_true (by omega)
              clear c44
              obtain rfl := Option.some.inj H
              go_wp2
              go_ret
              exact ⟨mE, mB⟩
            · rw [if_neg c44] at H
              have c44b0 : decide (1 ≤ (l0.length : Int)) = false := decide_eq_false c44
              have c44b1 : decide (1 ≤ l0.length) = false := decide_eq_false (by omega)
              clear c44
              obtain rfl := Option.some.inj H
              go_wp2
              go_ret
              exact ⟨mE, mB⟩

/-! ### spec_l01Own: function 35 -/
def spec_l01Own.f (l0 : List Int) : Option (List Int) := (some (([] : List Int) : List Int)).bind fun y113 => (if y113.length + l0.length < 17592186044416 then (some (y113 ++ l0)) else (none))
set_option maxHeartbeats 8000000 in
set_option maxRecDepth 100000 in
theorem spec_l01Own.calls (A0 : Option Addr) (c0 : Nat) (l0 : List Int) (r : List Int) (w : World) (hr0 : Kd.C (Kd.int .i64) w A0 l0.length l0) (hc0 : l0.length ≤ c0) (h : spec_l01Own.f l0 = some r) :
    Calls Try.prog 35 #[.slice A0 l0.length c0] w fun e w' => ∃ v0_ : Value, e = .returned (v0_) ∧ Kd.R (Kd.int .i64) 2 w' w.heap.size (fun _ => True) v0_ r ∧ Below w.heap.size w w' := by
  have HR0 := Aside0.mk hr0
  have HC0 := Aside0.mk hc0
  clear hr0 hc0
  have HB := Aside0.mk (Below.refl w.heap.size w)
  have H : ((some (([] : List Int) : List Int)).bind fun y113 => (if y113.length + l0.length < 17592186044416 then (some (y113 ++ l0)) else (none))) = some r := h
  clear h
  obtain ⟨y113, hy113⟩ : ∃ y_ : List Int, y_ = (([] : List Int)) := ⟨_, rfl⟩
  replace H : (if y113.length + l0.length < 17592186044416 then (some (y113 ++ l0)) else (none)) = some r := by first | (rw [hy113]; with_reducible exact H) | (have H2_ := (Option.bind_some _ _).symm.trans H; rw [hy113]; with_reducible exact H2_) | (have H2_ := (Option.bind_some _ _).symm.trans H; with_reducible exact H2_) | with_reducible exact H | (rw [hy113]; exact H) | exact H
  have Ny113 := Aside0.mk hy113
  clear hy113
  by_cases c2 : y113.length + l0.length < 17592186044416
  · rw [if_pos c2] at H
    have LMc2 := Aside0.mk c2
    clear c2
    obtain ⟨y116, hy116⟩ : ∃ y_ : List Int, y_ = (y113 ++ l0) := ⟨_, rfl⟩
    replace H : (some y116) = some r := by first | (rw [hy116]; with_reducible exact H) | (have H2_ := (Option.bind_some _ _).symm.trans H; rw [hy116]; with_reducible exact H2_) | (have H2_ := (Option.bind_some _ _).symm.trans H; with_reducible exact H2_) | with_reducible exact H | (rw [hy116]; exact H) | exact H
    have Ny116 := Aside0.mk hy116
    clear hy116
    obtain rfl := Option.some.inj H
    go_enter Try.func35, Try.ntmps35
    go_wp2_with (first | ((with_reducible refine gate_dst (N := 3) rfl ?_); refine Kd.R_lit (Kd.int .i64) _ 2 ?hg (N := 3) ?hd (xs := ([] : List Int)) (inner := []) (ok := fun _ => True) (okp := fun _ => True) ?hr ?hp (fun _ hk => hk) trivial (Below.refl _ _) (Nat.le_refl _) (by simp) ?_; (case hd => rfl); (case hg => rfl); (case hr => first | (go_simp; done) | (go_simp; rfl)); (case hp => exact (Reps.none _ _)); intro v114 w3 ho4 hb hg_ hnew_; clear hg_ hnew_; (first | rw [← Ny113.out] at ho4 | (simp only [Int.reduceToNat] at ho4; rw [← Ny113.out] at ho4)); have n0_ := Aside0.mk (Kd.R_lower ho4 (below_size mB)); have n1_ := Aside0.mk (below_step mB hb); clear HB; have HO115 := n0_; have HB := n1_; clear n0_ n1_; clear hb ho4) | ((with_reducible refine gate_builtin (b := .append) (xs := #[.tmp 3, .tmp 4]) rfl ?_); at_builtin; refine Kd.R_append_rows (Kd.int .i64) (w0 := w) w.heap.size rfl (.tmp 3) (.tmp 4) 22 2 (.int .i64 0) 8 rfl Try.underlying22 info2 rfl (by decide) (by omega) v114 y113 l0 _ _ _ (fun _ => True) (fun _ => False) rfl rfl ?aO ?aR (fun _ _ h => h) (fun _ h => h.elim) ?aF ?aB ?aS ?aL ?_; (case aR => exact mC (Kd.C_below HR0.out HB.out)); (case aB => exact mB); (case aF => exact (fun _ _ => trivial)); (case aO => exact (mR HO115.out)); (case aS => exact (below_size mB)); (case aL => have := LMc2.out; omega); intro v117 w5 ho hb hg hat; rw [← Ny116.out] at ho; have n0_ := Aside0.mk (hb); have n1_ := Aside0.mk (ho); clear HB; clear HO115; have HB := n0_; have HO118 := n1_; clear n0_ n1_; clear ho hb hg hat))
    go_ret
    exact ⟨_, mE, mR HO118.out, mB⟩
  · rw [if_neg c2] at H
    exact absurd H (by simp)

end Go.Proofs.Ytpegpdcdcfcgdaa.EFnPermutationSeries
