/- The functions that the law uses, as plain functions, and that the code comes to what they say. -/
import Derived.Test.YtpegpdcdcfcgdaaEFnExactCountingSeriesx0
import Derived.Test.YtpegpdcdcfcgdaaEFnExactCountingSeriesx1
namespace Go.Proofs.Ytpegpdcdcfcgdaa.EFnExactCountingSeries
open Go.RowKit Go.Proofs.YtpegpdcdcfcgdaaW.PrintWords Go.Proofs.YtpegpdcdcfcgdaaW.PrintLast Go.Proofs.YtpegpdcdcfcgdaaW.PrintMore Go.Proofs.YtpegpdcdcfcgdaaX
attribute [local go_sem] max2_int min2_int max_two min_two max_three min_three max_four min_four   -- for this text's walks alone
set_option linter.unusedVariables false
set_option linter.unusedSimpArgs false

/-! ### spec_l04Permutation: function 24 -/
mutual
def spec_l04Permutation.l0 : Nat → List Int → Int → Bool → Bool → Bool → Bool → Bool → Bool → Bool → Bool → Option (Bool)
  | 0, _, _, _, _, _, _, _, _, _, _ => none
  | k + 1, x0, x4, x108000, x108001, x108002, x108003, x108004, x108005, x108006, x108007 => if x4 < (x0.length : Int) then (spec_l04Permutation.j1 k x0 x4 (decide ((x0.length : Int) ≤ 8)) x108000 x108001 x108002 x108003 x108004 x108005 x108006 x108007) else (spec_l04Permutation.j1 k x0 x4 false x108000 x108001 x108002 x108003 x108004 x108005 x108006 x108007)
def spec_l04Permutation.j1 : Nat → List Int → Int → Bool → Bool → Bool → Bool → Bool → Bool → Bool → Bool → Bool → Option (Bool)
  | 0, _, _, _, _, _, _, _, _, _, _, _ => none
  | k + 1, x0, x4, x14, x108000, x108001, x108002, x108003, x108004, x108005, x108006, x108007 => if x14 = true then (if 0 ≤ x4 then (if x4 < (x0.length : Int) then ((spec_l01In.f (rd x0 x4) 0 (wrap64 ((x0.length : Int) - 1))).bind fun t109 => (if t109 = true then (if rd x0 x4 = 0 then (if x108000 = true then (some false) else (spec_l04Permutation.l0 k x0 (wrap64 (x4 + 1)) true x108001 x108002 x108003 x108004 x108005 x108006 x108007)) else (if rd x0 x4 = 1 then (if x108001 = true then (some false) else (spec_l04Permutation.l0 k x0 (wrap64 (x4 + 1)) x108000 true x108002 x108003 x108004 x108005 x108006 x108007)) else (if rd x0 x4 = 2 then (if x108002 = true then (some false) else (spec_l04Permutation.l0 k x0 (wrap64 (x4 + 1)) x108000 x108001 true x108003 x108004 x108005 x108006 x108007)) else (if rd x0 x4 = 3 then (if x108003 = true then (some false) else (spec_l04Permutation.l0 k x0 (wrap64 (x4 + 1)) x108000 x108001 x108002 true x108004 x108005 x108006 x108007)) else (if rd x0 x4 = 4 then (if x108004 = true then (some false) else (spec_l04Permutation.l0 k x0 (wrap64 (x4 + 1)) x108000 x108001 x108002 x108003 true x108005 x108006 x108007)) else (if rd x0 x4 = 5 then (if x108005 = true then (some false) else (spec_l04Permutation.l0 k x0 (wrap64 (x4 + 1)) x108000 x108001 x108002 x108003 x108004 true x108006 x108007)) else (if rd x0 x4 = 6 then (if x108006 = true then (some false) else (spec_l04Permutation.l0 k x0 (wrap64 (x4 + 1)) x108000 x108001 x108002 x108003 x108004 x108005 true x108007)) else (if rd x0 x4 = 7 then (if x108007 = true then (some false) else (spec_l04Permutation.l0 k x0 (wrap64 (x4 + 1)) x108000 x108001 x108002 x108003 x108004 x108005 x108006 true)) else (none))))))))) else (some false))) else (none)) else (none)) else (if (x0.length : Int) ≥ 1 then (some (decide ((x0.length : Int) ≤ 8))) else (some false))
end
def spec_l04Permutation.f (k : Nat) (l0 : List Int) : Option (Bool) := spec_l04Permutation.l0 k l0 0 false false false false false false false false
theorem spec_l04Permutation.mono_l : ∀ k, (∀ y0 y1 y2 y3 y4 y5 y6 y7 y8 y9, LeO (spec_l04Permutation.l0 k y0 y1 y2 y3 y4 y5 y6 y7 y8 y9) (spec_l04Permutation.l0 (k + 1) y0 y1 y2 y3 y4 y5 y6 y7 y8 y9)) ∧ (∀ y0 y1 y2 y3 y4 y5 y6 y7 y8 y9 y10, LeO (spec_l04Permutation.j1 k y0 y1 y2 y3 y4 y5 y6 y7 y8 y9 y10) (spec_l04Permutation.j1 (k + 1) y0 y1 y2 y3 y4 y5 y6 y7 y8 y9 y10))
  | 0 => ⟨fun _ _ _ _ _ _ _ _ _ _ r h => by simp [spec_l04Permutation.l0] at h, fun _ _ _ _ _ _ _ _ _ _ _ r h => by simp [spec_l04Permutation.j1] at h⟩
  | k + 1 => by
    obtain ⟨ih0, ih1⟩ := spec_l04Permutation.mono_l k
    refine ⟨?_, ?_⟩
    · intro y0 y1 y2 y3 y4 y5 y6 y7 y8 y9
      unfold spec_l04Permutation.l0
      repeat' first
      | (with_reducible exact ih0 _ _ _ _ _ _ _ _ _ _)
      | (with_reducible exact ih1 _ _ _ _ _ _ _ _ _ _ _)
      | (with_reducible exact LeO.refl _)
      | (with_reducible exact LeO.none _)
      | (with_reducible refine LeO.ite ?_ ?_)
      | (with_reducible refine LeO.bind ?_ (fun _ => ?_))
      | exact ih0 _ _ _ _ _ _ _ _ _ _
      | exact ih1 _ _ _ _ _ _ _ _ _ _ _
      | exact LeO.none _
      | refine LeO.ite ?_ ?_
      | refine LeO.bind ?_ (fun _ => ?_)
    · intro y0 y1 y2 y3 y4 y5 y6 y7 y8 y9 y10
      unfold spec_l04Permutation.j1
      repeat' first
      | (with_reducible exact ih0 _ _ _ _ _ _ _ _ _ _)
      | (with_reducible exact ih1 _ _ _ _ _ _ _ _ _ _ _)
      | (with_reducible exact LeO.refl _)
      | (with_reducible exact LeO.none _)
      | (with_reducible refine LeO.ite ?_ ?_)
      | (with_reducible refine LeO.bind ?_ (fun _ => ?_))
      | exact ih0 _ _ _ _ _ _ _ _ _ _
      | exact ih1 _ _ _ _ _ _ _ _ _ _ _
      | exact LeO.none _
      | refine LeO.ite ?_ ?_
      | refine LeO.bind ?_ (fun _ => ?_)
theorem spec_l04Permutation.mono : ∀ a0 k, LeO (spec_l04Permutation.f k a0) (spec_l04Permutation.f (k + 1) a0) := by
  intro a0 k
  obtain ⟨ih0, ih1⟩ := spec_l04Permutation.mono_l k
  unfold spec_l04Permutation.f
  repeat' first
      | (with_reducible exact ih0 _ _ _ _ _ _ _ _ _ _)
      | (with_reducible exact ih1 _ _ _ _ _ _ _ _ _ _ _)
      | (with_reducible exact LeO.refl _)
      | (with_reducible exact LeO.none _)
      | (with_reducible refine LeO.ite ?_ ?_)
      | (with_reducible refine LeO.bind ?_ (fun _ => ?_))
      | exact ih0 _ _ _ _ _ _ _ _ _ _
      | exact ih1 _ _ _ _ _ _ _ _ _ _ _
      | exact LeO.none _
      | refine LeO.ite ?_ ?_
      | refine LeO.bind ?_ (fun _ => ?_)
set_option maxHeartbeats 8000000 in
set_option maxRecDepth 100000 in
theorem spec_l04Permutation.calls (k : Nat) (A0 : Option Addr) (c0 : Nat) (l0 : List Int) (r : Bool) (w : World) (hr0 : Kd.C (Kd.int .i64) w A0 l0.length l0) (hc0 : l0.length ≤ c0) (h : spec_l04Permutation.f k l0 = some r) :
    Calls Try.prog 24 #[.slice A0 l0.length c0] w fun e w' => e = .returned (.bool r) ∧ Below w.heap.size w w' := by
  have hu50 := Try.underlying50
  have HR0 := Aside0.mk hr0
  have HC0 := Aside0.mk hc0
  clear hr0 hc0
  have HB := Aside0.mk (Below.refl w.heap.size w)
  have H : (spec_l04Permutation.l0 k l0 0 false false false false false false false false) = some r := h
  clear h
  have H' := Aside0.mk H
  clear H
  go_enter Try.func24, Try.ntmps24
  go_wp2_with (first | ((with_reducible refine gate_dst (N := 3) rfl ?_); (try (refine gate_guard (by rfl) ?_; dsimp only)); refine box_event ?hg (N := 3) ?hd (cs := #[.bool false, .bool false, .bool false, .bool false, .bool false, .bool false, .bool false, .bool false]) (t := 50) ?hr ?_; (case hd => rfl); (case hg => rfl); (case hr => first | (go_simp; done) | (go_simp; rfl)); intro gb107 hg w2 hbox hb; have n0_ := Aside0.mk (below_step mB hb); have n1_ := Aside0.mk (hbox); have n2_ := Aside0.mk ((mG : w.heap.size ≤ gb107)); have n3_ := Aside0.mk ((mG : w.heap.size ≤ gb107)); clear HB; have HB := n0_; have BK107 := n1_; have GW107 := n2_; have GE107 := n3_; clear n0_ n1_ n2_ n3_; clear hb hbox hg; have hcz3_0 : w2.cell? ⟨gb107, 0, none⟩ = some (.bool false) := (blk_cell BK107.out 0).trans rfl; have hcz3_1 : w2.cell? ⟨gb107, 1, none⟩ = some (.bool false) := (blk_cell BK107.out 1).trans rfl; have hcz3_2 : w2.cell? ⟨gb107, 2, none⟩ = some (.bool false) := (blk_cell BK107.out 2).trans rfl; have hcz3_3 : w2.cell? ⟨gb107, 3, none⟩ = some (.bool false) := (blk_cell BK107.out 3).trans rfl; have hcz3_4 : w2.cell? ⟨gb107, 4, none⟩ = some (.bool false) := (blk_cell BK107.out 4).trans rfl; have hcz3_5 : w2.cell? ⟨gb107, 5, none⟩ = some (.bool false) := (blk_cell BK107.out 5).trans rfl; have hcz3_6 : w2.cell? ⟨gb107, 6, none⟩ = some (.bool false) := (blk_cell BK107.out 6).trans rfl; have hcz3_7 : w2.cell? ⟨gb107, 7, none⟩ = some (.bool false) := (blk_cell BK107.out 7).trans rfl; have hfz3_0 := blk_frozen BK107.out 0; have hfz3_1 := blk_frozen BK107.out 1; have hfz3_2 := blk_frozen BK107.out 2; have hfz3_3 := blk_frozen BK107.out 3; have hfz3_4 := blk_frozen BK107.out 4; have hfz3_5 := blk_frozen BK107.out 5; have hfz3_6 := blk_frozen BK107.out 6; have hfz3_7 := blk_frozen BK107.out 7))
  go_loopg [4] k (fun kq v4 w' => ∃ (x4_1 : Int) (x108000_1 : Bool) (x108001_1 : Bool) (x108002_1 : Bool) (x108003_1 : Bool) (x108004_1 : Bool) (x108005_1 : Bool) (x108006_1 : Bool) (x108007_1 : Bool), v4 = .int .i64 x4_1 ∧ Aside0 (spec_l04Permutation.l0 kq l0 x4_1 x108000_1 x108001_1 x108002_1 x108003_1 x108004_1 x108005_1 x108006_1 x108007_1 = some r) ∧ Aside0 (kq ≤ k) ∧ Aside0 (w'.heap[gb107]? = some (.cells #[.bool x108000_1, .bool x108001_1, .bool x108002_1, .bool x108003_1, .bool x108004_1, .bool x108005_1, .bool x108006_1, .bool x108007_1] 50 (0, 0))) ∧ Aside0 (Below w.heap.size w w'))
  case atStart => exact ⟨(0), (false), (false), (false), (false), (false), (false), (false), (false), mF, H', ⟨Nat.le_refl _⟩, ⟨by (with_reducible repeat (first | refine blk_drewN ?_ _ | refine blk_drew ?_ | refine blk_alloc ?_ _)); refine blk_put (cs := #[.bool false, .bool false, .bool false, .bool false, .bool false, .bool false, .bool false, .bool false]) ?_ 7 _ rfl; (with_reducible repeat (first | refine blk_drewN ?_ _ | refine blk_drew ?_ | refine blk_alloc ?_ _)); refine blk_put (cs := #[.bool false, .bool false, .bool false, .bool false, .bool false, .bool false, .bool false, .bool false]) ?_ 6 _ rfl; (with_reducible repeat (first | refine blk_drewN ?_ _ | refine blk_drew ?_ | refine blk_alloc ?_ _)); refine blk_put (cs := #[.bool false, .bool false, .bool false, .bool false, .bool false, .bool false, .bool false, .bool false]) ?_ 5 _ rfl; (with_reducible repeat (first | refine blk_drewN ?_ _ | refine blk_drew ?_ | refine blk_alloc ?_ _)); refine blk_put (cs := #[.bool false, .bool false, .bool false, .bool false, .bool false, .bool false, .bool false, .bool false]) ?_ 4 _ rfl; (with_reducible repeat (first | refine blk_drewN ?_ _ | refine blk_drew ?_ | refine blk_alloc ?_ _)); refine blk_put (cs := #[.bool false, .bool false, .bool false, .bool false, .bool false, .bool false, .bool false, .bool false]) ?_ 3 _ rfl; (with_reducible repeat (first | refine blk_drewN ?_ _ | refine blk_drew ?_ | refine blk_alloc ?_ _)); refine blk_put (cs := #[.bool false, .bool false, .bool false, .bool false, .bool false, .bool false, .bool false, .bool false]) ?_ 2 _ rfl; (with_reducible repeat (first | refine blk_drewN ?_ _ | refine blk_drew ?_ | refine blk_alloc ?_ _)); refine blk_put (cs := #[.bool false, .bool false, .bool false, .bool false, .bool false, .bool false, .bool false, .bool false]) ?_ 1 _ rfl; (with_reducible repeat (first | refine blk_drewN ?_ _ | refine blk_drew ?_ | refine blk_alloc ?_ _)); refine blk_put (cs := #[.bool false, .bool false, .bool false, .bool false, .bool false, .bool false, .bool false, .bool false]) ?_ 0 _ rfl; (with_reducible repeat (first | refine blk_drewN ?_ _ | refine blk_drew ?_ | refine blk_alloc ?_ _)); exact BK107.out⟩, ⟨mB⟩⟩
  case round =>
    clear H'
    try clear c2
    try clear p2
    try clear hcz3_0
    try clear hcz3_1
    try clear hcz3_2
    try clear hcz3_3
    try clear hcz3_4
    try clear hcz3_5
    try clear hcz3_6
    try clear hcz3_7
    try clear hfz3_0
    try clear hfz3_1
    try clear hfz3_2
    try clear hfz3_3
    try clear hfz3_4
    try clear hfz3_5
    try clear hfz3_6
    try clear hfz3_7
    obtain ⟨x4_1, x108000_1, x108001_1, x108002_1, x108003_1, x108004_1, x108005_1, x108006_1, x108007_1, rfl, HA, HK1, BK107, HB⟩ := hrel
    cases gk with
    | zero => exact absurd HA.out (by simp [spec_l04Permutation.l0])
    | succ k1 =>
      have H := HA.out
      clear HA
      simp only [spec_l04Permutation.l0] at H
      have HC4 := Aside0.mk H
      clear H
      go_upto_region 3 with (fail)
      go_cut [14] (fun v14 wc => ∃ (kq : Nat) (x14_3 : Bool), v14 = .bool x14_3 ∧ Aside0 (spec_l04Permutation.j1 kq l0 x4_1 x14_3 x108000_1 x108001_1 x108002_1 x108003_1 x108004_1 x108005_1 x108006_1 x108007_1 = some r) ∧ Aside0 (kq ≤ k1) ∧ Aside0 (wc.heap[gb107]? = some (.cells #[.bool x108000_1, .bool x108001_1, .bool x108002_1, .bool x108003_1, .bool x108004_1, .bool x108005_1, .bool x108006_1, .bool x108007_1] 50 (0, 0))) ∧ Aside0 (Below w.heap.size w wc))
      case first =>
        have H := HC4.out
        clear HC4
        by_cases c5 : x4_1 < (l0.length : Int)
        · rw [if_pos c5] at H
          have c5b0 : decide (x4_1 < (l0.length : Int)) = true := decide_eq_true c5
          clear c5
          (first | rw [c5b0] | (simp only [i64_w, i32_w]; rw [c5b0]) | skip)
          have H' := Aside0.mk H
          clear H
          go_wp2
          go_meet
          case rel => exact ⟨_, (decide ((l0.length : Int) ≤ 8)), mF, H', ⟨by have := HK1.out; first | omega | exact Nat.le_refl _⟩, ⟨by (with_reducible repeat (first | refine blk_drewN ?_ _ | refine blk_drew ?_ | refine blk_alloc ?_ _)); exact BK107.out⟩, ⟨mB⟩⟩
        · rw [if_neg c5] at H
          have c5b0 : decide (x4_1 < (l0.length : Int)) = false := decide_eq_false c5
          clear c5
          (first | rw [c5b0] | (simp only [i64_w, i32_w]; rw [c5b0]) | skip)
          have H' := Aside0.mk H
          clear H
          go_wp2
          go_meet
          case rel => exact ⟨_, (false), mF, H', ⟨by have := HK1.out; first | omega | exact Nat.le_refl _⟩, ⟨by (with_reducible repeat (first | refine blk_drewN ?_ _ | refine blk_drew ?_ | refine blk_alloc ?_ _)); exact BK107.out⟩, ⟨mB⟩⟩
      case rest =>
        clear HC4
        try clear c2
        try clear p2
        try clear c5
        try clear c5b0
        try clear hcz3_0
        try clear hcz3_1
        try clear hcz3_2
        try clear hcz3_3
        try clear hcz3_4
        try clear hcz3_5
        try clear hcz3_6
        try clear hcz3_7
        try clear hfz3_0
        try clear hfz3_1
        try clear hfz3_2
        try clear hfz3_3
        try clear hfz3_4
        try clear hfz3_5
        try clear hfz3_6
        try clear hfz3_7
        try clear p2
        obtain ⟨kq, x14_3, rfl, HA, HJ3, BK107, HB⟩ := hcut
        cases kq with
        | zero => exact absurd HA.out (by simp [spec_l04Permutation.j1])
        | succ kj3 =>
          have H := HA.out
          clear HA
          simp only [spec_l04Permutation.j1] at H
          by_cases c6 : x14_3 = true
          · subst c6
            have H1 : (if 0 ≤ x4_1 then (if x4_1 < (l0.length : Int) then ((spec_l01In.f (rd l0 x4_1) 0 (wrap64 ((l0.length : Int) - 1))).bind fun t109 => (if t109 = true then (if rd l0 x4_1 = 0 then (if x108000_1 = true then (some false) else (spec_l04Permutation.l0 kj3 l0 (wrap64 (x4_1 + 1)) true x108001_1 x108002_1 x108003_1 x108004_1 x108005_1 x108006_1 x108007_1)) else (if rd l0 x4_1 = 1 then (if x108001_1 = true then (some false) else (spec_l04Permutation.l0 kj3 l0 (wrap64 (x4_1 + 1)) x108000_1 true x108002_1 x108003_1 x108004_1 x108005_1 x108006_1 x108007_1)) else (if rd l0 x4_1 = 2 then (if x108002_1 = true then (some false) else (spec_l04Permutation.l0 kj3 l0 (wrap64 (x4_1 + 1)) x108000_1 x108001_1 true x108003_1 x108004_1 x108005_1 x108006_1 x108007_1)) else (if rd l0 x4_1 = 3 then (if x108003_1 = true then (some false) else (spec_l04Permutation.l0 kj3 l0 (wrap64 (x4_1 + 1)) x108000_1 x108001_1 x108002_1 true x108004_1 x108005_1 x108006_1 x108007_1)) else (if rd l0 x4_1 = 4 then (if x108004_1 = true then (some false) else (spec_l04Permutation.l0 kj3 l0 (wrap64 (x4_1 + 1)) x108000_1 x108001_1 x108002_1 x108003_1 true x108005_1 x108006_1 x108007_1)) else (if rd l0 x4_1 = 5 then (if x108005_1 = true then (some false) else (spec_l04Permutation.l0 kj3 l0 (wrap64 (x4_1 + 1)) x108000_1 x108001_1 x108002_1 x108003_1 x108004_1 true x108006_1 x108007_1)) else (if rd l0 x4_1 = 6 then (if x108006_1 = true then (some false) else (spec_l04Permutation.l0 kj3 l0 (wrap64 (x4_1 + 1)) x108000_1 x108001_1 x108002_1 x108003_1 x108004_1 x108005_1 true x108007_1)) else (if rd l0 x4_1 = 7 then (if x108007_1 = true then (some false) else (spec_l04Permutation.l0 kj3 l0 (wrap64 (x4_1 + 1)) x108000_1 x108001_1 x108002_1 x108003_1 x108004_1 x108005_1 x108006_1 true)) else (none))))))))) else (some false))) else (none)) else (none)) = some r := by rw [if_pos rfl] at H; exact H
            clear H
            have H := H1
            clear H1
            by_cases c7 : 0 ≤ x4_1
            · rw [if_pos c7] at H
              have c7b0 : decide (0 ≤ x4_1) = true := decide_eq_true c7
              clear c7
              by_cases c8 : x4_1 < (l0.length : Int)
              · rw [if_pos c8] at H
                have c8b0 : decide (x4_1 < (l0.length : Int)) = true := decide_eq_true c8
                clear c8
                replace H := Option.bind_eq_some_iff.mp H
                obtain ⟨t109, A90, H⟩ := H
                replace H : (if t109 = true then (if rd l0 x4_1 = 0 then (if x108000_1 = true then (some false) else (spec_l04Permutation.l0 kj3 l0 (wrap64 (x4_1 + 1)) true x108001_1 x108002_1 x108003_1 x108004_1 x108005_1 x108006_1 x108007_1)) else (if rd l0 x4_1 = 1 then (if x108001_1 = true then (some false) else (spec_l04Permutation.l0 kj3 l0 (wrap64 (x4_1 + 1)) x108000_1 true x108002_1 x108003_1 x108004_1 x108005_1 x108006_1 x108007_1)) else (if rd l0 x4_1 = 2 then (if x108002_1 = true then (some false) else (spec_l04Permutation.l0 kj3 l0 (wrap64 (x4_1 + 1)) x108000_1 x108001_1 true x108003_1 x108004_1 x108005_1 x108006_1 x108007_1)) else (if rd l0 x4_1 = 3 then (if x108003_1 = true then (some false) else (spec_l04Permutation.l0 kj3 l0 (wrap64 (x4_1 + 1)) x108000_1 x108001_1 x108002_1 true x108004_1 x108005_1 x108006_1 x108007_1)) else (if rd l0 x4_1 = 4 then (if x108004_1 = true then (some false) else (spec_l04Permutation.l0 kj3 l0 (wrap64 (x4_1 + 1)) x108000_1 x108001_1 x108002_1 x108003_1 true x108005_1 x108006_1 x108007_1)) else (if rd l0 x4_1 = 5 then (if x108005_1 = true then (some false) else (spec_l04Permutation.l0 kj3 l0 (wrap64 (x4_1 + 1)) x108000_1 x108001_1 x108002_1 x108003_1 x108004_1 true x108006_1 x108007_1)) else (if rd l0 x4_1 = 6 then (if x108006_1 = true then (some false) else (spec_l04Permutation.l0 kj3 l0 (wrap64 (x4_1 + 1)) x108000_1 x108001_1 x108002_1 x108003_1 x108004_1 x108005_1 true x108007_1)) else (if rd l0 x4_1 = 7 then (if x108007_1 = true then (some false) else (spec_l04Permutation.l0 kj3 l0 (wrap64 (x4_1 + 1)) x108000_1 x108001_1 x108002_1 x108003_1 x108004_1 x108005_1 x108006_1 true)) else (none))))))))) else (some false)) = some r := H
                have A9 := Aside0.mk A90
                clear A90
                by_cases c10 : t109 = true
                · subst c10
                  have H1 : (if rd l0 x4_1 = 0 then (if x108000_1 = true then (some false) else (spec_l04Permutation.l0 kj3 l0 (wrap64 (x4_1 + 1)) true x108001_1 x108002_1 x108003_1 x108004_1 x108005_1 x108006_1 x108007_1)) else (if rd l0 x4_1 = 1 then (if x108001_1 = true then (some false) else (spec_l04Permutation.l0 kj3 l0 (wrap64 (x4_1 + 1)) x108000_1 true x108002_1 x108003_1 x108004_1 x108005_1 x108006_1 x108007_1)) else (if rd l0 x4_1 = 2 then (if x108002_1 = true then (some false) else (spec_l04Permutation.l0 kj3 l0 (wrap64 (x4_1 + 1)) x108000_1 x108001_1 true x108003_1 x108004_1 x108005_1 x108006_1 x108007_1)) else (if rd l0 x4_1 = 3 then (if x108003_1 = true then (some false) else (spec_l04Permutation.l0 kj3 l0 (wrap64 (x4_1 + 1)) x108000_1 x108001_1 x108002_1 true x108004_1 x108005_1 x108006_1 x108007_1)) else (if rd l0 x4_1 = 4 then (if x108004_1 = true then (some false) else (spec_l04Permutation.l0 kj3 l0 (wrap64 (x4_1 + 1)) x108000_1 x108001_1 x108002_1 x108003_1 true x108005_1 x108006_1 x108007_1)) else (if rd l0 x4_1 = 5 then (if x108005_1 = true then (some false) else (spec_l04Permutation.l0 kj3 l0 (wrap64 (x4_1 + 1)) x108000_1 x108001_1 x108002_1 x108003_1 x108004_1 true x108006_1 x108007_1)) else (if rd l0 x4_1 = 6 then (if x108006_1 = true then (some false) else (spec_l04Permutation.l0 kj3 l0 (wrap64 (x4_1 + 1)) x108000_1 x108001_1 x108002_1 x108003_1 x108004_1 x108005_1 true x108007_1)) else (if rd l0 x4_1 = 7 then (if x108007_1 = true then (some false) else (spec_l04Permutation.l0 kj3 l0 (wrap64 (x4_1 + 1)) x108000_1 x108001_1 x108002_1 x108003_1 x108004_1 x108005_1 x108006_1 true)) else (none))))))))) = some r := by rw [if_pos rfl] at H; exact H
                  clear H
                  have H := H1
                  clear H1
                  obtain ⟨ji11, hji11⟩ : ∃ j_ : Int, (rd l0 x4_1) = j_ := ⟨_, rfl⟩
                  replace H : (if ji11 = 0 then (if x108000_1 = true then (some false) else (spec_l04Permutation.l0 kj3 l0 (wrap64 (x4_1 + 1)) true x108001_1 x108002_1 x108003_1 x108004_1 x108005_1 x108006_1 x108007_1)) else (if ji11 = 1 then (if x108001_1 = true then (some false) else (spec_l04Permutation.l0 kj3 l0 (wrap64 (x4_1 + 1)) x108000_1 true x108002_1 x108003_1 x108004_1 x108005_1 x108006_1 x108007_1)) else (if ji11 = 2 then (if x108002_1 = true then (some false) else (spec_l04Permutation.l0 kj3 l0 (wrap64 (x4_1 + 1)) x108000_1 x108001_1 true x108003_1 x108004_1 x108005_1 x108006_1 x108007_1)) else (if ji11 = 3 then (if x108003_1 = true then (some false) else (spec_l04Permutation.l0 kj3 l0 (wrap64 (x4_1 + 1)) x108000_1 x108001_1 x108002_1 true x108004_1 x108005_1 x108006_1 x108007_1)) else (if ji11 = 4 then (if x108004_1 = true then (some false) else (spec_l04Permutation.l0 kj3 l0 (wrap64 (x4_1 + 1)) x108000_1 x108001_1 x108002_1 x108003_1 true x108005_1 x108006_1 x108007_1)) else (if ji11 = 5 then (if x108005_1 = true then (some false) else (spec_l04Permutation.l0 kj3 l0 (wrap64 (x4_1 + 1)) x108000_1 x108001_1 x108002_1 x108003_1 x108004_1 true x108006_1 x108007_1)) else (if ji11 = 6 then (if x108006_1 = true then (some false) else (spec_l04Permutation.l0 kj3 l0 (wrap64 (x4_1 + 1)) x108000_1 x108001_1 x108002_1 x108003_1 x108004_1 x108005_1 true x108007_1)) else (if ji11 = 7 then (if x108007_1 = true then (some false) else (spec_l04Permutation.l0 kj3 l0 (wrap64 (x4_1 + 1)) x108000_1 x108001_1 x108002_1 x108003_1 x108004_1 x108005_1 x108006_1 true)) else (none))))))))) = some r := by first | (rw [hji11] at H; exact H) | (simp only [hji11] at H ⊢; exact H)
                  (try rw [hji11] at A9)
                  by_cases c12 : ji11 = 0
                  · subst c12
                    have H1 : (if x108000_1 = true then (some false) else (spec_l04Permutation.l0 kj3 l0 (wrap64 (x4_1 + 1)) true x108001_1 x108002_1 x108003_1 x108004_1 x108005_1 x108006_1 x108007_1)) = some r := by rw [if_pos rfl] at H; exact H
                    clear H
                    have H := H1
                    clear H1
                    by_cases c13 : x108000_1 = true
                    · subst c13
                      have H1 : (some false) = some r := by rw [if_pos rfl] at H; exact H
                      clear H
                      have H := H1
                      clear H1
                      obtain rfl := Option.some.inj H
                      have p108 : 0 ≤ (x4_1 : Int) := of_decide_eq_true mS
                      have q108 : x4_1 < (l0.length : Int) := of_decide_eq_true mS
                      obtain ⟨ad108, e108, hx108_0⟩ := Kd.at_int HR0.out x4_1 p108 q108
                      cases e108
                      replace hx108_0 := cB HB hx108_0
                      replace p108 := eq_true p108
                      replace q108 := eq_true q108
                      go_wp2_with (first | ((with_reducible refine gate_callee (f := 28) rfl ?_); refine goL (some 24) Try.func28 #[.int .i64 0, .int .i64 0, .int .i64 (wrap64 ((l0.length : Int) - 1))] (h := ?_); (with_reducible refine (spec_l01In.calls 0 0 (wrap64 ((l0.length : Int) - 1)) true _ A9.out).mono ?_); rintro e w' ⟨rfl, ⟨nd, rfl⟩⟩; refine ⟨_, rfl, ?_⟩; have p110 : 0 ≤ (x4_1 : Int) := of_decide_eq_true mS; have q110 : x4_1 < (l0.length : Int) := of_decide_eq_true mS; obtain ⟨ad110, e110, hx110_0⟩ := Kd.at_int HR0.out x4_1 p110 q110; obtain rfl : ad108 = ad110 := (by injection e110); replace hx110_0 := cB HB hx110_0; replace p110 := eq_true p110; replace q110 := eq_true q110; have hcz14_0 : wc.cell? ⟨gb107, 0, none⟩ = some (.bool true) := (blk_cell BK107.out 0).trans rfl; have hcz14_1 : wc.cell? ⟨gb107, 1, none⟩ = some (.bool x108001_1) := (blk_cell BK107.out 1).trans rfl; have hcz14_2 : wc.cell? ⟨gb107, 2, none⟩ = some (.bool x108002_1) := (blk_cell BK107.out 2).trans rfl; have hcz14_3 : wc.cell? ⟨gb107, 3, none⟩ = some (.bool x108003_1) := (blk_cell BK107.out 3).trans rfl; have hcz14_4 : wc.cell? ⟨gb107, 4, none⟩ = some (.bool x108004_1) := (blk_cell BK107.out 4).trans rfl; have hcz14_5 : wc.cell? ⟨gb107, 5, none⟩ = some (.bool x108005_1) := (blk_cell BK107.out 5).trans rfl; have hcz14_6 : wc.cell? ⟨gb107, 6, none⟩ = some (.bool x108006_1) := (blk_cell BK107.out 6).trans rfl; have hcz14_7 : wc.cell? ⟨gb107, 7, none⟩ = some (.bool x108007_1) := (blk_cell BK107.out 7).trans rfl; have hfz14_0 := blk_frozen BK107.out 0; have hfz14_1 := blk_frozen BK107.out 1; have hfz14_2 := blk_frozen BK107.out 2; have hfz14_3 := blk_frozen BK107.out 3; have hfz14_4 := blk_frozen BK107.out 4; have hfz14_5 := blk_frozen BK107.out 5; have hfz14_6 := blk_frozen BK107.out 6; have hfz14_7 := blk_frozen BK107.out 7))
                      go_ret
                      exact ⟨by first | rfl | (simp [errW_none, errW_some] <;> rfl) | (simp only [← hji11]; first | rfl | (simp [errW_none, errW_some] <;> rfl)) | (simp [*, errW_none, errW_some] <;> rfl), mB⟩
                    · replace c13 := Bool.eq_false_iff.mpr c13
                      subst c13
                      have H1 : (spec_l04Permutation.l0 kj3 l0 (wrap64 (x4_1 + 1)) true x108001_1 x108002_1 x108003_1 x108004_1 x108005_1 x108006_1 x108007_1) = some r := by rw [if_neg (show ¬ (false = true) by decide)] at H; exact H
                      clear H
                      have H := H1
                      clear H1
                      have H' := Aside0.mk H
                      clear H
                      have p108 : 0 ≤ (x4_1 : Int) := of_decide_eq_true mS
                      have q108 : x4_1 < (l0.length : Int) := of_decide_eq_true mS
                      obtain ⟨ad108, e108, hx108_0⟩ := Kd.at_int HR0.out x4_1 p108 q108
                      cases e108
                      replace hx108_0 := cB HB hx108_0
                      replace p108 := eq_true p108
                      replace q108 := eq_true q108
                      go_wp2_with (first | ((with_reducible refine gate_callee (f := 28) rfl ?_); refine goL (some 24) Try.func28 #[.int .i64 0, .int .i64 0, .int .i64 (wrap64 ((l0.length : Int) - 1))] (h := ?_); (with_reducible refine (spec_l01In.calls 0 0 (wrap64 ((l0.length : Int) - 1)) true _ A9.out).mono ?_); rintro e w' ⟨rfl, ⟨nd, rfl⟩⟩; refine ⟨_, rfl, ?_⟩; (try (rw [drewN_self wc]; generalize hq_ : World.drewN wc _ = wc; have n0_ : Aside0 (wc.heap[gb107]? = some (.cells #[.bool false, .bool x108001_1, .bool x108002_1, .bool x108003_1, .bool x108004_1, .bool x108005_1, .bool x108006_1, .bool x108007_1] 50 (0, 0))) := ⟨by rw [← hq_]; exact (mk BK107.out)⟩; have n1_ : Aside0 (Below w.heap.size w wc) := ⟨by rw [← hq_]; exact mB⟩; clear BK107 HB hq_; have BK107 := n0_; have HB := n1_; clear n0_ n1_)); have p110 : 0 ≤ (x4_1 : Int) := of_decide_eq_true mS; have q110 : x4_1 < (l0.length : Int) := of_decide_eq_true mS; obtain ⟨ad110, e110, hx110_0⟩ := Kd.at_int HR0.out x4_1 p110 q110; obtain rfl : ad108 = ad110 := (by injection e110); replace hx110_0 := cB HB hx110_0; replace p110 := eq_true p110; replace q110 := eq_true q110; have hcz15_0 : wc.cell? ⟨gb107, 0, none⟩ = some (.bool false) := (blk_cell BK107.out 0).trans rfl; have hcz15_1 : wc.cell? ⟨gb107, 1, none⟩ = some (.bool x108001_1) := (blk_cell BK107.out 1).trans rfl; have hcz15_2 : wc.cell? ⟨gb107, 2, none⟩ = some (.bool x108002_1) := (blk_cell BK107.out 2).trans rfl; have hcz15_3 : wc.cell? ⟨gb107, 3, none⟩ = some (.bool x108003_1) := (blk_cell BK107.out 3).trans rfl; have hcz15_4 : wc.cell? ⟨gb107, 4, none⟩ = some (.bool x108004_1) := (blk_cell BK107.out 4).trans rfl; have hcz15_5 : wc.cell? ⟨gb107, 5, none⟩ = some (.bool x108005_1) := (blk_cell BK107.out 5).trans rfl; have hcz15_6 : wc.cell? ⟨gb107, 6, none⟩ = some (.bool x108006_1) := (blk_cell BK107.out 6).trans rfl; have hcz15_7 : wc.cell? ⟨gb107, 7, none⟩ = some (.bool x108007_1) := (blk_cell BK107.out 7).trans rfl; have hfz15_0 := blk_frozen BK107.out 0; have hfz15_1 := blk_frozen BK107.out 1; have hfz15_2 := blk_frozen BK107.out 2; have hfz15_3 := blk_frozen BK107.out 3; have hfz15_4 := blk_frozen BK107.out 4; have hfz15_5 := blk_frozen BK107.out 5; have hfz15_6 := blk_frozen BK107.out 6; have hfz15_7 := blk_frozen BK107.out 7; have p111 : 0 ≤ (x4_1 : Int) := of_decide_eq_true mS; have q111 : x4_1 < (l0.length : Int) := of_decide_eq_true mS; obtain ⟨ad111, e111, hx111_0⟩ := Kd.at_int HR0.out x4_1 p111 q111; obtain rfl : ad108 = ad111 := (by injection e111); replace hx111_0 := cB HB hx111_0; replace p111 := eq_true p111; replace q111 := eq_true q111))
                      go_roundg kj3
                      case measure => have := HK1.out; have := HJ3.out; omega
                      case rel => exact ⟨(wrap64 (x4_1 + 1)), (true), (x108001_1), (x108002_1), (x108003_1), (x108004_1), (x108005_1), (x108006_1), (x108007_1), mF, H', ⟨by have := HK1.out; have := HJ3.out; omega⟩, ⟨by (with_reducible repeat (first | refine blk_drewN ?_ _ | refine blk_drew ?_ | refine blk_alloc ?_ _)); refine blk_put (cs := #[.bool false, .bool x108001_1, .bool x108002_1, .bool x108003_1, .bool x108004_1, .bool x108005_1, .bool x108006_1, .bool x108007_1]) ?_ 0 _ rfl; (with_reducible repeat (first | refine blk_drewN ?_ _ | refine blk_drew ?_ | refine blk_alloc ?_ _)); exact BK107.out⟩, ⟨mB⟩⟩
                  · rw [if_neg c12] at H
                    by_cases c16 : ji11 = 1
                    · subst c16
                      have H1 : (if x108001_1 = true then (some false) else (spec_l04Permutation.l0 kj3 l0 (wrap64 (x4_1 + 1)) x108000_1 true x108002_1 x108003_1 x108004_1 x108005_1 x108006_1 x108007_1)) = some r := by rw [if_pos rfl] at H; exact H
                      clear H
                      have H := H1
                      clear H1
                      by_cases c17 : x108001_1 = true
                      · subst c17
                        have H1 : (some false) = some r := by rw [if_pos rfl] at H; exact H
                        clear H
                        have H := H1
                        clear H1
                        obtain rfl := Option.some.inj H
                        have p108 : 0 ≤ (x4_1 : Int) := of_decide_eq_true mS
                        have q108 : x4_1 < (l0.length : Int) := of_decide_eq_true mS
                        obtain ⟨ad108, e108, hx108_0⟩ := Kd.at_int HR0.out x4_1 p108 q108
                        cases e108
                        replace hx108_0 := cB HB hx108_0
                        replace p108 := eq_true p108
                        replace q108 := eq_true q108
                        go_wp2_with (first | ((with_reducible refine gate_callee (f := 28) rfl ?_); refine goL (some 24) Try.func28 #[.int .i64 1, .int .i64 0, .int .i64 (wrap64 ((l0.length : Int) - 1))] (h := ?_); (with_reducible refine (spec_l01In.calls 1 0 (wrap64 ((l0.length : Int) - 1)) true _ A9.out).mono ?_); rintro e w' ⟨rfl, ⟨nd, rfl⟩⟩; refine ⟨_, rfl, ?_⟩; have p110 : 0 ≤ (x4_1 : Int) := of_decide_eq_true mS; have q110 : x4_1 < (l0.length : Int) := of_decide_eq_true mS; obtain ⟨ad110, e110, hx110_0⟩ := Kd.at_int HR0.out x4_1 p110 q110; obtain rfl : ad108 = ad110 := (by injection e110); replace hx110_0 := cB HB hx110_0; replace p110 := eq_true p110; replace q110 := eq_true q110; have hcz18_0 : wc.cell? ⟨gb107, 0, none⟩ = some (.bool x108000_1) := (blk_cell BK107.out 0).trans rfl; have hcz18_1 : wc.cell? ⟨gb107, 1, none⟩ = some (.bool true) := (blk_cell BK107.out 1).trans rfl; have hcz18_2 : wc.cell? ⟨gb107, 2, none⟩ = some (.bool x108002_1) := (blk_cell BK107.out 2).trans rfl; have hcz18_3 : wc.cell? ⟨gb107, 3, none⟩ = some (.bool x108003_1) := (blk_cell BK107.out 3).trans rfl; have hcz18_4 : wc.cell? ⟨gb107, 4, none⟩ = some (.bool x108004_1) := (blk_cell BK107.out 4).trans rfl; have hcz18_5 : wc.cell? ⟨gb107, 5, none⟩ = some (.bool x108005_1) := (blk_cell BK107.out 5).trans rfl; have hcz18_6 : wc.cell? ⟨gb107, 6, none⟩ = some (.bool x108006_1) := (blk_cell BK107.out 6).trans rfl; have hcz18_7 : wc.cell? ⟨gb107, 7, none⟩ = some (.bool x108007_1) := (blk_cell BK107.out 7).trans rfl; have hfz18_0 := blk_frozen BK107.out 0; have hfz18_1 := blk_frozen BK107.out 1; have hfz18_2 := blk_frozen BK107.out 2; have hfz18_3 := blk_frozen BK107.out 3; have hfz18_4 := blk_frozen BK107.out 4; have hfz18_5 := blk_frozen BK107.out 5; have hfz18_6 := blk_frozen BK107.out 6; have hfz18_7 := blk_frozen BK107.out 7))
                        go_ret
                        exact ⟨by first | rfl | (simp [errW_none, errW_some] <;> rfl) | (simp only [← hji11]; first | rfl | (simp [errW_none, errW_some] <;> rfl)) | (simp [*, errW_none, errW_some] <;> rfl), mB⟩
                      · replace c17 := Bool.eq_false_iff.mpr c17
                        subst c17
                        have H1 : (spec_l04Permutation.l0 kj3 l0 (wrap64 (x4_1 + 1)) x108000_1 true x108002_1 x108003_1 x108004_1 x108005_1 x108006_1 x108007_1) = some r := by rw [if_neg (show ¬ (false = true) by decide)] at H; exact H
                        clear H
                        have H := H1
                        clear H1
                        have H' := Aside0.mk H
                        clear H
                        have p108 : 0 ≤ (x4_1 : Int) := of_decide_eq_true mS
                        have q108 : x4_1 < (l0.length : Int) := of_decide_eq_true mS
                        obtain ⟨ad108, e108, hx108_0⟩ := Kd.at_int HR0.out x4_1 p108 q108
                        cases e108
                        replace hx108_0 := cB HB hx108_0
                        replace p108 := eq_true p108
                        replace q108 := eq_true q108
                        go_wp2_with (first | ((with_reducible refine gate_callee (f := 28) rfl ?_); refine goL (some 24) Try.func28 #[.int .i64 1, .int .i64 0, .int .i64 (wrap64 ((l0.length : Int) - 1))] (h := ?_); (with_reducible refine (spec_l01In.calls 1 0 (wrap64 ((l0.length : Int) - 1)) true _ A9.out).mono ?_); rintro e w' ⟨rfl, ⟨nd, rfl⟩⟩; refine ⟨_, rfl, ?_⟩; (try (rw [drewN_self wc]; generalize hq_ : World.drewN wc _ = wc; have n0_ : Aside0 (wc.heap[gb107]? = some (.cells #[.bool x108000_1, .bool false, .bool x108002_1, .bool x108003_1, .bool x108004_1, .bool x108005_1, .bool x108006_1, .bool x108007_1] 50 (0, 0))) := ⟨by rw [← hq_]; exact (mk BK107.out)⟩; have n1_ : Aside0 (Below w.heap.size w wc) := ⟨by rw [← hq_]; exact mB⟩; clear BK107 HB hq_; have BK107 := n0_; have HB := n1_; clear n0_ n1_)); have p110 : 0 ≤ (x4_1 : Int) := of_decide_eq_true mS; have q110 : x4_1 < (l0.length : Int) := of_decide_eq_true mS; obtain ⟨ad110, e110, hx110_0⟩ := Kd.at_int HR0.out x4_1 p110 q110; obtain rfl : ad108 = ad110 := (by injection e110); replace hx110_0 := cB HB hx110_0; replace p110 := eq_true p110; replace q110 := eq_true q110; have hcz19_0 : wc.cell? ⟨gb107, 0, none⟩ = some (.bool x108000_1) := (blk_cell BK107.out 0).trans rfl; have hcz19_1 : wc.cell? ⟨gb107, 1, none⟩ = some (.bool false) := (blk_cell BK107.out 1).trans rfl; have hcz19_2 : wc.cell? ⟨gb107, 2, none⟩ = some (.bool x108002_1) := (blk_cell BK107.out 2).trans rfl; have hcz19_3 : wc.cell? ⟨gb107, 3, none⟩ = some (.bool x108003_1) := (blk_cell BK107.out 3).trans rfl; have hcz19_4 : wc.cell? ⟨gb107, 4, none⟩ = some (.bool x108004_1) := (blk_cell BK107.out 4).trans rfl; have hcz19_5 : wc.cell? ⟨gb107, 5, none⟩ = some (.bool x108005_1) := (blk_cell BK107.out 5).trans rfl; have hcz19_6 : wc.cell? ⟨gb107, 6, none⟩ = some (.bool x108006_1) := (blk_cell BK107.out 6).trans rfl; have hcz19_7 : wc.cell? ⟨gb107, 7, none⟩ = some (.bool x108007_1) := (blk_cell BK107.out 7).trans rfl; have hfz19_0 := blk_frozen BK107.out 0; have hfz19_1 := blk_frozen BK107.out 1; have hfz19_2 := blk_frozen BK107.out 2; have hfz19_3 := blk_frozen BK107.out 3; have hfz19_4 := blk_frozen BK107.out 4; have hfz19_5 := blk_frozen BK107.out 5; have hfz19_6 := blk_frozen BK107.out 6; have hfz19_7 := blk_frozen BK107.out 7; have p112 : 0 ≤ (x4_1 : Int) := of_decide_eq_true mS; have q112 : x4_1 < (l0.length : Int) := of_decide_eq_true mS; obtain ⟨ad112, e112, hx112_0⟩ := Kd.at_int HR0.out x4_1 p112 q112; obtain rfl : ad108 = ad112 := (by injection e112); replace hx112_0 := cB HB hx112_0; replace p112 := eq_true p112; replace q112 := eq_true q112))
                        go_roundg kj3
                        case measure => have := HK1.out; have := HJ3.out; omega
                        case rel => exact ⟨(wrap64 (x4_1 + 1)), (x108000_1), (true), (x108002_1), (x108003_1), (x108004_1), (x108005_1), (x108006_1), (x108007_1), mF, H', ⟨by have := HK1.out; have := HJ3.out; omega⟩, ⟨by (with_reducible repeat (first | refine blk_drewN ?_ _ | refine blk_drew ?_ | refine blk_alloc ?_ _)); refine blk_put (cs := #[.bool x108000_1, .bool false, .bool x108002_1, .bool x108003_1, .bool x108004_1, .bool x108005_1, .bool x108006_1, .bool x108007_1]) ?_ 1 _ rfl; (with_reducible repeat (first | refine blk_drewN ?_ _ | refine blk_drew ?_ | refine blk_alloc ?_ _)); exact BK107.out⟩, ⟨mB⟩⟩
                    · rw [if_neg c16] at H
                      by_cases c20 : ji11 = 2
                      · subst c20
                        have H1 : (if x108002_1 = true then (some false) else (spec_l04Permutation.l0 kj3 l0 (wrap64 (x4_1 + 1)) x108000_1 x108001_1 true x108003_1 x108004_1 x108005_1 x108006_1 x108007_1)) = some r := by rw [if_pos rfl] at H; exact H
                        clear H
                        have H := H1
                        clear H1
                        by_cases c21 : x108002_1 = true
                        · subst c21
                          have H1 : (some false) = some r := by rw [if_pos rfl] at H; exact H
                          clear H
                          have H := H1
                          clear H1
                          obtain rfl := Option.some.inj H
                          have p108 : 0 ≤ (x4_1 : Int) := of_decide_eq_true mS
                          have q108 : x4_1 < (l0.length : Int) := of_decide_eq_true mS
                          obtain ⟨ad108, e108, hx108_0⟩ := Kd.at_int HR0.out x4_1 p108 q108
                          cases e108
                          replace hx108_0 := cB HB hx108_0
                          replace p108 := eq_true p108
                          replace q108 := eq_true q108
                          go_wp2_with (first | ((with_reducible refine gate_callee (f := 28) rfl ?_); refine goL (some 24) Try.func28 #[.int .i64 2, .int .i64 0, .int .i64 (wrap64 ((l0.length : Int) - 1))] (h := ?_); (with_reducible refine (spec_l01In.calls 2 0 (wrap64 ((l0.length : Int) - 1)) true _ A9.out).mono ?_); rintro e w' ⟨rfl, ⟨nd, rfl⟩⟩; refine ⟨_, rfl, ?_⟩; have p110 : 0 ≤ (x4_1 : Int) := of_decide_eq_true mS; have q110 : x4_1 < (l0.length : Int) := of_decide_eq_true mS; obtain ⟨ad110, e110, hx110_0⟩ := Kd.at_int HR0.out x4_1 p110 q110; obtain rfl : ad108 = ad110 := (by injection e110); replace hx110_0 := cB HB hx110_0; replace p110 := eq_true p110; replace q110 := eq_true q110; have hcz22_0 : wc.cell? ⟨gb107, 0, none⟩ = some (.bool x108000_1) := (blk_cell BK107.out 0).trans rfl; have hcz22_1 : wc.cell? ⟨gb107, 1, none⟩ = some (.bool x108001_1) := (blk_cell BK107.out 1).trans rfl; have hcz22_2 : wc.cell? ⟨gb107, 2, none⟩ = some (.bool true) := (blk_cell BK107.out 2).trans rfl; have hcz22_3 : wc.cell? ⟨gb107, 3, none⟩ = some (.bool x108003_1) := (blk_cell BK107.out 3).trans rfl; have hcz22_4 : wc.cell? ⟨gb107, 4, none⟩ = some (.bool x108004_1) := (blk_cell BK107.out 4).trans rfl; have hcz22_5 : wc.cell? ⟨gb107, 5, none⟩ = some (.bool x108005_1) := (blk_cell BK107.out 5).trans rfl; have hcz22_6 : wc.cell? ⟨gb107, 6, none⟩ = some (.bool x108006_1) := (blk_cell BK107.out 6).trans rfl; have hcz22_7 : wc.cell? ⟨gb107, 7, none⟩ = some (.bool x108007_1) := (blk_cell BK107.out 7).trans rfl; have hfz22_0 := blk_frozen BK107.out 0; have hfz22_1 := blk_frozen BK107.out 1; have hfz22_2 := blk_frozen BK107.out 2; have hfz22_3 := blk_frozen BK107.out 3; have hfz22_4 := blk_frozen BK107.out 4; have hfz22_5 := blk_frozen BK107.out 5; have hfz22_6 := blk_frozen BK107.out 6; have hfz22_7 := blk_frozen BK107.out 7))
                          go_ret
                          exact ⟨by first | rfl | (simp [errW_none, errW_some] <;> rfl) | (simp only [← hji11]; first | rfl | (simp [errW_none, errW_some] <;> rfl)) | (simp [*, errW_none, errW_some] <;> rfl), mB⟩
                        · replace c21 := Bool.eq_false_iff.mpr c21
                          subst c21
                          have H1 : (spec_l04Permutation.l0 kj3 l0 (wrap64 (x4_1 + 1)) x108000_1 x108001_1 true x108003_1 x108004_1 x108005_1 x108006_1 x108007_1) = some r := by rw [if_neg (show ¬ (false = true) by decide)] at H; exact H
                          clear H
                          have H := H1
                          clear H1
                          have H' := Aside0.mk H
                          clear H
                          have p108 : 0 ≤ (x4_1 : Int) := of_decide_eq_true mS
                          have q108 : x4_1 < (l0.length : Int) := of_decide_eq_true mS
                          obtain ⟨ad108, e108, hx108_0⟩ := Kd.at_int HR0.out x4_1 p108 q108
                          cases e108
                          replace hx108_0 := cB HB hx108_0
                          replace p108 := eq_true p108
                          replace q108 := eq_true q108
                          go_wp2_with (first | ((with_reducible refine gate_callee (f := 28) rfl ?_); refine goL (some 24) Try.func28 #[.int .i64 2, .int .i64 0, .int .i64 (wrap64 ((l0.length : Int) - 1))] (h := ?_); (with_reducible refine (spec_l01In.calls 2 0 (wrap64 ((l0.length : Int) - 1)) true _ A9.out).mono ?_); rintro e w' ⟨rfl, ⟨nd, rfl⟩⟩; refine ⟨_, rfl, ?_⟩; (try (rw [drewN_self wc]; generalize hq_ : World.drewN wc _ = wc; have n0_ : Aside0 (wc.heap[gb107]? = some (.cells #[.bool x108000_1, .bool x108001_1, .bool false, .bool x108003_1, .bool x108004_1, .bool x108005_1, .bool x108006_1, .bool x108007_1] 50 (0, 0))) := ⟨by rw [← hq_]; exact (mk BK107.out)⟩; have n1_ : Aside0 (Below w.heap.size w wc) := ⟨by rw [← hq_]; exact mB⟩; clear BK107 HB hq_; have BK107 := n0_; have HB := n1_; clear n0_ n1_)); have p110 : 0 ≤ (x4_1 : Int) := of_decide_eq_true mS; have q110 : x4_1 < (l0.length : Int) := of_decide_eq_true mS; obtain ⟨ad110, e110, hx110_0⟩ := Kd.at_int HR0.out x4_1 p110 q110; obtain rfl : ad108 = ad110 := (by injection e110); replace hx110_0 := cB HB hx110_0; replace p110 := eq_true p110; replace q110 := eq_true q110; have hcz23_0 : wc.cell? ⟨gb107, 0, none⟩ = some (.bool x108000_1) := (blk_cell BK107.out 0).trans rfl; have hcz23_1 : wc.cell? ⟨gb107, 1, none⟩ = some (.bool x108001_1) := (blk_cell BK107.out 1).trans rfl; have hcz23_2 : wc.cell? ⟨gb107, 2, none⟩ = some (.bool false) := (blk_cell BK107.out 2).trans rfl; have hcz23_3 : wc.cell? ⟨gb107, 3, none⟩ = some (.bool x108003_1) := (blk_cell BK107.out 3).trans rfl; have hcz23_4 : wc.cell? ⟨gb107, 4, none⟩ = some (.bool x108004_1) := (blk_cell BK107.out 4).trans rfl; have hcz23_5 : wc.cell? ⟨gb107, 5, none⟩ = some (.bool x108005_1) := (blk_cell BK107.out 5).trans rfl; have hcz23_6 : wc.cell? ⟨gb107, 6, none⟩ = some (.bool x108006_1) := (blk_cell BK107.out 6).trans rfl; have hcz23_7 : wc.cell? ⟨gb107, 7, none⟩ = some (.bool x108007_1) := (blk_cell BK107.out 7).trans rfl; have hfz23_0 := blk_frozen BK107.out 0; have hfz23_1 := blk_frozen BK107.out 1; have hfz23_2 := blk_frozen BK107.out 2; have hfz23_3 := blk_frozen BK107.out 3; have hfz23_4 := blk_frozen BK107.out 4; have hfz23_5 := blk_frozen BK107.out 5; have hfz23_6 := blk_frozen BK107.out 6; have hfz23_7 := blk_frozen BK107.out 7; have p113 : 0 ≤ (x4_1 : Int) := of_decide_eq_true mS; have q113 : x4_1 < (l0.length : Int) := of_decide_eq_true mS; obtain ⟨ad113, e113, hx113_0⟩ := Kd.at_int HR0.out x4_1 p113 q113; obtain rfl : ad108 = ad113 := (by injection e113); replace hx113_0 := cB HB hx113_0; replace p113 := eq_true p113; replace q113 := eq_true q113))
                          go_roundg kj3
                          case measure => have := HK1.out; have := HJ3.out; omega
                          case rel => exact ⟨(wrap64 (x4_1 + 1)), (x108000_1), (x108001_1), (true), (x108003_1), (x108004_1), (x108005_1), (x108006_1), (x108007_1), mF, H', ⟨by have := HK1.out; have := HJ3.out; omega⟩, ⟨by (with_reducible repeat (first | refine blk_drewN ?_ _ | refine blk_drew ?_ | refine blk_alloc ?_ _)); refine blk_put (cs := #[.bool x108000_1, .bool x108001_1, .bool false, .bool x108003_1, .bool x108004_1, .bool x108005_1, .bool x108006_1, .bool x108007_1]) ?_ 2 _ rfl; (with_reducible repeat (first | refine blk_drewN ?_ _ | refine blk_drew ?_ | refine blk_alloc ?_ _)); exact BK107.out⟩, ⟨mB⟩⟩
                      · rw [if_neg c20] at H
                        by_cases c24 : ji11 = 3
                        · subst c24
                          have H1 : (if x108003_1 = true then (some false) else (spec_l04Permutation.l0 kj3 l0 (wrap64 (x4_1 + 1)) x108000_1 x108001_1 x108002_1 true x108004_1 x108005_1 x108006_1 x108007_1)) = some r := by rw [if_pos rfl] at H; exact H
                          clear H
                          have H := H1
                          clear H1
                          by_cases c25 : x108003_1 = true
                          · subst c25
                            have H1 : (some false) = some r := by rw [if_pos rfl] at H; exact H
                            clear H
                            have H := H1
                            clear H1
                            obtain rfl := Option.some.inj H
                            have p108 : 0 ≤ (x4_1 : Int) := of_decide_eq_true mS
                            have q108 : x4_1 < (l0.length : Int) := of_decide_eq_true mS
                            obtain ⟨ad108, e108, hx108_0⟩ := Kd.at_int HR0.out x4_1 p108 q108
                            cases e108
                            replace hx108_0 := cB HB hx108_0
                            replace p108 := eq_true p108
                            replace q108 := eq_true q108
                            go_wp2_with (first | ((with_reducible refine gate_callee (f := 28) rfl ?_); refine goL (some 24) Try.func28 #[.int .i64 3, .int .i64 0, .int .i64 (wrap64 ((l0.length : Int) - 1))] (h := ?_); (with_reducible refine (spec_l01In.calls 3 0 (wrap64 ((l0.length : Int) - 1)) true _ A9.out).mono ?_); rintro e w' ⟨rfl, ⟨nd, rfl⟩⟩; refine ⟨_, rfl, ?_⟩; have p110 : 0 ≤ (x4_1 : Int) := of_decide_eq_true mS; have q110 : x4_1 < (l0.length : Int) := of_decide_eq_true mS; obtain ⟨ad110, e110, hx110_0⟩ := Kd.at_int HR0.out x4_1 p110 q110; obtain rfl : ad108 = ad110 := (by injection e110); replace hx110_0 := cB HB hx110_0; replace p110 := eq_true p110; replace q110 := eq_true q110; have hcz26_0 : wc.cell? ⟨gb107, 0, none⟩ = some (.bool x108000_1) := (blk_cell BK107.out 0).trans rfl; have hcz26_1 : wc.cell? ⟨gb107, 1, none⟩ = some (.bool x108001_1) := (blk_cell BK107.out 1).trans rfl; have hcz26_2 : wc.cell? ⟨gb107, 2, none⟩ = some (.bool x108002_1) := (blk_cell BK107.out 2).trans rfl; have hcz26_3 : wc.cell? ⟨gb107, 3, none⟩ = some (.bool true) := (blk_cell BK107.out 3).trans rfl; have hcz26_4 : wc.cell? ⟨gb107, 4, none⟩ = some (.bool x108004_1) := (blk_cell BK107.out 4).trans rfl; have hcz26_5 : wc.cell? ⟨gb107, 5, none⟩ = some (.bool x108005_1) := (blk_cell BK107.out 5).trans rfl; have hcz26_6 : wc.cell? ⟨gb107, 6, none⟩ = some (.bool x108006_1) := (blk_cell BK107.out 6).trans rfl; have hcz26_7 : wc.cell? ⟨gb107, 7, none⟩ = some (.bool x108007_1) := (blk_cell BK107.out 7).trans rfl; have hfz26_0 := blk_frozen BK107.out 0; have hfz26_1 := blk_frozen BK107.out 1; have hfz26_2 := blk_frozen BK107.out 2; have hfz26_3 := blk_frozen BK107.out 3; have hfz26_4 := blk_frozen BK107.out 4; have hfz26_5 := blk_frozen BK107.out 5; have hfz26_6 := blk_frozen BK107.out 6; have hfz26_7 := blk_frozen BK107.out 7))
                            go_ret
                            exact ⟨by first | rfl | (simp [errW_none, errW_some] <;> rfl) | (simp only [← hji11]; first | rfl | (simp [errW_none, errW_some] <;> rfl)) | (simp [*, errW_none, errW_some] <;> rfl), mB⟩
                          · replace c25 := Bool.eq_false_iff.mpr c25
                            subst c25
                            have H1 : (spec_l04Permutation.l0 kj3 l0 (wrap64 (x4_1 + 1)) x108000_1 x108001_1 x108002_1 true x108004_1 x108005_1 x108006_1 x108007_1) = some r := by rw [if_neg (show ¬ (false = true) by decide)] at H; exact H
                            clear H
                            have H := H1
                            clear H1
                            have H' := Aside0.mk H
                            clear H
                            have p108 : 0 ≤ (x4_1 : Int) := of_decide_eq_true mS
                            have q108 : x4_1 < (l0.length : Int) := of_decide_eq_true mS
                            obtain ⟨ad108, e108, hx108_0⟩ := Kd.at_int HR0.out x4_1 p108 q108
                            cases e108
                            replace hx108_0 := cB HB hx108_0
                            replace p108 := eq_true p108
                            replace q108 := eq_true q108
                            go_wp2_with (first | ((with_reducible refine gate_callee (f := 28) rfl ?_); refine goL (some 24) Try.func28 #[.int .i64 3, .int .i64 0, .int .i64 (wrap64 ((l0.length : Int) - 1))] (h := ?_); (with_reducible refine (spec_l01In.calls 3 0 (wrap64 ((l0.length : Int) - 1)) true _ A9.out).mono ?_); rintro e w' ⟨rfl, ⟨nd, rfl⟩⟩; refine ⟨_, rfl, ?_⟩; (try (rw [drewN_self wc]; generalize hq_ : World.drewN wc _ = wc; have n0_ : Aside0 (wc.heap[gb107]? = some (.cells #[.bool x108000_1, .bool x108001_1, .bool x108002_1, .bool false, .bool x108004_1, .bool x108005_1, .bool x108006_1, .bool x108007_1] 50 (0, 0))) := ⟨by rw [← hq_]; exact (mk BK107.out)⟩; have n1_ : Aside0 (Below w.heap.size w wc) := ⟨by rw [← hq_]; exact mB⟩; clear BK107 HB hq_; have BK107 := n0_; have HB := n1_; clear n0_ n1_)); have p110 : 0 ≤ (x4_1 : Int) := of_decide_eq_true mS; have q110 : x4_1 < (l0.length : Int) := of_decide_eq_true mS; obtain ⟨ad110, e110, hx110_0⟩ := Kd.at_int HR0.out x4_1 p110 q110; obtain rfl : ad108 = ad110 := (by injection e110); replace hx110_0 := cB HB hx110_0; replace p110 := eq_true p110; replace q110 := eq_true q110; have hcz27_0 : wc.cell? ⟨gb107, 0, none⟩ = some (.bool x108000_1) := (blk_cell BK107.out 0).trans rfl; have hcz27_1 : wc.cell? ⟨gb107, 1, none⟩ = some (.bool x108001_1) := (blk_cell BK107.out 1).trans rfl; have hcz27_2 : wc.cell? ⟨gb107, 2, none⟩ = some (.bool x108002_1) := (blk_cell BK107.out 2).trans rfl; have hcz27_3 : wc.cell? ⟨gb107, 3, none⟩ = some (.bool false) := (blk_cell BK107.out 3).trans rfl; have hcz27_4 : wc.cell? ⟨gb107, 4, none⟩ = some (.bool x108004_1) := (blk_cell BK107.out 4).trans rfl; have hcz27_5 : wc.cell? ⟨gb107, 5, none⟩ = some (.bool x108005_1) := (blk_cell BK107.out 5).trans rfl; have hcz27_6 : wc.cell? ⟨gb107, 6, none⟩ = some (.bool x108006_1) := (blk_cell BK107.out 6).trans rfl; have hcz27_7 : wc.cell? ⟨gb107, 7, none⟩ = some (.bool x108007_1) := (blk_cell BK107.out 7).trans rfl; have hfz27_0 := blk_frozen BK107.out 0; have hfz27_1 := blk_frozen BK107.out 1; have hfz27_2 := blk_frozen BK107.out 2; have hfz27_3 := blk_frozen BK107.out 3; have hfz27_4 := blk_frozen BK107.out 4; have hfz27_5 := blk_frozen BK107.out 5; have hfz27_6 := blk_frozen BK107.out 6; have hfz27_7 := blk_frozen BK107.out 7; have p114 : 0 ≤ (x4_1 : Int) := of_decide_eq_true mS; have q114 : x4_1 < (l0.length : Int) := of_decide_eq_true mS; obtain ⟨ad114, e114, hx114_0⟩ := Kd.at_int HR0.out x4_1 p114 q114; obtain rfl : ad108 = ad114 := (by injection e114); replace hx114_0 := cB HB hx114_0; replace p114 := eq_true p114; replace q114 := eq_true q114))
                            go_roundg kj3
                            case measure => have := HK1.out; have := HJ3.out; omega
                            case rel => exact ⟨(wrap64 (x4_1 + 1)), (x108000_1), (x108001_1), (x108002_1), (true), (x108004_1), (x108005_1), (x108006_1), (x108007_1), mF, H', ⟨by have := HK1.out; have := HJ3.out; omega⟩, ⟨by (with_reducible repeat (first | refine blk_drewN ?_ _ | refine blk_drew ?_ | refine blk_alloc ?_ _)); refine blk_put (cs := #[.bool x108000_1, .bool x108001_1, .bool x108002_1, .bool false, .bool x108004_1, .bool x108005_1, .bool x108006_1, .bool x108007_1]) ?_ 3 _ rfl; (with_reducible repeat (first | refine blk_drewN ?_ _ | refine blk_drew ?_ | refine blk_alloc ?_ _)); exact BK107.out⟩, ⟨mB⟩⟩
                        · rw [if_neg c24] at H
                          by_cases c28 : ji11 = 4
                          · subst c28
                            have H1 : (if x108004_1 = true then (some false) else (spec_l04Permutation.l0 kj3 l0 (wrap64 (x4_1 + 1)) x108000_1 x108001_1 x108002_1 x108003_1 true x108005_1 x108006_1 x108007_1)) = some r := by rw [if_pos rfl] at H; exact H
                            clear H
                            have H := H1
                            clear H1
                            by_cases c29 : x108004_1 = true
                            · subst c29
                              have H1 : (some false) = some r := by rw [if_pos rfl] at H; exact H
                              clear H
                              have H := H1
                              clear H1
                              obtain rfl := Option.some.inj H
                              have p108 : 0 ≤ (x4_1 : Int) := of_decide_eq_true mS
                              have q108 : x4_1 < (l0.length : Int) := of_decide_eq_true mS
                              obtain ⟨ad108, e108, hx108_0⟩ := Kd.at_int HR0.out x4_1 p108 q108
                              cases e108
                              replace hx108_0 := cB HB hx108_0
                              replace p108 := eq_true p108
                              replace q108 := eq_true q108
                              go_wp2_with (first | ((with_reducible refine gate_callee (f := 28) rfl ?_); refine goL (some 24) Try.func28 #[.int .i64 4, .int .i64 0, .int .i64 (wrap64 ((l0.length : Int) - 1))] (h := ?_); (with_reducible refine (spec_l01In.calls 4 0 (wrap64 ((l0.length : Int) - 1)) true _ A9.out).mono ?_); rintro e w' ⟨rfl, ⟨nd, rfl⟩⟩; refine ⟨_, rfl, ?_⟩; have p110 : 0 ≤ (x4_1 : Int) := of_decide_eq_true mS; have q110 : x4_1 < (l0.length : Int) := of_decide_eq_true mS; obtain ⟨ad110, e110, hx110_0⟩ := Kd.at_int HR0.out x4_1 p110 q110; obtain rfl : ad108 = ad110 := (by injection e110); replace hx110_0 := cB HB hx110_0; replace p110 := eq_true p110; replace q110 := eq_true q110; have hcz30_0 : wc.cell? ⟨gb107, 0, none⟩ = some (.bool x108000_1) := (blk_cell BK107.out 0).trans rfl; have hcz30_1 : wc.cell? ⟨gb107, 1, none⟩ = some (.bool x108001_1) := (blk_cell BK107.out 1).trans rfl; have hcz30_2 : wc.cell? ⟨gb107, 2, none⟩ = some (.bool x108002_1) := (blk_cell BK107.out 2).trans rfl; have hcz30_3 : wc.cell? ⟨gb107, 3, none⟩ = some (.bool x108003_1) := (blk_cell BK107.out 3).trans rfl; have hcz30_4 : wc.cell? ⟨gb107, 4, none⟩ = some (.bool true) := (blk_cell BK107.out 4).trans rfl; have hcz30_5 : wc.cell? ⟨gb107, 5, none⟩ = some (.bool x108005_1) := (blk_cell BK107.out 5).trans rfl; have hcz30_6 : wc.cell? ⟨gb107, 6, none⟩ = some (.bool x108006_1) := (blk_cell BK107.out 6).trans rfl; have hcz30_7 : wc.cell? ⟨gb107, 7, none⟩ = some (.bool x108007_1) := (blk_cell BK107.out 7).trans rfl; have hfz30_0 := blk_frozen BK107.out 0; have hfz30_1 := blk_frozen BK107.out 1; have hfz30_2 := blk_frozen BK107.out 2; have hfz30_3 := blk_frozen BK107.out 3; have hfz30_4 := blk_frozen BK107.out 4; have hfz30_5 := blk_frozen BK107.out 5; have hfz30_6 := blk_frozen BK107.out 6; have hfz30_7 := blk_frozen BK107.out 7))
                              go_ret
                              exact ⟨by first | rfl | (simp [errW_none, errW_some] <;> rfl) | (simp only [← hji11]; first | rfl | (simp [errW_none, errW_some] <;> rfl)) | (simp [*, errW_none, errW_some] <;> rfl), mB⟩
                            · replace c29 := Bool.eq_false_iff.mpr c29
                              subst c29
                              have H1 : (spec_l04Permutation.l0 kj3 l0 (wrap64 (x4_1 + 1)) x108000_1 x108001_1 x108002_1 x108003_1 true x108005_1 x108006_1 x108007_1) = some r := by rw [if_neg (show ¬ (false = true) by decide)] at H; exact H
                              clear H
                              have H := H1
                              clear H1
                              have H' := Aside0.mk H
                              clear H
                              have p108 : 0 ≤ (x4_1 : Int) := of_decide_eq_true mS
                              have q108 : x4_1 < (l0.length : Int) := of_decide_eq_true mS
                              obtain ⟨ad108, e108, hx108_0⟩ := Kd.at_int HR0.out x4_1 p108 q108
                              cases e108
                              replace hx108_0 := cB HB hx108_0
                              replace p108 := eq_true p108
                              replace q108 := eq_true q108
                              go_wp2_with (first | ((with_reducible refine gate_callee (f := 28) rfl ?_); refine goL (some 24) Try.func28 #[.int .i64 4, .int .i64 0, .int .i64 (wrap64 ((l0.length : Int) - 1))] (h := ?_); (with_reducible refine (spec_l01In.calls 4 0 (wrap64 ((l0.length : Int) - 1)) true _ A9.out).mono ?_); rintro e w' ⟨rfl, ⟨nd, rfl⟩⟩; refine ⟨_, rfl, ?_⟩; (try (rw [drewN_self wc]; generalize hq_ : World.drewN wc _ = wc; have n0_ : Aside0 (wc.heap[gb107]? = some (.cells #[.bool x108000_1, .bool x108001_1, .bool x108002_1, .bool x108003_1, .bool false, .bool x108005_1, .bool x108006_1, .bool x108007_1] 50 (0, 0))) := ⟨by rw [← hq_]; exact (mk BK107.out)⟩; have n1_ : Aside0 (Below w.heap.size w wc) := ⟨by rw [← hq_]; exact mB⟩; clear BK107 HB hq_; have BK107 := n0_; have HB := n1_; clear n0_ n1_)); have p110 : 0 ≤ (x4_1 : Int) := of_decide_eq_true mS; have q110 : x4_1 < (l0.length : Int) := of_decide_eq_true mS; obtain ⟨ad110, e110, hx110_0⟩ := Kd.at_int HR0.out x4_1 p110 q110; obtain rfl : ad108 = ad110 := (by injection e110); replace hx110_0 := cB HB hx110_0; replace p110 := eq_true p110; replace q110 := eq_true q110; have hcz31_0 : wc.cell? ⟨gb107, 0, none⟩ = some (.bool x108000_1) := (blk_cell BK107.out 0).trans rfl; have hcz31_1 : wc.cell? ⟨gb107, 1, none⟩ = some (.bool x108001_1) := (blk_cell BK107.out 1).trans rfl; have hcz31_2 : wc.cell? ⟨gb107, 2, none⟩ = some (.bool x108002_1) := (blk_cell BK107.out 2).trans rfl; have hcz31_3 : wc.cell? ⟨gb107, 3, none⟩ = some (.bool x108003_1) := (blk_cell BK107.out 3).trans rfl; have hcz31_4 : wc.cell? ⟨gb107, 4, none⟩ = some (.bool false) := (blk_cell BK107.out 4).trans rfl; have hcz31_5 : wc.cell? ⟨gb107, 5, none⟩ = some (.bool x108005_1) := (blk_cell BK107.out 5).trans rfl; have hcz31_6 : wc.cell? ⟨gb107, 6, none⟩ = some (.bool x108006_1) := (blk_cell BK107.out 6).trans rfl; have hcz31_7 : wc.cell? ⟨gb107, 7, none⟩ = some (.bool x108007_1) := (blk_cell BK107.out 7).trans rfl; have hfz31_0 := blk_frozen BK107.out 0; have hfz31_1 := blk_frozen BK107.out 1; have hfz31_2 := blk_frozen BK107.out 2; have hfz31_3 := blk_frozen BK107.out 3; have hfz31_4 := blk_frozen BK107.out 4; have hfz31_5 := blk_frozen BK107.out 5; have hfz31_6 := blk_frozen BK107.out 6; have hfz31_7 := blk_frozen BK107.out 7; have p115 : 0 ≤ (x4_1 : Int) := of_decide_eq_true mS; have q115 : x4_1 < (l0.length : Int) := of_decide_eq_true mS; obtain ⟨ad115, e115, hx115_0⟩ := Kd.at_int HR0.out x4_1 p115 q115; obtain rfl : ad108 = ad115 := (by injection e115); replace hx115_0 := cB HB hx115_0; replace p115 := eq_true p115; replace q115 := eq_true q115))
                              go_roundg kj3
                              case measure => have := HK1.out; have := HJ3.out; omega
                              case rel => exact ⟨(wrap64 (x4_1 + 1)), (x108000_1), (x108001_1), (x108002_1), (x108003_1), (true), (x108005_1), (x108006_1), (x108007_1), mF, H', ⟨by have := HK1.out; have := HJ3.out; omega⟩, ⟨by (with_reducible repeat (first | refine blk_drewN ?_ _ | refine blk_drew ?_ | refine blk_alloc ?_ _)); refine blk_put (cs := #[.bool x108000_1, .bool x108001_1, .bool x108002_1, .bool x108003_1, .bool false, .bool x108005_1, .bool x108006_1, .bool x108007_1]) ?_ 4 _ rfl; (with_reducible repeat (first | refine blk_drewN ?_ _ | refine blk_drew ?_ | refine blk_alloc ?_ _)); exact BK107.out⟩, ⟨mB⟩⟩
                          · rw [if_neg c28] at H
                            by_cases c32 : ji11 = 5
                            · subst c32
                              have H1 : (if x108005_1 = true then (some false) else (spec_l04Permutation.l0 kj3 l0 (wrap64 (x4_1 + 1)) x108000_1 x108001_1 x108002_1 x108003_1 x108004_1 true x108006_1 x108007_1)) = some r := by rw [if_pos rfl] at H; exact H
                              clear H
                              have H := H1
                              clear H1
                              by_cases c33 : x108005_1 = true
                              · subst c33
                                have H1 : (some false) = some r := by rw [if_pos rfl] at H; exact H
                                clear H
                                have H := H1
                                clear H1
                                obtain rfl := Option.some.inj H
                                have p108 : 0 ≤ (x4_1 : Int) := of_decide_eq_true mS
                                have q108 : x4_1 < (l0.length : Int) := of_decide_eq_true mS
                                obtain ⟨ad108, e108, hx108_0⟩ := Kd.at_int HR0.out x4_1 p108 q108
                                cases e108
                                replace hx108_0 := cB HB hx108_0
                                replace p108 := eq_true p108
                                replace q108 := eq_true q108
                                go_wp2_with (first | ((with_reducible refine gate_callee (f := 28) rfl ?_); refine goL (some 24) Try.func28 #[.int .i64 5, .int .i64 0, .int .i64 (wrap64 ((l0.length : Int) - 1))] (h := ?_); (with_reducible refine (spec_l01In.calls 5 0 (wrap64 ((l0.length : Int) - 1)) true _ A9.out).mono ?_); rintro e w' ⟨rfl, ⟨nd, rfl⟩⟩; refine ⟨_, rfl, ?_⟩; have p110 : 0 ≤ (x4_1 : Int) := of_decide_eq_true mS; have q110 : x4_1 < (l0.length : Int) := of_decide_eq_true mS; obtain ⟨ad110, e110, hx110_0⟩ := Kd.at_int HR0.out x4_1 p110 q110; obtain rfl : ad108 = ad110 := (by injection e110); replace hx110_0 := cB HB hx110_0; replace p110 := eq_true p110; replace q110 := eq_true q110; have hcz34_0 : wc.cell? ⟨gb107, 0, none⟩ = some (.bool x108000_1) := (blk_cell BK107.out 0).trans rfl; have hcz34_1 : wc.cell? ⟨gb107, 1, none⟩ = some (.bool x108001_1) := (blk_cell BK107.out 1).trans rfl; have hcz34_2 : wc.cell? ⟨gb107, 2, none⟩ = some (.bool x108002_1) := (blk_cell BK107.out 2).trans rfl; have hcz34_3 : wc.cell? ⟨gb107, 3, none⟩ = some (.bool x108003_1) := (blk_cell BK107.out 3).trans rfl; have hcz34_4 : wc.cell? ⟨gb107, 4, none⟩ = some (.bool x108004_1) := (blk_cell BK107.out 4).trans rfl; have hcz34_5 : wc.cell? ⟨gb107, 5, none⟩ = some (.bool true) := (blk_cell BK107.out 5).trans rfl; have hcz34_6 : wc.cell? ⟨gb107, 6, none⟩ = some (.bool x108006_1) := (blk_cell BK107.out 6).trans rfl; have hcz34_7 : wc.cell? ⟨gb107, 7, none⟩ = some (.bool x108007_1) := (blk_cell BK107.out 7).trans rfl; have hfz34_0 := blk_frozen BK107.out 0; have hfz34_1 := blk_frozen BK107.out 1; have hfz34_2 := blk_frozen BK107.out 2; have hfz34_3 := blk_frozen BK107.out 3; have hfz34_4 := blk_frozen BK107.out 4; have hfz34_5 := blk_frozen BK107.out 5; have hfz34_6 := blk_frozen BK107.out 6; have hfz34_7 := blk_frozen BK107.out 7))
                                go_ret
                                exact ⟨by first | rfl | (simp [errW_none, errW_some] <;> rfl) | (simp only [← hji11]; first | rfl | (simp [errW_none, errW_some] <;> rfl)) | (simp [*, errW_none, errW_some] <;> rfl), mB⟩
                              · replace c33 := Bool.eq_false_iff.mpr c33
                                subst c33
                                have H1 : (spec_l04Permutation.l0 kj3 l0 (wrap64 (x4_1 + 1)) x108000_1 x108001_1 x108002_1 x108003_1 x108004_1 true x108006_1 x108007_1) = some r := by rw [if_neg (show ¬ (false = true) by decide)] at H; exact H
                                clear H
                                have H := H1
                                clear H1
                                have H' := Aside0.mk H
                                clear H
                                have p108 : 0 ≤ (x4_1 : Int) := of_decide_eq_true mS
                                have q108 : x4_1 < (l0.length : Int) := of_decide_eq_true mS
                                obtain ⟨ad108, e108, hx108_0⟩ := Kd.at_int HR0.out x4_1 p108 q108
                                cases e108
                                replace hx108_0 := cB HB hx108_0
                                replace p108 := eq_true p108
                                replace q108 := eq_true q108
                                go_wp2_with (first | ((with_reducible refine gate_callee (f := 28) rfl ?_); refine goL (some 24) Try.func28 #[.int .i64 5, .int .i64 0, .int .i64 (wrap64 ((l0.length : Int) - 1))] (h := ?_); (with_reducible refine (spec_l01In.calls 5 0 (wrap64 ((l0.length : Int) - 1)) true _ A9.out).mono ?_); rintro e w' ⟨rfl, ⟨nd, rfl⟩⟩; refine ⟨_, rfl, ?_⟩; (try (rw [drewN_self wc]; generalize hq_ : World.drewN wc _ = wc; have n0_ : Aside0 (wc.heap[gb107]? = some (.cells #[.bool x108000_1, .bool x108001_1, .bool x108002_1, .bool x108003_1, .bool x108004_1, .bool false, .bool x108006_1, .bool x108007_1] 50 (0, 0))) := ⟨by rw [← hq_]; exact (mk BK107.out)⟩; have n1_ : Aside0 (Below w.heap.size w wc) := ⟨by rw [← hq_]; exact mB⟩; clear BK107 HB hq_; have BK107 := n0_; have HB := n1_; clear n0_ n1_)); have p110 : 0 ≤ (x4_1 : Int) := of_decide_eq_true mS; have q110 : x4_1 < (l0.length : Int) := of_decide_eq_true mS; obtain ⟨ad110, e110, hx110_0⟩ := Kd.at_int HR0.out x4_1 p110 q110; obtain rfl : ad108 = ad110 := (by injection e110); replace hx110_0 := cB HB hx110_0; replace p110 := eq_true p110; replace q110 := eq_true q110; have hcz35_0 : wc.cell? ⟨gb107, 0, none⟩ = some (.bool x108000_1) := (blk_cell BK107.out 0).trans rfl; have hcz35_1 : wc.cell? ⟨gb107, 1, none⟩ = some (.bool x108001_1) := (blk_cell BK107.out 1).trans rfl; have hcz35_2 : wc.cell? ⟨gb107, 2, none⟩ = some (.bool x108002_1) := (blk_cell BK107.out 2).trans rfl; have hcz35_3 : wc.cell? ⟨gb107, 3, none⟩ = some (.bool x108003_1) := (blk_cell BK107.out 3).trans rfl; have hcz35_4 : wc.cell? ⟨gb107, 4, none⟩ = some (.bool x108004_1) := (blk_cell BK107.out 4).trans rfl; have hcz35_5 : wc.cell? ⟨gb107, 5, none⟩ = some (.bool false) := (blk_cell BK107.out 5).trans rfl; have hcz35_6 : wc.cell? ⟨gb107, 6, none⟩ = some (.bool x108006_1) := (blk_cell BK107.out 6).trans rfl; have hcz35_7 : wc.cell? ⟨gb107, 7, none⟩ = some (.bool x108007_1) := (blk_cell BK107.out 7).trans rfl; have hfz35_0 := blk_frozen BK107.out 0; have hfz35_1 := blk_frozen BK107.out 1; have hfz35_2 := blk_frozen BK107.out 2; have hfz35_3 := blk_frozen BK107.out 3; have hfz35_4 := blk_frozen BK107.out 4; have hfz35_5 := blk_frozen BK107.out 5; have hfz35_6 := blk_frozen BK107.out 6; have hfz35_7 := blk_frozen BK107.out 7; have p116 : 0 ≤ (x4_1 : Int) := of_decide_eq_true mS; have q116 : x4_1 < (l0.length : Int) := of_decide_eq_true mS; obtain ⟨ad116, e116, hx116_0⟩ := Kd.at_int HR0.out x4_1 p116 q116; obtain rfl : ad108 = ad116 := (by injection e116); replace hx116_0 := cB HB hx116_0; replace p116 := eq_true p116; replace q116 := eq_true q116))
                                go_roundg kj3
                                case measure => have := HK1.out; have := HJ3.out; omega
                                case rel => exact ⟨(wrap64 (x4_1 + 1)), (x108000_1), (x108001_1), (x108002_1), (x108003_1), (x108004_1), (true), (x108006_1), (x108007_1), mF, H', ⟨by have := HK1.out; have := HJ3.out; omega⟩, ⟨by (with_reducible repeat (first | refine blk_drewN ?_ _ | refine blk_drew ?_ | refine blk_alloc ?_ _)); refine blk_put (cs := #[.bool x108000_1, .bool x108001_1, .bool x108002_1, .bool x108003_1, .bool x108004_1, .bool false, .bool x108006_1, .bool x108007_1]) ?_ 5 _ rfl; (with_reducible repeat (first | refine blk_drewN ?_ _ | refine blk_drew ?_ | refine blk_alloc ?_ _)); exact BK107.out⟩, ⟨mB⟩⟩
                            · rw [if_neg c32] at H
                              by_cases c36 : ji11 = 6
                              · subst c36
                                have H1 : (if x108006_1 = true then (some false) else (spec_l04Permutation.l0 kj3 l0 (wrap64 (x4_1 + 1)) x108000_1 x108001_1 x108002_1 x108003_1 x108004_1 x108005_1 true x108007_1)) = some r := by rw [if_pos rfl] at H; exact H
                                clear H
                                have H := H1
                                clear H1
                                by_cases c37 : x108006_1 = true
                                · subst c37
                                  have H1 : (some false) = some r := by rw [if_pos rfl] at H; exact H
                                  clear H
                                  have H := H1
                                  clear H1
                                  obtain rfl := Option.some.inj H
                                  have p108 : 0 ≤ (x4_1 : Int) := of_decide_eq_true mS
                                  have q108 : x4_1 < (l0.length : Int) := of_decide_eq_true mS
                                  obtain ⟨ad108, e108, hx108_0⟩ := Kd.at_int HR0.out x4_1 p108 q108
                                  cases e108
                                  replace hx108_0 := cB HB hx108_0
                                  replace p108 := eq_true p108
                                  replace q108 := eq_true q108
                                  go_wp2_with (first | ((with_reducible refine gate_callee (f := 28) rfl ?_); refine goL (some 24) Try.func28 #[.int .i64 6, .int .i64 0, .int .i64 (wrap64 ((l0.length : Int) - 1))] (h := ?_); (with_reducible refine (spec_l01In.calls 6 0 (wrap64 ((l0.length : Int) - 1)) true _ A9.out).mono ?_); rintro e w' ⟨rfl, ⟨nd, rfl⟩⟩; refine ⟨_, rfl, ?_⟩; have p110 : 0 ≤ (x4_1 : Int) := of_decide_eq_true mS; have q110 : x4_1 < (l0.length : Int) := of_decide_eq_true mS; obtain ⟨ad110, e110, hx110_0⟩ := Kd.at_int HR0.out x4_1 p110 q110; obtain rfl : ad108 = ad110 := (by injection e110); replace hx110_0 := cB HB hx110_0; replace p110 := eq_true p110; replace q110 := eq_true q110; have hcz38_0 : wc.cell? ⟨gb107, 0, none⟩ = some (.bool x108000_1) := (blk_cell BK107.out 0).trans rfl; have hcz38_1 : wc.cell? ⟨gb107, 1, none⟩ = some (.bool x108001_1) := (blk_cell BK107.out 1).trans rfl; have hcz38_2 : wc.cell? ⟨gb107, 2, none⟩ = some (.bool x108002_1) := (blk_cell BK107.out 2).trans rfl; have hcz38_3 : wc.cell? ⟨gb107, 3, none⟩ = some (.bool x108003_1) := (blk_cell BK107.out 3).trans rfl; have hcz38_4 : wc.cell? ⟨gb107, 4, none⟩ = some (.bool x108004_1) := (blk_cell BK107.out 4).trans rfl; have hcz38_5 : wc.cell? ⟨gb107, 5, none⟩ = some (.bool x108005_1) := (blk_cell BK107.out 5).trans rfl; have hcz38_6 : wc.cell? ⟨gb107, 6, none⟩ = some (.bool true) := (blk_cell BK107.out 6).trans rfl; have hcz38_7 : wc.cell? ⟨gb107, 7, none⟩ = some (.bool x108007_1) := (blk_cell BK107.out 7).trans rfl; have hfz38_0 := blk_frozen BK107.out 0; have hfz38_1 := blk_frozen BK107.out 1; have hfz38_2 := blk_frozen BK107.out 2; have hfz38_3 := blk_frozen BK107.out 3; have hfz38_4 := blk_frozen BK107.out 4; have hfz38_5 := blk_frozen BK107.out 5; have hfz38_6 := blk_frozen BK107.out 6; have hfz38_7 := blk_frozen BK107.out 7))
                                  go_ret
                                  exact ⟨by first | rfl | (simp [errW_none, errW_some] <;> rfl) | (simp only [← hji11]; first | rfl | (simp [errW_none, errW_some] <;> rfl)) | (simp [*, errW_none, errW_some] <;> rfl), mB⟩
                                · replace c37 := Bool.eq_false_iff.mpr c37
                                  subst c37
                                  have H1 : (spec_l04Permutation.l0 kj3 l0 (wrap64 (x4_1 + 1)) x108000_1 x108001_1 x108002_1 x108003_1 x108004_1 x108005_1 true x108007_1) = some r := by rw [if_neg (show ¬ (false = true) by decide)] at H; exact H
                                  clear H
                                  have H := H1
                                  clear H1
                                  have H' := Aside0.mk H
                                  clear H
                                  have p108 : 0 ≤ (x4_1 : Int) := of_decide_eq_true mS
                                  have q108 : x4_1 < (l0.length : Int) := of_decide_eq_true mS
                                  obtain ⟨ad108, e108, hx108_0⟩ := Kd.at_int HR0.out x4_1 p108 q108
                                  cases e108
                                  replace hx108_0 := cB HB hx108_0
                                  replace p108 := eq_true p108
                                  replace q108 := eq_true q108
                                  go_wp2_with (first | ((with_reducible refine gate_callee (f := 28) rfl ?_); refine goL (some 24) Try.func28 #[.int .i64 6, .int .i64 0, .int .i64 (wrap64 ((l0.length : Int) - 1))] (h := ?_); (with_reducible refine (spec_l01In.calls 6 0 (wrap64 ((l0.length : Int) - 1)) true _ A9.out).mono ?_); rintro e w' ⟨rfl, ⟨nd, rfl⟩⟩; refine ⟨_, rfl, ?_⟩; (try (rw [drewN_self wc]; generalize hq_ : World.drewN wc _ = wc; have n0_ : Aside0 (wc.heap[gb107]? = some (.cells #[.bool x108000_1, .bool x108001_1, .bool x108002_1, .bool x108003_1, .bool x108004_1, .bool x108005_1, .bool false, .bool x108007_1] 50 (0, 0))) := ⟨by rw [← hq_]; exact (mk BK107.out)⟩; have n1_ : Aside0 (Below w.heap.size w wc) := ⟨by rw [← hq_]; exact mB⟩; clear BK107 HB hq_; have BK107 := n0_; have HB := n1_; clear n0_ n1_)); have p110 : 0 ≤ (x4_1 : Int) := of_decide_eq_true mS; have q110 : x4_1 < (l0.length : Int) := of_decide_eq_true mS; obtain ⟨ad110, e110, hx110_0⟩ := Kd.at_int HR0.out x4_1 p110 q110; obtain rfl : ad108 = ad110 := (by injection e110); replace hx110_0 := cB HB hx110_0; replace p110 := eq_true p110; replace q110 := eq_true q110; have hcz39_0 : wc.cell? ⟨gb107, 0, none⟩ = some (.bool x108000_1) := (blk_cell BK107.out 0).trans rfl; have hcz39_1 : wc.cell? ⟨gb107, 1, none⟩ = some (.bool x108001_1) := (blk_cell BK107.out 1).trans rfl; have hcz39_2 : wc.cell? ⟨gb107, 2, none⟩ = some (.bool x108002_1) := (blk_cell BK107.out 2).trans rfl; have hcz39_3 : wc.cell? ⟨gb107, 3, none⟩ = some (.bool x108003_1) := (blk_cell BK107.out 3).trans rfl; have hcz39_4 : wc.cell? ⟨gb107, 4, none⟩ = some (.bool x108004_1) := (blk_cell BK107.out 4).trans rfl; have hcz39_5 : wc.cell? ⟨gb107, 5, none⟩ = some (.bool x108005_1) := (blk_cell BK107.out 5).trans rfl; have hcz39_6 : wc.cell? ⟨gb107, 6, none⟩ = some (.bool false) := (blk_cell BK107.out 6).trans rfl; have hcz39_7 : wc.cell? ⟨gb107, 7, none⟩ = some (.bool x108007_1) := (blk_cell BK107.out 7).trans rfl; have hfz39_0 := blk_frozen BK107.out 0; have hfz39_1 := blk_frozen BK107.out 1; have hfz39_2 := blk_frozen BK107.out 2; have hfz39_3 := blk_frozen BK107.out 3; have hfz39_4 := blk_frozen BK107.out 4; have hfz39_5 := blk_frozen BK107.out 5; have hfz39_6 := blk_frozen BK107.out 6; have hfz39_7 := blk_frozen BK107.out 7; have p117 : 0 ≤ (x4_1 : Int) := of_decide_eq_true mS; have q117 : x4_1 < (l0.length : Int) := of_decide_eq_true mS; obtain ⟨ad117, e117, hx117_0⟩ := Kd.at_int HR0.out x4_1 p117 q117; obtain rfl : ad108 = ad117 := (by injection e117); replace hx117_0 := cB HB hx117_0; replace p117 := eq_true p117; replace q117 := eq_true q117))
                                  go_roundg kj3
                                  case measure => have := HK1.out; have := HJ3.out; omega
                                  case rel => exact ⟨(wrap64 (x4_1 + 1)), (x108000_1), (x108001_1), (x108002_1), (x108003_1), (x108004_1), (x108005_1), (true), (x108007_1), mF, H', ⟨by have := HK1.out; have := HJ3.out; omega⟩, ⟨by (with_reducible repeat (first | refine blk_drewN ?_ _ | refine blk_drew ?_ | refine blk_alloc ?_ _)); refine blk_put (cs := #[.bool x108000_1, .bool x108001_1, .bool x108002_1, .bool x108003_1, .bool x108004_1, .bool x108005_1, .bool false, .bool x108007_1]) ?_ 6 _ rfl; (with_reducible repeat (first | refine blk_drewN ?_ _ | refine blk_drew ?_ | refine blk_alloc ?_ _)); exact BK107.out⟩, ⟨mB⟩⟩
                              · rw [if_neg c36] at H
                                by_cases c40 : ji11 = 7
                                · subst c40
                                  have H1 : (if x108007_1 = true then (some false) else (spec_l04Permutation.l0 kj3 l0 (wrap64 (x4_1 + 1)) x108000_1 x108001_1 x108002_1 x108003_1 x108004_1 x108005_1 x108006_1 true)) = some r := by rw [if_pos rfl] at H; exact H
                                  clear H
                                  have H := H1
                                  clear H1
                                  by_cases c41 : x108007_1 = true
                                  · subst c41
                                    have H1 : (some false) = some r := by rw [if_pos rfl] at H; exact H
                                    clear H
                                    have H := H1
                                    clear H1
                                    obtain rfl := Option.some.inj H
                                    have p108 : 0 ≤ (x4_1 : Int) := of_decide_eq_true mS
                                    have q108 : x4_1 < (l0.length : Int) := of_decide_eq_true mS
                                    obtain ⟨ad108, e108, hx108_0⟩ := Kd.at_int HR0.out x4_1 p108 q108
                                    cases e108
                                    replace hx108_0 := cB HB hx108_0
                                    replace p108 := eq_true p108
                                    replace q108 := eq_true q108
                                    go_wp2_with (first | ((with_reducible refine gate_callee (f := 28) rfl ?_); refine goL (some 24) Try.func28 #[.int .i64 7, .int .i64 0, .int .i64 (wrap64 ((l0.length : Int) - 1))] (h := ?_); (with_reducible refine (spec_l01In.calls 7 0 (wrap64 ((l0.length : Int) - 1)) true _ A9.out).mono ?_); rintro e w' ⟨rfl, ⟨nd, rfl⟩⟩; refine ⟨_, rfl, ?_⟩; have p110 : 0 ≤ (x4_1 : Int) := of_decide_eq_true mS; have q110 : x4_1 < (l0.length : Int) := of_decide_eq_true mS; obtain ⟨ad110, e110, hx110_0⟩ := Kd.at_int HR0.out x4_1 p110 q110; obtain rfl : ad108 = ad110 := (by injection e110); replace hx110_0 := cB HB hx110_0; replace p110 := eq_true p110; replace q110 := eq_true q110; have hcz42_0 : wc.cell? ⟨gb107, 0, none⟩ = some (.bool x108000_1) := (blk_cell BK107.out 0).trans rfl; have hcz42_1 : wc.cell? ⟨gb107, 1, none⟩ = some (.bool x108001_1) := (blk_cell BK107.out 1).trans rfl; have hcz42_2 : wc.cell? ⟨gb107, 2, none⟩ = some (.bool x108002_1) := (blk_cell BK107.out 2).trans rfl; have hcz42_3 : wc.cell? ⟨gb107, 3, none⟩ = some (.bool x108003_1) := (blk_cell BK107.out 3).trans rfl; have hcz42_4 : wc.cell? ⟨gb107, 4, none⟩ = some (.bool x108004_1) := (blk_cell BK107.out 4).trans rfl; have hcz42_5 : wc.cell? ⟨gb107, 5, none⟩ = some (.bool x108005_1) := (blk_cell BK107.out 5).trans rfl; have hcz42_6 : wc.cell? ⟨gb107, 6, none⟩ = some (.bool x108006_1) := (blk_cell BK107.out 6).trans rfl; have hcz42_7 : wc.cell? ⟨gb107, 7, none⟩ = some (.bool true) := (blk_cell BK107.out 7).trans rfl; have hfz42_0 := blk_frozen BK107.out 0; have hfz42_1 := blk_frozen BK107.out 1; have hfz42_2 := blk_frozen BK107.out 2; have hfz42_3 := blk_frozen BK107.out 3; have hfz42_4 := blk_frozen BK107.out 4; have hfz42_5 := blk_frozen BK107.out 5; have hfz42_6 := blk_frozen BK107.out 6; have hfz42_7 := blk_frozen BK107.out 7))
                                    go_ret
                                    exact ⟨by first | rfl | (simp [errW_none, errW_some] <;> rfl) | (simp only [← hji11]; first | rfl | (simp [errW_none, errW_some] <;> rfl)) | (simp [*, errW_none, errW_some] <;> rfl), mB⟩
                                  · replace c41 := Bool.eq_false_iff.mpr c41
                                    subst c41
                                    have H1 : (spec_l04Permutation.l0 kj3 l0 (wrap64 (x4_1 + 1)) x108000_1 x108001_1 x108002_1 x108003_1 x108004_1 x108005_1 x108006_1 true) = some r := by rw [if_neg (show ¬ (false = true) by decide)] at H; exact H
                                    clear H
                                    have H := H1
                                    clear H1
                                    have H' := Aside0.mk H
                                    clear H
                                    have p108 : 0 ≤ (x4_1 : Int) := of_decide_eq_true mS
                                    have q108 : x4_1 < (l0.length : Int) := of_decide_eq_true mS
                                    obtain ⟨ad108, e108, hx108_0⟩ := Kd.at_int HR0.out x4_1 p108 q108
                                    cases e108
                                    replace hx108_0 := cB HB hx108_0
                                    replace p108 := eq_true p108
                                    replace q108 := eq_true q108
                                    go_wp2_with (first | ((with_reducible refine gate_callee (f := 28) rfl ?_); refine goL (some 24) Try.func28 #[.int .i64 7, .int .i64 0, .int .i64 (wrap64 ((l0.length : Int) - 1))] (h := ?_); (with_reducible refine (spec_l01In.calls 7 0 (wrap64 ((l0.length : Int) - 1)) true _ A9.out).mono ?_); rintro e w' ⟨rfl, ⟨nd, rfl⟩⟩; refine ⟨_, rfl, ?_⟩; (try (rw [drewN_self wc]; generalize hq_ : World.drewN wc _ = wc; have n0_ : Aside0 (wc.heap[gb107]? = some (.cells #[.bool x108000_1, .bool x108001_1, .bool x108002_1, .bool x108003_1, .bool x108004_1, .bool x108005_1, .bool x108006_1, .bool false] 50 (0, 0))) := ⟨by rw [← hq_]; exact (mk BK107.out)⟩; have n1_ : Aside0 (Below w.heap.size w wc) := ⟨by rw [← hq_]; exact mB⟩; clear BK107 HB hq_; have BK107 := n0_; have HB := n1_; clear n0_ n1_)); have p110 : 0 ≤ (x4_1 : Int) := of_decide_eq_true mS; have q110 : x4_1 < (l0.length : Int) := of_decide_eq_true mS; obtain ⟨ad110, e110, hx110_0⟩ := Kd.at_int HR0.out x4_1 p110 q110; obtain rfl : ad108 = ad110 := (by injection e110); replace hx110_0 := cB HB hx110_0; replace p110 := eq_true p110; replace q110 := eq_true q110; have hcz43_0 : wc.cell? ⟨gb107, 0, none⟩ = some (.bool x108000_1) := (blk_cell BK107.out 0).trans rfl; have hcz43_1 : wc.cell? ⟨gb107, 1, none⟩ = some (.bool x108001_1) := (blk_cell BK107.out 1).trans rfl; have hcz43_2 : wc.cell? ⟨gb107, 2, none⟩ = some (.bool x108002_1) := (blk_cell BK107.out 2).trans rfl; have hcz43_3 : wc.cell? ⟨gb107, 3, none⟩ = some (.bool x108003_1) := (blk_cell BK107.out 3).trans rfl; have hcz43_4 : wc.cell? ⟨gb107, 4, none⟩ = some (.bool x108004_1) := (blk_cell BK107.out 4).trans rfl; have hcz43_5 : wc.cell? ⟨gb107, 5, none⟩ = some (.bool x108005_1) := (blk_cell BK107.out 5).trans rfl; have hcz43_6 : wc.cell? ⟨gb107, 6, none⟩ = some (.bool x108006_1) := (blk_cell BK107.out 6).trans rfl; have hcz43_7 : wc.cell? ⟨gb107, 7, none⟩ = some (.bool false) := (blk_cell BK107.out 7).trans rfl; have hfz43_0 := blk_frozen BK107.out 0; have hfz43_1 := blk_frozen BK107.out 1; have hfz43_2 := blk_frozen BK107.out 2; have hfz43_3 := blk_frozen BK107.out 3; have hfz43_4 := blk_frozen BK107.out 4; have hfz43_5 := blk_frozen BK107.out 5; have hfz43_6 := blk_frozen BK107.out 6; have hfz43_7 := blk_frozen BK107.out 7; have p118 : 0 ≤ (x4_1 : Int) := of_decide_eq_true mS; have q118 : x4_1 < (l0.length : Int) := of_decide_eq_true mS; obtain ⟨ad118, e118, hx118_0⟩ := Kd.at_int HR0.out x4_1 p118 q118; obtain rfl : ad108 = ad118 := (by injection e118); replace hx118_0 := cB HB hx118_0; replace p118 := eq_true p118; replace q118 := eq_true q118))
                                    go_roundg kj3
                                    case measure => have := HK1.out; have := HJ3.out; omega
                                    case rel => exact ⟨(wrap64 (x4_1 + 1)), (x108000_1), (x108001_1), (x108002_1), (x108003_1), (x108004_1), (x108005_1), (x108006_1), (true), mF, H', ⟨by have := HK1.out; have := HJ3.out; omega⟩, ⟨by (with_reducible repeat (first | refine blk_drewN ?_ _ | refine blk_drew ?_ | refine blk_alloc ?_ _)); refine blk_put (cs := #[.bool x108000_1, .bool x108001_1, .bool x108002_1, .bool x108003_1, .bool x108004_1, .bool x108005_1, .bool x108006_1, .bool false]) ?_ 7 _ rfl; (with_reducible repeat (first | refine blk_drewN ?_ _ | refine blk_drew ?_ | refine blk_alloc ?_ _)); exact BK107.out⟩, ⟨mB⟩⟩
                                · rw [if_neg c40] at H
                                  exact absurd H (by simp)
                · replace c10 := Bool.eq_false_iff.mpr c10
                  subst c10
                  have H1 : (some false) = some r := by rw [if_neg (show ¬ (false = true) by decide)] at H; exact H
                  clear H
                  have H := H1
                  clear H1
                  obtain rfl := Option.some.inj H
                  have p108 : 0 ≤ (x4_1 : Int) := of_decide_eq_true mS
                  have q108 : x4_1 < (l0.length : Int) := of_decide_eq_true mS
                  obtain ⟨ad108, e108, hx108_0⟩ := Kd.at_int HR0.out x4_1 p108 q108
                  cases e108
                  replace hx108_0 := cB HB hx108_0
                  replace p108 := eq_true p108
                  replace q108 := eq_true q108
                  go_wp2_with (first | ((with_reducible refine gate_callee (f := 28) rfl ?_); refine goL (some 24) Try.func28 #[.int .i64 (rd l0 x4_1), .int .i64 0, .int .i64 (wrap64 ((l0.length : Int) - 1))] (h := ?_); (with_reducible refine (spec_l01In.calls (rd l0 x4_1) 0 (wrap64 ((l0.length : Int) - 1)) false _ A9.out).mono ?_); rintro e w' ⟨rfl, ⟨nd, rfl⟩⟩; refine ⟨_, rfl, ?_⟩))
                  go_ret
                  exact ⟨mE, mB⟩
              · rw [if_neg c8] at H
                exact absurd H (by simp)
            · rw [if_neg c7] at H
              exact absurd H (by simp)
          · replace c6 := Bool.eq_false_iff.mpr c6
            subst c6
            have H1 : (if (l0.length : Int) ≥ 1 then (some (decide ((l0.length : Int) ≤ 8))) else (some false)) = some r := by rw [if_neg (show ¬ (false = true) by decide)] at H; exact H
            clear H
            have H := H1
            clear H1
            by_cases c44 : (l0.length : Int) ≥ 1
            · rw [if_pos c44] at H
              have c44b0 : decide (1 ≤ (l0.length : Int)) = true := decide_eq_true c44
              have c44b1 : decide (1 ≤ l0.length) = true := decide_eq_true (by omega)
              clear c44
              obtain rfl := Option.some.inj H
              go_wp2
              go_ret
              exact ⟨mE, mB⟩
            · rw [if_neg c44] at H
              have c44b0 : decide (1 ≤ (l0.length : Int)) = false := decide_eq_false c44
              have c44b1 : decide (1 ≤ l0.length) = false := decide_eq_false (by omega)
              clear c44
              obtain rfl := Option.some.inj H
              go_wp2
              go_ret
              exact ⟨mE, mB⟩

/-! ### spec_l01Own: function 35 -/
def spec_l01Own.f (l0 : List Int) : Option (List Int) := (some (([] : List Int) : List Int)).bind fun y119 => (if y119.length + l0.length < 17592186044416 then (some (y119 ++ l0)) else (none))
set_option maxHeartbeats 8000000 in
set_option maxRecDepth 100000 in
theorem spec_l01Own.calls (A0 : Option Addr) (c0 : Nat) (l0 : List Int) (r : List Int) (w : World) (hr0 : Kd.C (Kd.int .i64) w A0 l0.length l0) (hc0 : l0.length ≤ c0) (h : spec_l01Own.f l0 = some r) :
    Calls Try.prog 35 #[.slice A0 l0.length c0] w fun e w' => ∃ v0_ : Value, e = .returned (v0_) ∧ Kd.R (Kd.int .i64) 2 w' w.heap.size (fun _ => True) v0_ r ∧ Below w.heap.size w w' := by
  have HR0 := Aside0.mk hr0
  have HC0 := Aside0.mk hc0
  clear hr0 hc0
  have HB := Aside0.mk (Below.refl w.heap.size w)
  have H : ((some (([] : List Int) : List Int)).bind fun y119 => (if y119.length + l0.length < 17592186044416 then (some (y119 ++ l0)) else (none))) = some r := h
  clear h
  obtain ⟨y119, hy119⟩ : ∃ y_ : List Int, y_ = (([] : List Int)) := ⟨_, rfl⟩
  replace H : (if y119.length + l0.length < 17592186044416 then (some (y119 ++ l0)) else (none)) = some r := by first | (rw [hy119]; with_reducible exact H) | (have H2_ := (Option.bind_some _ _).symm.trans H; rw [hy119]; with_reducible exact H2_) | (have H2_ := (Option.bind_some _ _).symm.trans H; with_reducible exact H2_) | with_reducible exact H | (rw [hy119]; exact H) | exact H
  have Ny119 := Aside0.mk hy119
  clear hy119
  by_cases c2 : y119.length + l0.length < 17592186044416
  · rw [if_pos c2] at H
    have LMc2 := Aside0.mk c2
    clear c2
    obtain ⟨y122, hy122⟩ : ∃ y_ : List Int, y_ = (y119 ++ l0) := ⟨_, rfl⟩
    replace H : (some y122) = some r := by first | (rw [hy122]; with_reducible exact H) | (have H2_ := (Option.bind_some _ _).symm.trans H; rw [hy122]; with_reducible exact H2_) | (have H2_ := (Option.bind_some _ _).symm.trans H; with_reducible exact H2_) | with_reducible exact H | (rw [hy122]; exact H) | exact H
    have Ny122 := Aside0.mk hy122
    clear hy122
    obtain rfl := Option.some.inj H
    go_enter Try.func35, Try.ntmps35
    go_wp2_with (first | ((with_reducible refine gate_dst (N := 3) rfl ?_); refine Kd.R_lit (Kd.int .i64) _ 2 ?hg (N := 3) ?hd (xs := ([] : List Int)) (inner := []) (ok := fun _ => True) (okp := fun _ => True) ?hr ?hp (fun _ hk => hk) trivial (Below.refl _ _) (Nat.le_refl _) (by simp) ?_; (case hd => rfl); (case hg => rfl); (case hr => first | (go_simp; done) | (go_simp; rfl)); (case hp => exact (Reps.none _ _)); intro v120 w3 ho4 hb hg_ hnew_; clear hg_ hnew_; (first | rw [← Ny119.out] at ho4 | (simp only [Int.reduceToNat] at ho4; rw [← Ny119.out] at ho4)); have n0_ := Aside0.mk (Kd.R_lower ho4 (below_size mB)); have n1_ := Aside0.mk (below_step mB hb); clear HB; have HO121 := n0_; have HB := n1_; clear n0_ n1_; clear hb ho4) | ((with_reducible refine gate_builtin (b := .append) (xs := #[.tmp 3, .tmp 4]) rfl ?_); at_builtin; refine Kd.R_append_rows (Kd.int .i64) (w0 := w) w.heap.size rfl (.tmp 3) (.tmp 4) 22 2 (.int .i64 0) 8 rfl Try.underlying22 info2 rfl (by decide) (by omega) v120 y119 l0 _ _ _ (fun _ => True) (fun _ => False) rfl rfl ?aO ?aR (fun _ _ h => h) (fun _ h => h.elim) ?aF ?aB ?aS ?aL ?_; (case aR => exact mC (Kd.C_below HR0.out HB.out)); (case aB => exact mB); (case aF => exact (fun _ _ => trivial)); (case aO => exact (mR HO121.out)); (case aS => exact (below_size mB)); (case aL => have := LMc2.out; omega); intro v123 w5 ho hb hg hat; rw [← Ny122.out] at ho; have n0_ := Aside0.mk (hb); have n1_ := Aside0.mk (ho); clear HB; clear HO121; have HB := n0_; have HO124 := n1_; clear n0_ n1_; clear ho hb hg hat))
    go_ret
    exact ⟨_, mE, mR HO124.out, mB⟩
  · rw [if_neg c2] at H
    exact absurd H (by simp)

end Go.Proofs.Ytpegpdcdcfcgdaa.EFnExactCountingSeries
