/- The functions that the law uses, as plain functions, and that the code comes to what they say. -/
import Derived.Test.YtpegpdcdcfcgdaaEFnPermutationSeriesx0
import Derived.Test.YtpegpdcdcfcgdaaEFnPermutationSeriesx1
namespace Go.Proofs.Ytpegpdcdcfcgdaa.EFnPermutationSeries
open Go.RowKit Go.Proofs.YtpegpdcdcfcgdaaW.PrintWords Go.Proofs.YtpegpdcdcfcgdaaW.PrintLast Go.Proofs.YtpegpdcdcfcgdaaW.PrintMore Go.Proofs.YtpegpdcdcfcgdaaX
attribute [local go_sem] max2_int min2_int max_two min_two max_three min_three max_four min_four   -- for this text's walks alone
set_option linter.unusedVariables false
set_option linter.unusedSimpArgs false

/-! ### spec_l04Cycles: function 25 -/
mutual
def spec_l04Cycles.l0 : Nat → List Int → List Int → Int → Bool → Bool → Bool → Bool → Bool → Bool → Bool → Bool → Option (List Int)
  | 0, _, _, _, _, _, _, _, _, _, _, _ => none
  | k + 1, x0, x4, x5, x123000, x123001, x123002, x123003, x123004, x123005, x123006, x123007 => if x5 < (x0.length : Int) then (spec_l04Cycles.l1 k x0 x4 x5 0 x5 x123000 x123001 x123002 x123003 x123004 x123005 x123006 x123007) else (some x4)
def spec_l04Cycles.j2 : Nat → List Int → List Int → Int → Int → Bool → Bool → Bool → Bool → Bool → Bool → Bool → Bool → Option (List Int)
  | 0, _, _, _, _, _, _, _, _, _, _, _, _ => none
  | k + 1, x0, x4, x5, x6, x123000, x123001, x123002, x123003, x123004, x123005, x123006, x123007 => spec_l04Cycles.l2 k x0 x4 x5 x6 (x4.length : Int) x123000 x123001 x123002 x123003 x123004 x123005 x123006 x123007
def spec_l04Cycles.l2 : Nat → List Int → List Int → Int → Int → Int → Bool → Bool → Bool → Bool → Bool → Bool → Bool → Bool → Option (List Int)
  | 0, _, _, _, _, _, _, _, _, _, _, _, _, _ => none
  | k + 1, x0, x4, x5, x6, x8, x123000, x123001, x123002, x123003, x123004, x123005, x123006, x123007 => if x8 > 0 then (if 0 ≤ (wrap64 (x8 - 1)) then (if (wrap64 (x8 - 1)) < (x4.length : Int) then (if (rd x4 (wrap64 (x8 - 1))) < x6 then (spec_l04Cycles.l2 k x0 x4 x5 x6 (wrap64 (x8 - 1)) x123000 x123001 x123002 x123003 x123004 x123005 x123006 x123007) else (if x6 > 0 then ((some (([x6] : List Int) : List Int)).bind fun y132 => (if 0 ≤ x8 then (if x8 ≤ (x4.length : Int) then ((some (x4.drop (x8 : Int).toNat : List Int)).bind fun y135 => (if y132.length + y135.length < 17592186044416 then ((some (y132 ++ y135 : List Int)).bind fun y139 => ((spec_l01Own.f (x4.take (x8 : Int).toNat)).bind fun t146 => (if t146.length + y139.length < 17592186044416 then (spec_l04Cycles.l0 k x0 (t146 ++ y139) (wrap64 (x5 + 1)) x123000 x123001 x123002 x123003 x123004 x123005 x123006 x123007) else (none)))) else (none))) else (none)) else (none))) else (spec_l04Cycles.l0 k x0 x4 (wrap64 (x5 + 1)) x123000 x123001 x123002 x123003 x123004 x123005 x123006 x123007))) else (none)) else (none)) else (if x6 > 0 then ((some (([x6] : List Int) : List Int)).bind fun y152 => (if 0 ≤ x8 then (if x8 ≤ (x4.length : Int) then ((some (x4.drop (x8 : Int).toNat : List Int)).bind fun y155 => (if y152.length + y155.length < 17592186044416 then ((some (y152 ++ y155 : List Int)).bind fun y159 => ((spec_l01Own.f (x4.take (x8 : Int).toNat)).bind fun t166 => (if t166.length + y159.length < 17592186044416 then (spec_l04Cycles.l0 k x0 (t166 ++ y159) (wrap64 (x5 + 1)) x123000 x123001 x123002 x123003 x123004 x123005 x123006 x123007) else (none)))) else (none))) else (none)) else (none))) else (spec_l04Cycles.l0 k x0 x4 (wrap64 (x5 + 1)) x123000 x123001 x123002 x123003 x123004 x123005 x123006 x123007))
def spec_l04Cycles.l1 : Nat → List Int → List Int → Int → Int → Int → Bool → Bool → Bool → Bool → Bool → Bool → Bool → Bool → Option (List Int)
  | 0, _, _, _, _, _, _, _, _, _, _, _, _, _ => none
  | k + 1, x0, x4, x5, x6, x7, x123000, x123001, x123002, x123003, x123004, x123005, x123006, x123007 => if x7 = 0 then (if x123000 = true then (spec_l04Cycles.j2 k x0 x4 x5 x6 x123000 x123001 x123002 x123003 x123004 x123005 x123006 x123007) else (if 0 < (x0.length : Int) then (spec_l04Cycles.l1 k x0 x4 x5 (wrap64 (x6 + 1)) (rd x0 0) true x123001 x123002 x123003 x123004 x123005 x123006 x123007) else (none))) else (if x7 = 1 then (if x123001 = true then (spec_l04Cycles.j2 k x0 x4 x5 x6 x123000 x123001 x123002 x123003 x123004 x123005 x123006 x123007) else (if 1 < (x0.length : Int) then (spec_l04Cycles.l1 k x0 x4 x5 (wrap64 (x6 + 1)) (rd x0 1) x123000 true x123002 x123003 x123004 x123005 x123006 x123007) else (none))) else (if x7 = 2 then (if x123002 = true then (spec_l04Cycles.j2 k x0 x4 x5 x6 x123000 x123001 x123002 x123003 x123004 x123005 x123006 x123007) else (if 2 < (x0.length : Int) then (spec_l04Cycles.l1 k x0 x4 x5 (wrap64 (x6 + 1)) (rd x0 2) x123000 x123001 true x123003 x123004 x123005 x123006 x123007) else (none))) else (if x7 = 3 then (if x123003 = true then (spec_l04Cycles.j2 k x0 x4 x5 x6 x123000 x123001 x123002 x123003 x123004 x123005 x123006 x123007) else (if 3 < (x0.length : Int) then (spec_l04Cycles.l1 k x0 x4 x5 (wrap64 (x6 + 1)) (rd x0 3) x123000 x123001 x123002 true x123004 x123005 x123006 x123007) else (none))) else (if x7 = 4 then (if x123004 = true then (spec_l04Cycles.j2 k x0 x4 x5 x6 x123000 x123001 x123002 x123003 x123004 x123005 x123006 x123007) else (if 4 < (x0.length : Int) then (spec_l04Cycles.l1 k x0 x4 x5 (wrap64 (x6 + 1)) (rd x0 4) x123000 x123001 x123002 x123003 true x123005 x123006 x123007) else (none))) else (if x7 = 5 then (if x123005 = true then (spec_l04Cycles.j2 k x0 x4 x5 x6 x123000 x123001 x123002 x123003 x123004 x123005 x123006 x123007) else (if 5 < (x0.length : Int) then (spec_l04Cycles.l1 k x0 x4 x5 (wrap64 (x6 + 1)) (rd x0 5) x123000 x123001 x123002 x123003 x123004 true x123006 x123007) else (none))) else (if x7 = 6 then (if x123006 = true then (spec_l04Cycles.j2 k x0 x4 x5 x6 x123000 x123001 x123002 x123003 x123004 x123005 x123006 x123007) else (if 6 < (x0.length : Int) then (spec_l04Cycles.l1 k x0 x4 x5 (wrap64 (x6 + 1)) (rd x0 6) x123000 x123001 x123002 x123003 x123004 x123005 true x123007) else (none))) else (if x7 = 7 then (if x123007 = true then (spec_l04Cycles.j2 k x0 x4 x5 x6 x123000 x123001 x123002 x123003 x123004 x123005 x123006 x123007) else (if 7 < (x0.length : Int) then (spec_l04Cycles.l1 k x0 x4 x5 (wrap64 (x6 + 1)) (rd x0 7) x123000 x123001 x123002 x123003 x123004 x123005 x123006 true) else (none))) else (none))))))))
end
def spec_l04Cycles.f (k : Nat) (l0 : List Int) : Option (List Int) := spec_l04Cycles.l0 k l0 (([] : List Int)) 0 false false false false false false false false
theorem spec_l04Cycles.mono_l : ∀ k, (∀ y0 y1 y2 y3 y4 y5 y6 y7 y8 y9 y10, LeO (spec_l04Cycles.l0 k y0 y1 y2 y3 y4 y5 y6 y7 y8 y9 y10) (spec_l04Cycles.l0 (k + 1) y0 y1 y2 y3 y4 y5 y6 y7 y8 y9 y10)) ∧ (∀ y0 y1 y2 y3 y4 y5 y6 y7 y8 y9 y10 y11, LeO (spec_l04Cycles.j2 k y0 y1 y2 y3 y4 y5 y6 y7 y8 y9 y10 y11) (spec_l04Cycles.j2 (k + 1) y0 y1 y2 y3 y4 y5 y6 y7 y8 y9 y10 y11)) ∧ (∀ y0 y1 y2 y3 y4 y5 y6 y7 y8 y9 y10 y11 y12, LeO (spec_l04Cycles.l2 k y0 y1 y2 y3 y4 y5 y6 y7 y8 y9 y10 y11 y12) (spec_l04Cycles.l2 (k + 1) y0 y1 y2 y3 y4 y5 y6 y7 y8 y9 y10 y11 y12)) ∧ (∀ y0 y1 y2 y3 y4 y5 y6 y7 y8 y9 y10 y11 y12, LeO (spec_l04Cycles.l1 k y0 y1 y2 y3 y4 y5 y6 y7 y8 y9 y10 y11 y12) (spec_l04Cycles.l1 (k + 1) y0 y1 y2 y3 y4 y5 y6 y7 y8 y9 y10 y11 y12))
  | 0 => ⟨fun _ _ _ _ _ _ _ _ _ _ _ r h => by simp [spec_l04Cycles.l0] at h, fun _ _ _ _ _ _ _ _ _ _ _ _ r h => by simp [spec_l04Cycles.j2] at h, fun _ _ _ _ _ _ _ _ _ _ _ _ _ r h => by simp [spec_l04Cycles.l2] at h, fun _ _ _ _ _ _ _ _ _ _ _ _ _ r h => by simp [spec_l04Cycles.l1] at h⟩
  | k + 1 => by
    obtain ⟨ih0, ih1, ih2, ih3⟩ := spec_l04Cycles.mono_l k
    refine ⟨?_, ?_, ?_, ?_⟩
    · intro y0 y1 y2 y3 y4 y5 y6 y7 y8 y9 y10
      unfold spec_l04Cycles.l0
      repeat' first
      | (with_reducible exact ih0 _ _ _ _ _ _ _ _ _ _ _)
      | (with_reducible exact ih1 _ _ _ _ _ _ _ _ _ _ _ _)
      | (with_reducible exact ih2 _ _ _ _ _ _ _ _ _ _ _ _ _)
      | (with_reducible exact ih3 _ _ _ _ _ _ _ _ _ _ _ _ _)
      | (with_reducible exact LeO.refl _)
      | (with_reducible exact LeO.none _)
      | (with_reducible refine LeO.ite ?_ ?_)
      | (with_reducible refine LeO.bind ?_ (fun _ => ?_))
      | exact ih0 _ _ _ _ _ _ _ _ _ _ _
      | exact ih1 _ _ _ _ _ _ _ _ _ _ _ _
      | exact ih2 _ _ _ _ _ _ _ _ _ _ _ _ _
      | exact ih3 _ _ _ _ _ _ _ _ _ _ _ _ _
      | exact LeO.none _
      | refine LeO.ite ?_ ?_
      | refine LeO.bind ?_ (fun _ => ?_)
    · intro y0 y1 y2 y3 y4 y5 y6 y7 y8 y9 y10 y11
      unfold spec_l04Cycles.j2
      repeat' first
      | (with_reducible exact ih0 _ _ _ _ _ _ _ _ _ _ _)
      | (with_reducible exact ih1 _ _ _ _ _ _ _ _ _ _ _ _)
      | (with_reducible exact ih2 _ _ _ _ _ _ _ _ _ _ _ _ _)
      | (with_reducible exact ih3 _ _ _ _ _ _ _ _ _ _ _ _ _)
      | (with_reducible exact LeO.refl _)
      | (with_reducible exact LeO.none _)
      | (with_reducible refine LeO.ite ?_ ?_)
      | (with_reducible refine LeO.bind ?_ (fun _ => ?_))
      | exact ih0 _ _ _ _ _ _ _ _ _ _ _
      | exact ih1 _ _ _ _ _ _ _ _ _ _ _ _
      | exact ih2 _ _ _ _ _ _ _ _ _ _ _ _ _
      | exact ih3 _ _ _ _ _ _ _ _ _ _ _ _ _
      | exact LeO.none _
      | refine LeO.ite ?_ ?_
      | refine LeO.bind ?_ (fun _ => ?_)
    · intro y0 y1 y2 y3 y4 y5 y6 y7 y8 y9 y10 y11 y12
      unfold spec_l04Cycles.l2
      repeat' first
      | (with_reducible exact ih0 _ _ _ _ _ _ _ _ _ _ _)
      | (with_reducible exact ih1 _ _ _ _ _ _ _ _ _ _ _ _)
      | (with_reducible exact ih2 _ _ _ _ _ _ _ _ _ _ _ _ _)
      | (with_reducible exact ih3 _ _ _ _ _ _ _ _ _ _ _ _ _)
      | (with_reducible exact LeO.refl _)
      | (with_reducible exact LeO.none _)
      | (with_reducible refine LeO.ite ?_ ?_)
      | (with_reducible refine LeO.bind ?_ (fun _ => ?_))
      | exact ih0 _ _ _ _ _ _ _ _ _ _ _
      | exact ih1 _ _ _ _ _ _ _ _ _ _ _ _
      | exact ih2 _ _ _ _ _ _ _ _ _ _ _ _ _
      | exact ih3 _ _ _ _ _ _ _ _ _ _ _ _ _
      | exact LeO.none _
      | refine LeO.ite ?_ ?_
      | refine LeO.bind ?_ (fun _ => ?_)
    · intro y0 y1 y2 y3 y4 y5 y6 y7 y8 y9 y10 y11 y12
      unfold spec_l04Cycles.l1
      repeat' first
      | (with_reducible exact ih0 _ _ _ _ _ _ _ _ _ _ _)
      | (with_reducible exact ih1 _ _ _ _ _ _ _ _ _ _ _ _)
      | (with_reducible exact ih2 _ _ _ _ _ _ _ _ _ _ _ _ _)
      | (with_reducible exact ih3 _ _ _ _ _ _ _ _ _ _ _ _ _)
      | (with_reducible exact LeO.refl _)
      | (with_reducible exact LeO.none _)
      | (with_reducible refine LeO.ite ?_ ?_)
      | (with_reducible refine LeO.bind ?_ (fun _ => ?_))
      | exact ih0 _ _ _ _ _ _ _ _ _ _ _
      | exact ih1 _ _ _ _ _ _ _ _ _ _ _ _
      | exact ih2 _ _ _ _ _ _ _ _ _ _ _ _ _
      | exact ih3 _ _ _ _ _ _ _ _ _ _ _ _ _
      | exact LeO.none _
      | refine LeO.ite ?_ ?_
      | refine LeO.bind ?_ (fun _ => ?_)
theorem spec_l04Cycles.mono : ∀ a0 k, LeO (spec_l04Cycles.f k a0) (spec_l04Cycles.f (k + 1) a0) := by
  intro a0 k
  obtain ⟨ih0, ih1, ih2, ih3⟩ := spec_l04Cycles.mono_l k
  unfold spec_l04Cycles.f
  repeat' first
      | (with_reducible exact ih0 _ _ _ _ _ _ _ _ _ _ _)
      | (with_reducible exact ih1 _ _ _ _ _ _ _ _ _ _ _ _)
      | (with_reducible exact ih2 _ _ _ _ _ _ _ _ _ _ _ _ _)
      | (with_reducible exact ih3 _ _ _ _ _ _ _ _ _ _ _ _ _)
      | (with_reducible exact LeO.refl _)
      | (with_reducible exact LeO.none _)
      | (with_reducible refine LeO.ite ?_ ?_)
      | (with_reducible refine LeO.bind ?_ (fun _ => ?_))
      | exact ih0 _ _ _ _ _ _ _ _ _ _ _
      | exact ih1 _ _ _ _ _ _ _ _ _ _ _ _
      | exact ih2 _ _ _ _ _ _ _ _ _ _ _ _ _
      | exact ih3 _ _ _ _ _ _ _ _ _ _ _ _ _
      | exact LeO.none _
      | refine LeO.ite ?_ ?_
      | refine LeO.bind ?_ (fun _ => ?_)
set_option maxHeartbeats 8000000 in
set_option maxRecDepth 100000 in
theorem spec_l04Cycles.calls (k : Nat) (A0 : Option Addr) (c0 : Nat) (l0 : List Int) (r : List Int) (w : World) (hr0 : Kd.C (Kd.int .i64) w A0 l0.length l0) (hc0 : l0.length ≤ c0) (h : spec_l04Cycles.f k l0 = some r) :
    Calls Try.prog 25 #[.slice A0 l0.length c0] w fun e w' => ∃ v0_ : Value, e = .returned (v0_) ∧ Kd.R (Kd.int .i64) 2 w' w.heap.size (fun _ => True) v0_ r ∧ Below w.heap.size w w' := by
  have hu50 := Try.underlying50
  have HR0 := Aside0.mk hr0
  have HC0 := Aside0.mk hc0
  clear hr0 hc0
  have HB := Aside0.mk (Below.refl w.heap.size w)
  have H : (spec_l04Cycles.l0 k l0 (([] : List Int)) 0 false false false false false false false false) = some r := h
  clear h
  obtain ⟨y119, hy119⟩ : ∃ y_ : List Int, y_ = (([] : List Int)) := ⟨_, rfl⟩
  replace H : (spec_l04Cycles.l0 k l0 y119 0 false false false false false false false false) = some r := by first | (rw [hy119]; with_reducible exact H) | (have H2_ := (Option.bind_some _ _).symm.trans H; rw [hy119]; with_reducible exact H2_) | (have H2_ := (Option.bind_some _ _).symm.trans H; with_reducible exact H2_) | with_reducible exact H | (rw [hy119]; exact H) | exact H
  have Ny119 := Aside0.mk hy119
  clear hy119
  have H' := Aside0.mk H
  clear H
  go_enter Try.func25, Try.ntmps25
  go_wp2_with (first | ((with_reducible refine gate_dst (N := 11) rfl ?_); refine Kd.R_lit (Kd.int .i64) _ 2 ?hg (N := 11) ?hd (xs := ([] : List Int)) (inner := []) (ok := fun _ => True) (okp := fun _ => True) ?hr ?hp (fun _ hk => hk) trivial (Below.refl _ _) (Nat.le_refl _) (by simp) ?_; (case hd => rfl); (case hg => rfl); (case hr => first | (go_simp; done) | (go_simp; rfl)); (case hp => exact (Reps.none _ _)); intro v120 w2 ho3 hb hg_ hnew_; clear hg_ hnew_; (first | rw [← Ny119.out] at ho3 | (simp only [Int.reduceToNat] at ho3; rw [← Ny119.out] at ho3)); have n0_ := Aside0.mk (Kd.R_lower ho3 (below_size mB)); have n1_ := Aside0.mk (below_step mB hb); clear HB; have HO121 := n0_; have HB := n1_; clear n0_ n1_; clear hb ho3) | ((with_reducible refine gate_dst (N := 3) rfl ?_); refine box_event ?hg (N := 3) ?hd (cs := #[.bool false, .bool false, .bool false, .bool false, .bool false, .bool false, .bool false, .bool false]) (t := 50) ?hr ?_; (case hd => rfl); (case hg => rfl); (case hr => first | (go_simp; done) | (go_simp; rfl)); intro gb122 hg w4 hbox hb; have n0_ := Aside0.mk (Kd.R_below (mR HO121.out) hb); have n1_ := Aside0.mk (below_step mB hb); have n2_ := Aside0.mk (hbox); have n3_ := Aside0.mk ((mG : w.heap.size ≤ gb122)); have n4_ := Aside0.mk ((mG : w.heap.size ≤ gb122)); clear HO121; clear HB; have HO121 := n0_; have HB := n1_; have BK122 := n2_; have GW122 := n3_; have GE122 := n4_; clear n0_ n1_ n2_ n3_ n4_; clear hb hbox hg; have hcz5_0 : w4.cell? ⟨gb122, 0, none⟩ = some (.bool false) := (blk_cell BK122.out 0).trans rfl; have hcz5_1 : w4.cell? ⟨gb122, 1, none⟩ = some (.bool false) := (blk_cell BK122.out 1).trans rfl; have hcz5_2 : w4.cell? ⟨gb122, 2, none⟩ = some (.bool false) := (blk_cell BK122.out 2).trans rfl; have hcz5_3 : w4.cell? ⟨gb122, 3, none⟩ = some (.bool false) := (blk_cell BK122.out 3).trans rfl; have hcz5_4 : w4.cell? ⟨gb122, 4, none⟩ = some (.bool false) := (blk_cell BK122.out 4).trans rfl; have hcz5_5 : w4.cell? ⟨gb122, 5, none⟩ = some (.bool false) := (blk_cell BK122.out 5).trans rfl; have hcz5_6 : w4.cell? ⟨gb122, 6, none⟩ = some (.bool false) := (blk_cell BK122.out 6).trans rfl; have hcz5_7 : w4.cell? ⟨gb122, 7, none⟩ = some (.bool false) := (blk_cell BK122.out 7).trans rfl; have hfz5_0 := blk_frozen BK122.out 0; have hfz5_1 := blk_frozen BK122.out 1; have hfz5_2 := blk_frozen BK122.out 2; have hfz5_3 := blk_frozen BK122.out 3; have hfz5_4 := blk_frozen BK122.out 4; have hfz5_5 := blk_frozen BK122.out 5; have hfz5_6 := blk_frozen BK122.out 6; have hfz5_7 := blk_frozen BK122.out 7))
  go_loopg [4, 5] k (fun kq v4 v5 w' => ∃ (x4_1 : List Int) (x5_1 : Int) (x123000_1 : Bool) (x123001_1 : Bool) (x123002_1 : Bool) (x123003_1 : Bool) (x123004_1 : Bool) (x123005_1 : Bool) (x123006_1 : Bool) (x123007_1 : Bool), v5 = .int .i64 x5_1 ∧ Aside0 (spec_l04Cycles.l0 kq l0 x4_1 x5_1 x123000_1 x123001_1 x123002_1 x123003_1 x123004_1 x123005_1 x123006_1 x123007_1 = some r) ∧ Aside0 (kq ≤ k) ∧ Aside0 (Kd.R (Kd.int .i64) 2 w' w.heap.size (fun _ => True) v4 x4_1) ∧ Aside0 (w'.heap[gb122]? = some (.cells #[.bool x123000_1, .bool x123001_1, .bool x123002_1, .bool x123003_1, .bool x123004_1, .bool x123005_1, .bool x123006_1, .bool x123007_1] 50 (0, 0))) ∧ Aside0 (Below w.heap.size w w'))
  case atStart => exact ⟨(y119), (0), (false), (false), (false), (false), (false), (false), (false), (false), mF, H', ⟨Nat.le_refl _⟩, ⟨by (with_reducible repeat (first | apply Kd.R_alloc | apply Kd.R_drewN | apply Kd.R_drew)); exact Kd.R_mono (Kd.R_far (p := ⟨gb122, 7, none⟩) (Kd.R_far (p := ⟨gb122, 6, none⟩) (Kd.R_far (p := ⟨gb122, 5, none⟩) (Kd.R_far (p := ⟨gb122, 4, none⟩) (Kd.R_far (p := ⟨gb122, 3, none⟩) (Kd.R_far (p := ⟨gb122, 2, none⟩) (Kd.R_far (p := ⟨gb122, 1, none⟩) (Kd.R_far (p := ⟨gb122, 0, none⟩) (Kd.R_types HO121.out BK122.out (by decide)) (fun _ hk => hk.2) (.bool false)) (fun _ hk => hk.2) (.bool false)) (fun _ hk => hk.2) (.bool false)) (fun _ hk => hk.2) (.bool false)) (fun _ hk => hk.2) (.bool false)) (fun _ hk => hk.2) (.bool false)) (fun _ hk => hk.2) (.bool false)) (fun _ hk => hk.2) (.bool false)) (fun _ hk => trivial)⟩, ⟨by (with_reducible repeat (first | refine blk_drewN ?_ _ | refine blk_drew ?_ | refine blk_alloc ?_ _)); refine blk_put (cs := #[.bool false, .bool false, .bool false, .bool false, .bool false, .bool false, .bool false, .bool false]) ?_ 7 _ rfl; (with_reducible repeat (first | refine blk_drewN ?_ _ | refine blk_drew ?_ | refine blk_alloc ?_ _)); refine blk_put (cs := #[.bool false, .bool false, .bool false, .bool false, .bool false, .bool false, .bool false, .bool false]) ?_ 6 _ rfl; (with_reducible repeat (first | refine blk_drewN ?_ _ | refine blk_drew ?_ | refine blk_alloc ?_ _)); refine blk_put (cs := #[.bool false, .bool false, .bool false, .bool false, .bool false, .bool false, .bool false, .bool false]) ?_ 5 _ rfl; (with_reducible repeat (first | refine blk_drewN ?_ _ | refine blk_drew ?_ | refine blk_alloc ?_ _)); refine blk_put (cs := #[.bool false, .bool false, .bool false, .bool false, .bool false, .bool false, .bool false, .bool false]) ?_ 4 _ rfl; (with_reducible repeat (first | refine blk_drewN ?_ _ | refine blk_drew ?_ | refine blk_alloc ?_ _)); refine blk_put (cs := #[.bool false, .bool false, .bool false, .bool false, .bool false, .bool false, .bool false, .bool false]) ?_ 3 _ rfl; (with_reducible repeat (first | refine blk_drewN ?_ _ | refine blk_drew ?_ | refine blk_alloc ?_ _)); refine blk_put (cs := #[.bool false, .bool false, .bool false, .bool false, .bool false, .bool false, .bool false, .bool false]) ?_ 2 _ rfl; (with_reducible repeat (first | refine blk_drewN ?_ _ | refine blk_drew ?_ | refine blk_alloc ?_ _)); refine blk_put (cs := #[.bool false, .bool false, .bool false, .bool false, .bool false, .bool false, .bool false, .bool false]) ?_ 1 _ rfl; (with_reducible repeat (first | refine blk_drewN ?_ _ | refine blk_drew ?_ | refine blk_alloc ?_ _)); refine blk_put (cs := #[.bool false, .bool false, .bool false, .bool false, .bool false, .bool false, .bool false, .bool false]) ?_ 0 _ rfl; (with_reducible repeat (first | refine blk_drewN ?_ _ | refine blk_drew ?_ | refine blk_alloc ?_ _)); exact BK122.out⟩, ⟨mB⟩⟩
  case round =>
    clear H'
    try clear c2
    try clear p2
    try clear hcz5_0
    try clear hcz5_1
    try clear hcz5_2
    try clear hcz5_3
    try clear hcz5_4
    try clear hcz5_5
    try clear hcz5_6
    try clear hcz5_7
    try clear hfz5_0
    try clear hfz5_1
    try clear hfz5_2
    try clear hfz5_3
    try clear hfz5_4
    try clear hfz5_5
    try clear hfz5_6
    try clear hfz5_7
    obtain ⟨x4_1, x5_1, x123000_1, x123001_1, x123002_1, x123003_1, x123004_1, x123005_1, x123006_1, x123007_1, rfl, HA, HK1, HO_4, BK122, HB⟩ := hrel
    cases gk with
    | zero => exact absurd HA.out (by simp [spec_l04Cycles.l0])
    | succ k1 =>
      have H := HA.out
      clear HA
      simp only [spec_l04Cycles.l0] at H
      by_cases c6 : x5_1 < (l0.length : Int)
      · rw [if_pos c6] at H
        have c6b0 : decide (x5_1 < (l0.length : Int)) = true := decide_eq_true c6
        clear c6
        have HC7 := Aside0.mk H
        clear H
        go_upto_block 2 with (fail)
        go_cut [6] (fun v6 wc => ∃ (kq : Nat) (x6_6 : Int) (x123000_6 : Bool) (x123001_6 : Bool) (x123002_6 : Bool) (x123003_6 : Bool) (x123004_6 : Bool) (x123005_6 : Bool) (x123006_6 : Bool) (x123007_6 : Bool), v6 = .int .i64 x6_6 ∧ Aside0 (spec_l04Cycles.j2 kq l0 x4_1 x5_1 x6_6 x123000_6 x123001_6 x123002_6 x123003_6 x123004_6 x123005_6 x123006_6 x123007_6 = some r) ∧ Aside0 (kq ≤ k1) ∧ Aside0 (Kd.R (Kd.int .i64) 2 wc w.heap.size (fun _ => True) u4 x4_1) ∧ Aside0 (wc.heap[gb122]? = some (.cells #[.bool x123000_6, .bool x123001_6, .bool x123002_6, .bool x123003_6, .bool x123004_6, .bool x123005_6, .bool x123006_6, .bool x123007_6] 50 (0, 0))) ∧ Aside0 (Below w.heap.size w wc))
        case first =>
          have H := HC7.out
          clear HC7
          have H' := Aside0.mk H
          clear H
          go_wp2
          go_loopg [6, 7] k1 (fun kq v6 v7 w' => ∃ (x6_2 : Int) (x7_2 : Int) (x123000_2 : Bool) (x123001_2 : Bool) (x123002_2 : Bool) (x123003_2 : Bool) (x123004_2 : Bool) (x123005_2 : Bool) (x123006_2 : Bool) (x123007_2 : Bool), v6 = .int .i64 x6_2 ∧ v7 = .int .i64 x7_2 ∧ Aside0 (spec_l04Cycles.l1 kq l0 x4_1 x5_1 x6_2 x7_2 x123000_2 x123001_2 x123002_2 x123003_2 x123004_2 x123005_2 x123006_2 x123007_2 = some r) ∧ Aside0 (kq ≤ k1) ∧ Aside0 (Kd.R (Kd.int .i64) 2 w' w.heap.size (fun _ => True) u4 x4_1) ∧ Aside0 (w'.heap[gb122]? = some (.cells #[.bool x123000_2, .bool x123001_2, .bool x123002_2, .bool x123003_2, .bool x123004_2, .bool x123005_2, .bool x123006_2, .bool x123007_2] 50 (0, 0))) ∧ Aside0 (Below w.heap.size w w'))
          case atStart => exact ⟨(0), (x5_1), (x123000_1), (x123001_1), (x123002_1), (x123003_1), (x123004_1), (x123005_1), (x123006_1), (x123007_1), mF, mF, H', ⟨Nat.le_refl _⟩, ⟨mR HO_4.out⟩, ⟨by (with_reducible repeat (first | refine blk_drewN ?_ _ | refine blk_drew ?_ | refine blk_alloc ?_ _)); exact BK122.out⟩, ⟨mB⟩⟩
          case round =>
            clear H'
            try clear c2
            try clear p2
            try clear c6
            try clear c6b0
            try clear hcz5_0
            try clear hcz5_1
            try clear hcz5_2
            try clear hcz5_3
            try clear hcz5_4
            try clear hcz5_5
            try clear hcz5_6
            try clear hcz5_7
            try clear hfz5_0
            try clear hfz5_1
            try clear hfz5_2
            try clear hfz5_3
            try clear hfz5_4
            try clear hfz5_5
            try clear hfz5_6
            try clear hfz5_7
            try clear p2
            obtain ⟨x6_2, x7_2, x123000_2, x123001_2, x123002_2, x123003_2, x123004_2, x123005_2, x123006_2, x123007_2, rfl, rfl, HA, HK2, HO_4, BK122, HB⟩ := hrel
            cases gk with
            | zero => exact absurd HA.out (by simp [spec_l04Cycles.l1])
            | succ k2 =>
              have H := HA.out
              clear HA
              simp only [spec_l04Cycles.l1] at H
              by_cases c8 : x7_2 = 0
              · subst c8
                have H1 : (if x123000_2 = true then (spec_l04Cycles.j2 k2 l0 x4_1 x5_1 x6_2 x123000_2 x123001_2 x123002_2 x123003_2 x123004_2 x123005_2 x123006_2 x123007_2) else (if 0 < (l0.length : Int) then (spec_l04Cycles.l1 k2 l0 x4_1 x5_1 (wrap64 (x6_2 + 1)) (rd l0 0) true x123001_2 x123002_2 x123003_2 x123004_2 x123005_2 x123006_2 x123007_2) else (none))) = some r := by rw [if_pos rfl] at H; exact H
                clear H
                have H := H1
                clear H1
                by_cases c9 : x123000_2 = true
                · subst c9
                  have H1 : (spec_l04Cycles.j2 k2 l0 x4_1 x5_1 x6_2 true x123001_2 x123002_2 x123003_2 x123004_2 x123005_2 x123006_2 x123007_2) = some r := by rw [if_pos rfl] at H; exact H
                  clear H
                  have H := H1
                  clear H1
                  have H' := Aside0.mk H
                  clear H
                  have hcz10_0 : wr.cell? ⟨gb122, 0, none⟩ = some (.bool true) := (blk_cell BK122.out 0).trans rfl
                  have hcz10_1 : wr.cell? ⟨gb122, 1, none⟩ = some (.bool x123001_2) := (blk_cell BK122.out 1).trans rfl
                  have hcz10_2 : wr.cell? ⟨gb122, 2, none⟩ = some (.bool x123002_2) := (blk_cell BK122.out 2).trans rfl
                  have hcz10_3 : wr.cell? ⟨gb122, 3, none⟩ = some (.bool x123003_2) := (blk_cell BK122.out 3).trans rfl
                  have hcz10_4 : wr.cell? ⟨gb122, 4, none⟩ = some (.bool x123004_2) := (blk_cell BK122.out 4).trans rfl
                  have hcz10_5 : wr.cell? ⟨gb122, 5, none⟩ = some (.bool x123005_2) := (blk_cell BK122.out 5).trans rfl
                  have hcz10_6 : wr.cell? ⟨gb122, 6, none⟩ = some (.bool x123006_2) := (blk_cell BK122.out 6).trans rfl
                  have hcz10_7 : wr.cell? ⟨gb122, 7, none⟩ = some (.bool x123007_2) := (blk_cell BK122.out 7).trans rfl
                  have hfz10_0 := blk_frozen BK122.out 0
                  have hfz10_1 := blk_frozen BK122.out 1
                  have hfz10_2 := blk_frozen BK122.out 2
                  have hfz10_3 := blk_frozen BK122.out 3
                  have hfz10_4 := blk_frozen BK122.out 4
                  have hfz10_5 := blk_frozen BK122.out 5
                  have hfz10_6 := blk_frozen BK122.out 6
                  have hfz10_7 := blk_frozen BK122.out 7
                  go_wp2
                  go_meet
                  case rel => exact ⟨_, (x6_2), (true), (x123001_2), (x123002_2), (x123003_2), (x123004_2), (x123005_2), (x123006_2), (x123007_2), mF, H', ⟨by have := HK1.out; have := HK2.out; first | omega | exact Nat.le_refl _⟩, ⟨mR HO_4.out⟩, ⟨by (with_reducible repeat (first | refine blk_drewN ?_ _ | refine blk_drew ?_ | refine blk_alloc ?_ _)); exact BK122.out⟩, ⟨mB⟩⟩
                · replace c9 := Bool.eq_false_iff.mpr c9
                  subst c9
                  have H1 : (if 0 < (l0.length : Int) then (spec_l04Cycles.l1 k2 l0 x4_1 x5_1 (wrap64 (x6_2 + 1)) (rd l0 0) true x123001_2 x123002_2 x123003_2 x123004_2 x123005_2 x123006_2 x123007_2) else (none)) = some r := by rw [if_neg (show ¬ (false = true) by decide)] at H; exact H
                  clear H
                  have H := H1
                  clear H1
                  by_cases c11 : 0 < (l0.length : Int)
                  · rw [if_pos c11] at H
                    have c11b0 : decide (0 < (l0.length : Int)) = true := decide_eq_true c11
                    have c11b1 : decide (0 < l0.length) = true := decide_eq_true (by omega)
                    clear c11
                    (first | rw [c11b0] | (simp only [i64_w, i32_w]; rw [c11b0]) | skip)
                    have H' := Aside0.mk H
                    clear H
                    have hcz12_0 : wr.cell? ⟨gb122, 0, none⟩ = some (.bool false) := (blk_cell BK122.out 0).trans rfl
                    have hcz12_1 : wr.cell? ⟨gb122, 1, none⟩ = some (.bool x123001_2) := (blk_cell BK122.out 1).trans rfl
                    have hcz12_2 : wr.cell? ⟨gb122, 2, none⟩ = some (.bool x123002_2) := (blk_cell BK122.out 2).trans rfl
                    have hcz12_3 : wr.cell? ⟨gb122, 3, none⟩ = some (.bool x123003_2) := (blk_cell BK122.out 3).trans rfl
                    have hcz12_4 : wr.cell? ⟨gb122, 4, none⟩ = some (.bool x123004_2) := (blk_cell BK122.out 4).trans rfl
                    have hcz12_5 : wr.cell? ⟨gb122, 5, none⟩ = some (.bool x123005_2) := (blk_cell BK122.out 5).trans rfl
                    have hcz12_6 : wr.cell? ⟨gb122, 6, none⟩ = some (.bool x123006_2) := (blk_cell BK122.out 6).trans rfl
                    have hcz12_7 : wr.cell? ⟨gb122, 7, none⟩ = some (.bool x123007_2) := (blk_cell BK122.out 7).trans rfl
                    have hfz12_0 := blk_frozen BK122.out 0
                    have hfz12_1 := blk_frozen BK122.out 1
                    have hfz12_2 := blk_frozen BK122.out 2
                    have hfz12_3 := blk_frozen BK122.out 3
                    have hfz12_4 := blk_frozen BK122.out 4
                    have hfz12_5 := blk_frozen BK122.out 5
                    have hfz12_6 := blk_frozen BK122.out 6
                    have hfz12_7 := blk_frozen BK122.out 7
                    have p123 : 0 ≤ (0 : Int) := (by omega)
                    have q123 : 0 < (l0.length : Int) := of_decide_eq_true mS
                    obtain ⟨ad123, e123, hx123_0⟩ := Kd.at_int HR0.out 0 p123 q123
                    cases e123
                    have qi123 : (0 < l0.length) = True := eq_true (by omega)
                    (try rw [show ((0 : Int)).toNat = 0 from rfl] at hx123_0)
                    (try rw [Addr.add_zero'] at hx123_0)
                    have hn123_0 : ad123.block ≠ gb122 := Nat.ne_of_lt (Nat.lt_of_lt_of_le (by have := World.block_lt_of_cell? _ _ hx123_0; first | rwa [add_block] at this | exact this) GW122.out)
                    replace hx123_0 := cB HB hx123_0
                    replace hx123_0 := (cell_far (p := ⟨gb122, 0, none⟩) (by first | (rw [add_block]; exact hn123_0) | (show (Addr.add _ _).block ≠ _; rw [add_block]; exact hn123_0) | exact hn123_0) (.bool true)).trans hx123_0
                    clear hn123_0
                    replace p123 := eq_true p123
                    replace q123 := eq_true q123
                    go_wp2
                    go_roundg k2
                    case measure => have := HK1.out; have := HK2.out; omega
                    case rel => exact ⟨(wrap64 (x6_2 + 1)), (rd l0 0), (true), (x123001_2), (x123002_2), (x123003_2), (x123004_2), (x123005_2), (x123006_2), (x123007_2), mF, mF, H', ⟨by have := HK1.out; have := HK2.out; omega⟩, ⟨by (with_reducible repeat (first | apply Kd.R_alloc | apply Kd.R_drewN | apply Kd.R_drew)); exact Kd.R_mono (Kd.R_far (p := ⟨gb122, 0, none⟩) (Kd.R_types HO_4.out BK122.out (by decide)) (fun _ hk => hk.2) (.bool true)) (fun _ hk => trivial)⟩, ⟨by (with_reducible repeat (first | refine blk_drewN ?_ _ | refine blk_drew ?_ | refine blk_alloc ?_ _)); refine blk_put (cs := #[.bool false, .bool x123001_2, .bool x123002_2, .bool x123003_2, .bool x123004_2, .bool x123005_2, .bool x123006_2, .bool x123007_2]) ?_ 0 _ rfl; (with_reducible repeat (first | refine blk_drewN ?_ _ | refine blk_drew ?_ | refine blk_alloc ?_ _)); exact BK122.out⟩, ⟨mB⟩⟩
                  · rw [if_neg c11] at H
                    exact absurd H (by simp)
              · rw [if_neg c8] at H
                by_cases c13 : x7_2 = 1
                · subst c13
                  have H1 : (if x123001_2 = true then (spec_l04Cycles.j2 k2 l0 x4_1 x5_1 x6_2 x123000_2 x123001_2 x123002_2 x123003_2 x123004_2 x123005_2 x123006_2 x123007_2) else (if 1 < (l0.length : Int) then (spec_l04Cycles.l1 k2 l0 x4_1 x5_1 (wrap64 (x6_2 + 1)) (rd l0 1) x123000_2 true x123002_2 x123003_2 x123004_2 x123005_2 x123006_2 x123007_2) else (none))) = some r := by rw [if_pos rfl] at H; exact H
                  clear H
                  have H := H1
                  clear H1
                  by_cases c14 : x123001_2 = true
                  · subst c14
                    have H1 : (spec_l04Cycles.j2 k2 l0 x4_1 x5_1 x6_2 x123000_2 true x123002_2 x123003_2 x123004_2 x123005_2 x123006_2 x123007_2) = some r := by rw [if_pos rfl] at H; exact H
                    clear H
                    have H := H1
                    clear H1
                    have H' := Aside0.mk H
                    clear H
                    have hcz15_0 : wr.cell? ⟨gb122, 0, none⟩ = some (.bool x123000_2) := (blk_cell BK122.out 0).trans rfl
                    have hcz15_1 : wr.cell? ⟨gb122, 1, none⟩ = some (.bool true) := (blk_cell BK122.out 1).trans rfl
                    have hcz15_2 : wr.cell? ⟨gb122, 2, none⟩ = some (.bool x123002_2) := (blk_cell BK122.out 2).trans rfl
                    have hcz15_3 : wr.cell? ⟨gb122, 3, none⟩ = some (.bool x123003_2) := (blk_cell BK122.out 3).trans rfl
                    have hcz15_4 : wr.cell? ⟨gb122, 4, none⟩ = some (.bool x123004_2) := (blk_cell BK122.out 4).trans rfl
                    have hcz15_5 : wr.cell? ⟨gb122, 5, none⟩ = some (.bool x123005_2) := (blk_cell BK122.out 5).trans rfl
                    have hcz15_6 : wr.cell? ⟨gb122, 6, none⟩ = some (.bool x123006_2) := (blk_cell BK122.out 6).trans rfl
                    have hcz15_7 : wr.cell? ⟨gb122, 7, none⟩ = some (.bool x123007_2) := (blk_cell BK122.out 7).trans rfl
                    have hfz15_0 := blk_frozen BK122.out 0
                    have hfz15_1 := blk_frozen BK122.out 1
                    have hfz15_2 := blk_frozen BK122.out 2
                    have hfz15_3 := blk_frozen BK122.out 3
                    have hfz15_4 := blk_frozen BK122.out 4
                    have hfz15_5 := blk_frozen BK122.out 5
                    have hfz15_6 := blk_frozen BK122.out 6
                    have hfz15_7 := blk_frozen BK122.out 7
                    go_wp2
                    go_meet
                    case rel => exact ⟨_, (x6_2), (x123000_2), (true), (x123002_2), (x123003_2), (x123004_2), (x123005_2), (x123006_2), (x123007_2), mF, H', ⟨by have := HK1.out; have := HK2.out; first | omega | exact Nat.le_refl _⟩, ⟨mR HO_4.out⟩, ⟨by (with_reducible repeat (first | refine blk_drewN ?_ _ | refine blk_drew ?_ | refine blk_alloc ?_ _)); exact BK122.out⟩, ⟨mB⟩⟩
                  · replace c14 := Bool.eq_false_iff.mpr c14
                    subst c14
                    have H1 : (if 1 < (l0.length : Int) then (spec_l04Cycles.l1 k2 l0 x4_1 x5_1 (wrap64 (x6_2 + 1)) (rd l0 1) x123000_2 true x123002_2 x123003_2 x123004_2 x123005_2 x123006_2 x123007_2) else (none)) = some r := by rw [if_neg (show ¬ (false = true) by decide)] at H; exact H
                    clear H
                    have H := H1
                    clear H1
                    by_cases c16 : 1 < (l0.length : Int)
                    · rw [if_pos c16] at H
                      have c16b0 : decide (1 < (l0.length : Int)) = true := decide_eq_true c16
                      have c16b1 : decide (1 < l0.length) = true := decide_eq_true (by omega)
                      clear c16
                      have H' := Aside0.mk H
                      clear H
                      have hcz17_0 : wr.cell? ⟨gb122, 0, none⟩ = some (.bool x123000_2) := (blk_cell BK122.out 0).trans rfl
                      have hcz17_1 : wr.cell? ⟨gb122, 1, none⟩ = some (.bool false) := (blk_cell BK122.out 1).trans rfl
                      have hcz17_2 : wr.cell? ⟨gb122, 2, none⟩ = some (.bool x123002_2) := (blk_cell BK122.out 2).trans rfl
                      have hcz17_3 : wr.cell? ⟨gb122, 3, none⟩ = some (.bool x123003_2) := (blk_cell BK122.out 3).trans rfl
                      have hcz17_4 : wr.cell? ⟨gb122, 4, none⟩ = some (.bool x123004_2) := (blk_cell BK122.out 4).trans rfl
                      have hcz17_5 : wr.cell? ⟨gb122, 5, none⟩ = some (.bool x123005_2) := (blk_cell BK122.out 5).trans rfl
                      have hcz17_6 : wr.cell? ⟨gb122, 6, none⟩ = some (.bool x123006_2) := (blk_cell BK122.out 6).trans rfl
                      have hcz17_7 : wr.cell? ⟨gb122, 7, none⟩ = some (.bool x123007_2) := (blk_cell BK122.out 7).trans rfl
                      have hfz17_0 := blk_frozen BK122.out 0
                      have hfz17_1 := blk_frozen BK122.out 1
                      have hfz17_2 := blk_frozen BK122.out 2
                      have hfz17_3 := blk_frozen BK122.out 3
                      have hfz17_4 := blk_frozen BK122.out 4
                      have hfz17_5 := blk_frozen BK122.out 5
                      have hfz17_6 := blk_frozen BK122.out 6
                      have hfz17_7 := blk_frozen BK122.out 7
                      have p124 : 0 ≤ (1 : Int) := (by omega)
                      have q124 : 1 < (l0.length : Int) := of_decide_eq_true mS
                      obtain ⟨ad124, e124, hx124_0⟩ := Kd.at_int HR0.out 1 p124 q124
                      cases e124
                      (try simp only [show (1 : Int).toNat = 1 from rfl, Nat.reduceMul, Nat.reduceEqDiff, Go.Addr.add, ↓reduceIte] at hx124_0)
                      have qi124 : (1 < l0.length) = True := eq_true (by omega)
                      (try rw [show ((1 : Int)).toNat = 1 from rfl] at hx124_0)
                      have hn124_0 : ad124.block ≠ gb122 := Nat.ne_of_lt (Nat.lt_of_lt_of_le (by have := World.block_lt_of_cell? _ _ hx124_0; first | rwa [add_block] at this | exact this) GW122.out)
                      replace hx124_0 := cB HB hx124_0
                      replace hx124_0 := (cell_far (p := ⟨gb122, 1, none⟩) (by first | (rw [add_block]; exact hn124_0) | (show (Addr.add _ _).block ≠ _; rw [add_block]; exact hn124_0) | exact hn124_0) (.bool true)).trans hx124_0
                      clear hn124_0
                      replace p124 := eq_true p124
                      replace q124 := eq_true q124
                      go_wp2
                      go_roundg k2
                      case measure => have := HK1.out; have := HK2.out; omega
                      case rel => exact ⟨(wrap64 (x6_2 + 1)), (rd l0 1), (x123000_2), (true), (x123002_2), (x123003_2), (x123004_2), (x123005_2), (x123006_2), (x123007_2), mF, mF, H', ⟨by have := HK1.out; have := HK2.out; omega⟩, ⟨by (with_reducible repeat (first | apply Kd.R_alloc | apply Kd.R_drewN | apply Kd.R_drew)); exact Kd.R_mono (Kd.R_far (p := ⟨gb122, 1, none⟩) (Kd.R_types HO_4.out BK122.out (by decide)) (fun _ hk => hk.2) (.bool true)) (fun _ hk => trivial)⟩, ⟨by (with_reducible repeat (first | refine blk_drewN ?_ _ | refine blk_drew ?_ | refine blk_alloc ?_ _)); refine blk_put (cs := #[.bool x123000_2, .bool false, .bool x123002_2, .bool x123003_2, .bool x123004_2, .bool x123005_2, .bool x123006_2, .bool x123007_2]) ?_ 1 _ rfl; (with_reducible repeat (first | refine blk_drewN ?_ _ | refine blk_drew ?_ | refine blk_alloc ?_ _)); exact BK122.out⟩, ⟨mB⟩⟩
                    · rw [if_neg c16] at H
                      exact absurd H (by simp)
                · rw [if_neg c13] at H
                  by_cases c18 : x7_2 = 2
                  · subst c18
                    have H1 : (if x123002_2 = true then (spec_l04Cycles.j2 k2 l0 x4_1 x5_1 x6_2 x123000_2 x123001_2 x123002_2 x123003_2 x123004_2 x123005_2 x123006_2 x123007_2) else (if 2 < (l0.length : Int) then (spec_l04Cycles.l1 k2 l0 x4_1 x5_1 (wrap64 (x6_2 + 1)) (rd l0 2) x123000_2 x123001_2 true x123003_2 x123004_2 x123005_2 x123006_2 x123007_2) else (none))) = some r := by rw [if_pos rfl] at H; exact H
                    clear H
                    have H := H1
                    clear H1
                    by_cases c19 : x123002_2 = true
                    · subst c19
                      have H1 : (spec_l04Cycles.j2 k2 l0 x4_1 x5_1 x6_2 x123000_2 x123001_2 true x123003_2 x123004_2 x123005_2 x123006_2 x123007_2) = some r := by rw [if_pos rfl] at H; exact H
                      clear H
                      have H := H1
                      clear H1
                      have H' := Aside0.mk H
                      clear H
                      have hcz20_0 : wr.cell? ⟨gb122, 0, none⟩ = some (.bool x123000_2) := (blk_cell BK122.out 0).trans rfl
                      have hcz20_1 : wr.cell? ⟨gb122, 1, none⟩ = some (.bool x123001_2) := (blk_cell BK122.out 1).trans rfl
                      have hcz20_2 : wr.cell? ⟨gb122, 2, none⟩ = some (.bool true) := (blk_cell BK122.out 2).trans rfl
                      have hcz20_3 : wr.cell? ⟨gb122, 3, none⟩ = some (.bool x123003_2) := (blk_cell BK122.out 3).trans rfl
                      have hcz20_4 : wr.cell? ⟨gb122, 4, none⟩ = some (.bool x123004_2) := (blk_cell BK122.out 4).trans rfl
                      have hcz20_5 : wr.cell? ⟨gb122, 5, none⟩ = some (.bool x123005_2) := (blk_cell BK122.out 5).trans rfl
                      have hcz20_6 : wr.cell? ⟨gb122, 6, none⟩ = some (.bool x123006_2) := (blk_cell BK122.out 6).trans rfl
                      have hcz20_7 : wr.cell? ⟨gb122, 7, none⟩ = some (.bool x123007_2) := (blk_cell BK122.out 7).trans rfl
                      have hfz20_0 := blk_frozen BK122.out 0
                      have hfz20_1 := blk_frozen BK122.out 1
                      have hfz20_2 := blk_frozen BK122.out 2
                      have hfz20_3 := blk_frozen BK122.out 3
                      have hfz20_4 := blk_frozen BK122.out 4
                      have hfz20_5 := blk_frozen BK122.out 5
                      have hfz20_6 := blk_frozen BK122.out 6
                      have hfz20_7 := blk_frozen BK122.out 7
                      go_wp2
                      go_meet
                      case rel => exact ⟨_, (x6_2), (x123000_2), (x123001_2), (true), (x123003_2), (x123004_2), (x123005_2), (x123006_2), (x123007_2), mF, H', ⟨by have := HK1.out; have := HK2.out; first | omega | exact Nat.le_refl _⟩, ⟨mR HO_4.out⟩, ⟨by (with_reducible repeat (first | refine blk_drewN ?_ _ | refine blk_drew ?_ | refine blk_alloc ?_ _)); exact BK122.out⟩, ⟨mB⟩⟩
                    · replace c19 := Bool.eq_false_iff.mpr c19
                      subst c19
                      have H1 : (if 2 < (l0.length : Int) then (spec_l04Cycles.l1 k2 l0 x4_1 x5_1 (wrap64 (x6_2 + 1)) (rd l0 2) x123000_2 x123001_2 true x123003_2 x123004_2 x123005_2 x123006_2 x123007_2) else (none)) = some r := by rw [if_neg (show ¬ (false = true) by decide)] at H; exact H
                      clear H
                      have H := H1
                      clear H1
                      by_cases c21 : 2 < (l0.length : Int)
                      · rw [if_pos c21] at H
                        have c21b0 : decide (2 < (l0.length : Int)) = true := decide_eq_true c21
                        have c21b1 : decide (2 < l0.length) = true := decide_eq_true (by omega)
                        clear c21
                        have H' := Aside0.mk H
                        clear H
                        have hcz22_0 : wr.cell? ⟨gb122, 0, none⟩ = some (.bool x123000_2) := (blk_cell BK122.out 0).trans rfl
                        have hcz22_1 : wr.cell? ⟨gb122, 1, none⟩ = some (.bool x123001_2) := (blk_cell BK122.out 1).trans rfl
                        have hcz22_2 : wr.cell? ⟨gb122, 2, none⟩ = some (.bool false) := (blk_cell BK122.out 2).trans rfl
                        have hcz22_3 : wr.cell? ⟨gb122, 3, none⟩ = some (.bool x123003_2) := (blk_cell BK122.out 3).trans rfl
                        have hcz22_4 : wr.cell? ⟨gb122, 4, none⟩ = some (.bool x123004_2) := (blk_cell BK122.out 4).trans rfl
                        have hcz22_5 : wr.cell? ⟨gb122, 5, none⟩ = some (.bool x123005_2) := (blk_cell BK122.out 5).trans rfl
                        have hcz22_6 : wr.cell? ⟨gb122, 6, none⟩ = some (.bool x123006_2) := (blk_cell BK122.out 6).trans rfl
                        have hcz22_7 : wr.cell? ⟨gb122, 7, none⟩ = some (.bool x123007_2) := (blk_cell BK122.out 7).trans rfl
                        have hfz22_0 := blk_frozen BK122.out 0
                        have hfz22_1 := blk_frozen BK122.out 1
                        have hfz22_2 := blk_frozen BK122.out 2
                        have hfz22_3 := blk_frozen BK122.out 3
                        have hfz22_4 := blk_frozen BK122.out 4
                        have hfz22_5 := blk_frozen BK122.out 5
                        have hfz22_6 := blk_frozen BK122.out 6
                        have hfz22_7 := blk_frozen BK122.out 7
                        have p125 : 0 ≤ (2 : Int) := (by omega)
                        have q125 : 2 < (l0.length : Int) := of_decide_eq_true mS
                        obtain ⟨ad125, e125, hx125_0⟩ := Kd.at_int HR0.out 2 p125 q125
                        cases e125
                        (try simp only [show (2 : Int).toNat = 2 from rfl, Nat.reduceMul, Nat.reduceEqDiff, Go.Addr.add, ↓reduceIte] at hx125_0)
                        have qi125 : (2 < l0.length) = True := eq_true (by omega)
                        (try rw [show ((2 : Int)).toNat = 2 from rfl] at hx125_0)
                        have hn125_0 : ad125.block ≠ gb122 := Nat.ne_of_lt (Nat.lt_of_lt_of_le (by have := World.block_lt_of_cell? _ _ hx125_0; first | rwa [add_block] at this | exact this) GW122.out)
                        replace hx125_0 := cB HB hx125_0
                        replace hx125_0 := (cell_far (p := ⟨gb122, 2, none⟩) (by first | (rw [add_block]; exact hn125_0) | (show (Addr.add _ _).block ≠ _; rw [add_block]; exact hn125_0) | exact hn125_0) (.bool true)).trans hx125_0
                        clear hn125_0
                        replace p125 := eq_true p125
                        replace q125 := eq_true q125
                        go_wp2
                        go_roundg k2
                        case measure => have := HK1.out; have := HK2.out; omega
                        case rel => exact ⟨(wrap64 (x6_2 + 1)), (rd l0 2), (x123000_2), (x123001_2), (true), (x123003_2), (x123004_2), (x123005_2), (x123006_2), (x123007_2), mF, mF, H', ⟨by have := HK1.out; have := HK2.out; omega⟩, ⟨by (with_reducible repeat (first | apply Kd.R_alloc | apply Kd.R_drewN | apply Kd.R_drew)); exact Kd.R_mono (Kd.R_far (p := ⟨gb122, 2, none⟩) (Kd.R_types HO_4.out BK122.out (by decide)) (fun _ hk => hk.2) (.bool true)) (fun _ hk => trivial)⟩, ⟨by (with_reducible repeat (first | refine blk_drewN ?_ _ | refine blk_drew ?_ | refine blk_alloc ?_ _)); refine blk_put (cs := #[.bool x123000_2, .bool x123001_2, .bool false, .bool x123003_2, .bool x123004_2, .bool x123005_2, .bool x123006_2, .bool x123007_2]) ?_ 2 _ rfl; (with_reducible repeat (first | refine blk_drewN ?_ _ | refine blk_drew ?_ | refine blk_alloc ?_ _)); exact BK122.out⟩, ⟨mB⟩⟩
                      · rw [if_neg c21] at H
                        exact absurd H (by simp)
                  · rw [if_neg c18] at H
                    by_cases c23 : x7_2 = 3
                    · subst c23
                      have H1 : (if x123003_2 = true then (spec_l04Cycles.j2 k2 l0 x4_1 x5_1 x6_2 x123000_2 x123001_2 x123002_2 x123003_2 x123004_2 x123005_2 x123006_2 x123007_2) else (if 3 < (l0.length : Int) then (spec_l04Cycles.l1 k2 l0 x4_1 x5_1 (wrap64 (x6_2 + 1)) (rd l0 3) x123000_2 x123001_2 x123002_2 true x123004_2 x123005_2 x123006_2 x123007_2) else (none))) = some r := by rw [if_pos rfl] at H; exact H
                      clear H
                      have H := H1
                      clear H1
                      by_cases c24 : x123003_2 = true
                      · subst c24
                        have H1 : (spec_l04Cycles.j2 k2 l0 x4_1 x5_1 x6_2 x123000_2 x123001_2 x123002_2 true x123004_2 x123005_2 x123006_2 x123007_2) = some r := by rw [if_pos rfl] at H; exact H
                        clear H
                        have H := H1
                        clear H1
                        have H' := Aside0.mk H
                        clear H
                        have hcz25_0 : wr.cell? ⟨gb122, 0, none⟩ = some (.bool x123000_2) := (blk_cell BK122.out 0).trans rfl
                        have hcz25_1 : wr.cell? ⟨gb122, 1, none⟩ = some (.bool x123001_2) := (blk_cell BK122.out 1).trans rfl
                        have hcz25_2 : wr.cell? ⟨gb122, 2, none⟩ = some (.bool x123002_2) := (blk_cell BK122.out 2).trans rfl
                        have hcz25_3 : wr.cell? ⟨gb122, 3, none⟩ = some (.bool true) := (blk_cell BK122.out 3).trans rfl
                        have hcz25_4 : wr.cell? ⟨gb122, 4, none⟩ = some (.bool x123004_2) := (blk_cell BK122.out 4).trans rfl
                        have hcz25_5 : wr.cell? ⟨gb122, 5, none⟩ = some (.bool x123005_2) := (blk_cell BK122.out 5).trans rfl
                        have hcz25_6 : wr.cell? ⟨gb122, 6, none⟩ = some (.bool x123006_2) := (blk_cell BK122.out 6).trans rfl
                        have hcz25_7 : wr.cell? ⟨gb122, 7, none⟩ = some (.bool x123007_2) := (blk_cell BK122.out 7).trans rfl
                        have hfz25_0 := blk_frozen BK122.out 0
                        have hfz25_1 := blk_frozen BK122.out 1
                        have hfz25_2 := blk_frozen BK122.out 2
                        have hfz25_3 := blk_frozen BK122.out 3
                        have hfz25_4 := blk_frozen BK122.out 4
                        have hfz25_5 := blk_frozen BK122.out 5
                        have hfz25_6 := blk_frozen BK122.out 6
                        have hfz25_7 := blk_frozen BK122.out 7
                        go_wp2
                        go_meet
                        case rel => exact ⟨_, (x6_2), (x123000_2), (x123001_2), (x123002_2), (true), (x123004_2), (x123005_2), (x123006_2), (x123007_2), mF, H', ⟨by have := HK1.out; have := HK2.out; first | omega | exact Nat.le_refl _⟩, ⟨mR HO_4.out⟩, ⟨by (with_reducible repeat (first | refine blk_drewN ?_ _ | refine blk_drew ?_ | refine blk_alloc ?_ _)); exact BK122.out⟩, ⟨mB⟩⟩
                      · replace c24 := Bool.eq_false_iff.mpr c24
                        subst c24
                        have H1 : (if 3 < (l0.length : Int) then (spec_l04Cycles.l1 k2 l0 x4_1 x5_1 (wrap64 (x6_2 + 1)) (rd l0 3) x123000_2 x123001_2 x123002_2 true x123004_2 x123005_2 x123006_2 x123007_2) else (none)) = some r := by rw [if_neg (show ¬ (false = true) by decide)] at H; exact H
                        clear H
                        have H := H1
                        clear H1
                        by_cases c26 : 3 < (l0.length : Int)
                        · rw [if_pos c26] at H
                          have c26b0 : decide (3 < (l0.length : Int)) = true := decide_eq_true c26
                          have c26b1 : decide (3 < l0.length) = true := decide_eq_true (by omega)
                          clear c26
                          have H' := Aside0.mk H
                          clear H
                          have hcz27_0 : wr.cell? ⟨gb122, 0, none⟩ = some (.bool x123000_2) := (blk_cell BK122.out 0).trans rfl
                          have hcz27_1 : wr.cell? ⟨gb122, 1, none⟩ = some (.bool x123001_2) := (blk_cell BK122.out 1).trans rfl
                          have hcz27_2 : wr.cell? ⟨gb122, 2, none⟩ = some (.bool x123002_2) := (blk_cell BK122.out 2).trans rfl
                          have hcz27_3 : wr.cell? ⟨gb122, 3, none⟩ = some (.bool false) := (blk_cell BK122.out 3).trans rfl
                          have hcz27_4 : wr.cell? ⟨gb122, 4, none⟩ = some (.bool x123004_2) := (blk_cell BK122.out 4).trans rfl
                          have hcz27_5 : wr.cell? ⟨gb122, 5, none⟩ = some (.bool x123005_2) := (blk_cell BK122.out 5).trans rfl
                          have hcz27_6 : wr.cell? ⟨gb122, 6, none⟩ = some (.bool x123006_2) := (blk_cell BK122.out 6).trans rfl
                          have hcz27_7 : wr.cell? ⟨gb122, 7, none⟩ = some (.bool x123007_2) := (blk_cell BK122.out 7).trans rfl
                          have hfz27_0 := blk_frozen BK122.out 0
                          have hfz27_1 := blk_frozen BK122.out 1
                          have hfz27_2 := blk_frozen BK122.out 2
                          have hfz27_3 := blk_frozen BK122.out 3
                          have hfz27_4 := blk_frozen BK122.out 4
                          have hfz27_5 := blk_frozen BK122.out 5
                          have hfz27_6 := blk_frozen BK122.out 6
                          have hfz27_7 := blk_frozen BK122.out 7
                          have p126 : 0 ≤ (3 : Int) := (by omega)
                          have q126 : 3 < (l0.length : Int) := of_decide_eq_true mS
                          obtain ⟨ad126, e126, hx126_0⟩ := Kd.at_int HR0.out 3 p126 q126
                          cases e126
                          (try simp only [show (3 : Int).toNat = 3 from rfl, Nat.reduceMul, Nat.reduceEqDiff, Go.Addr.add, ↓reduceIte] at hx126_0)
                          have qi126 : (3 < l0.length) = True := eq_true (by omega)
                          (try rw [show ((3 : Int)).toNat = 3 from rfl] at hx126_0)
                          have hn126_0 : ad126.block ≠ gb122 := Nat.ne_of_lt (Nat.lt_of_lt_of_le (by have := World.block_lt_of_cell? _ _ hx126_0; first | rwa [add_block] at this | exact this) GW122.out)
                          replace hx126_0 := cB HB hx126_0
                          replace hx126_0 := (cell_far (p := ⟨gb122, 3, none⟩) (by first | (rw [add_block]; exact hn126_0) | (show (Addr.add _ _).block ≠ _; rw [add_block]; exact hn126_0) | exact hn126_0) (.bool true)).trans hx126_0
                          clear hn126_0
                          replace p126 := eq_true p126
                          replace q126 := eq_true q126
                          go_wp2
                          go_roundg k2
                          case measure => have := HK1.out; have := HK2.out; omega
                          case rel => exact ⟨(wrap64 (x6_2 + 1)), (rd l0 3), (x123000_2), (x123001_2), (x123002_2), (true), (x123004_2), (x123005_2), (x123006_2), (x123007_2), mF, mF, H', ⟨by have := HK1.out; have := HK2.out; omega⟩, ⟨by (with_reducible repeat (first | apply Kd.R_alloc | apply Kd.R_drewN | apply Kd.R_drew)); exact Kd.R_mono (Kd.R_far (p := ⟨gb122, 3, none⟩) (Kd.R_types HO_4.out BK122.out (by decide)) (fun _ hk => hk.2) (.bool true)) (fun _ hk => trivial)⟩, ⟨by (with_reducible repeat (first | refine blk_drewN ?_ _ | refine blk_drew ?_ | refine blk_alloc ?_ _)); refine blk_put (cs := #[.bool x123000_2, .bool x123001_2, .bool x123002_2, .bool false, .bool x123004_2, .bool x123005_2, .bool x123006_2, .bool x123007_2]) ?_ 3 _ rfl; (with_reducible repeat (first | refine blk_drewN ?_ _ | refine blk_drew ?_ | refine blk_alloc ?_ _)); exact BK122.out⟩, ⟨mB⟩⟩
                        · rw [if_neg c26] at H
                          exact absurd H (by simp)
                    · rw [if_neg c23] at H
                      by_cases c28 : x7_2 = 4
                      · subst c28
                        have H1 : (if x123004_2 = true then (spec_l04Cycles.j2 k2 l0 x4_1 x5_1 x6_2 x123000_2 x123001_2 x123002_2 x123003_2 x123004_2 x123005_2 x123006_2 x123007_2) else (if 4 < (l0.length : Int) then (spec_l04Cycles.l1 k2 l0 x4_1 x5_1 (wrap64 (x6_2 + 1)) (rd l0 4) x123000_2 x123001_2 x123002_2 x123003_2 true x123005_2 x123006_2 x123007_2) else (none))) = some r := by rw [if_pos rfl] at H; exact H
                        clear H
                        have H := H1
                        clear H1
                        by_cases c29 : x123004_2 = true
                        · subst c29
                          have H1 : (spec_l04Cycles.j2 k2 l0 x4_1 x5_1 x6_2 x123000_2 x123001_2 x123002_2 x123003_2 true x123005_2 x123006_2 x123007_2) = some r := by rw [if_pos rfl] at H; exact H
                          clear H
                          have H := H1
                          clear H1
                          have H' := Aside0.mk H
                          clear H
                          have hcz30_0 : wr.cell? ⟨gb122, 0, none⟩ = some (.bool x123000_2) := (blk_cell BK122.out 0).trans rfl
                          have hcz30_1 : wr.cell? ⟨gb122, 1, none⟩ = some (.bool x123001_2) := (blk_cell BK122.out 1).trans rfl
                          have hcz30_2 : wr.cell? ⟨gb122, 2, none⟩ = some (.bool x123002_2) := (blk_cell BK122.out 2).trans rfl
                          have hcz30_3 : wr.cell? ⟨gb122, 3, none⟩ = some (.bool x123003_2) := (blk_cell BK122.out 3).trans rfl
                          have hcz30_4 : wr.cell? ⟨gb122, 4, none⟩ = some (.bool true) := (blk_cell BK122.out 4).trans rfl
                          have hcz30_5 : wr.cell? ⟨gb122, 5, none⟩ = some (.bool x123005_2) := (blk_cell BK122.out 5).trans rfl
                          have hcz30_6 : wr.cell? ⟨gb122, 6, none⟩ = some (.bool x123006_2) := (blk_cell BK122.out 6).trans rfl
                          have hcz30_7 : wr.cell? ⟨gb122, 7, none⟩ = some (.bool x123007_2) := (blk_cell BK122.out 7).trans rfl
                          have hfz30_0 := blk_frozen BK122.out 0
                          have hfz30_1 := blk_frozen BK122.out 1
                          have hfz30_2 := blk_frozen BK122.out 2
                          have hfz30_3 := blk_frozen BK122.out 3
                          have hfz30_4 := blk_frozen BK122.out 4
                          have hfz30_5 := blk_frozen BK122.out 5
                          have hfz30_6 := blk_frozen BK122.out 6
                          have hfz30_7 := blk_frozen BK122.out 7
                          go_wp2
                          go_meet
                          case rel => exact ⟨_, (x6_2), (x123000_2), (x123001_2), (x123002_2), (x123003_2), (true), (x123005_2), (x123006_2), (x123007_2), mF, H', ⟨by have := HK1.out; have := HK2.out; first | omega | exact Nat.le_refl _⟩, ⟨mR HO_4.out⟩, ⟨by (with_reducible repeat (first | refine blk_drewN ?_ _ | refine blk_drew ?_ | refine blk_alloc ?_ _)); exact BK122.out⟩, ⟨mB⟩⟩
                        · replace c29 := Bool.eq_false_iff.mpr c29
                          subst c29
                          have H1 : (if 4 < (l0.length : Int) then (spec_l04Cycles.l1 k2 l0 x4_1 x5_1 (wrap64 (x6_2 + 1)) (rd l0 4) x123000_2 x123001_2 x123002_2 x123003_2 true x123005_2 x123006_2 x123007_2) else (none)) = some r := by rw [if_neg (show ¬ (false = true) by decide)] at H; exact H
                          clear H
                          have H := H1
                          clear H1
                          by_cases c31 : 4 < (l0.length : Int)
                          · rw [if_pos c31] at H
                            have c31b0 : decide (4 < (l0.length : Int)) = true := decide_eq_true c31
                            have c31b1 : decide (4 < l0.length) = true := decide_eq_true (by omega)
                            clear c31
                            have H' := Aside0.mk H
                            clear H
                            have hcz32_0 : wr.cell? ⟨gb122, 0, none⟩ = some (.bool x123000_2) := (blk_cell BK122.out 0).trans rfl
                            have hcz32_1 : wr.cell? ⟨gb122, 1, none⟩ = some (.bool x123001_2) := (blk_cell BK122.out 1).trans rfl
                            have hcz32_2 : wr.cell? ⟨gb122, 2, none⟩ = some (.bool x123002_2) := (blk_cell BK122.out 2).trans rfl
                            have hcz32_3 : wr.cell? ⟨gb122, 3, none⟩ = some (.bool x123003_2) := (blk_cell BK122.out 3).trans rfl
                            have hcz32_4 : wr.cell? ⟨gb122, 4, none⟩ = some (.bool false) := (blk_cell BK122.out 4).trans rfl
                            have hcz32_5 : wr.cell? ⟨gb122, 5, none⟩ = some (.bool x123005_2) := (blk_cell BK122.out 5).trans rfl
                            have hcz32_6 : wr.cell? ⟨gb122, 6, none⟩ = some (.bool x123006_2) := (blk_cell BK122.out 6).trans rfl
                            have hcz32_7 : wr.cell? ⟨gb122, 7, none⟩ = some (.bool x123007_2) := (blk_cell BK122.out 7).trans rfl
                            have hfz32_0 := blk_frozen BK122.out 0
                            have hfz32_1 := blk_frozen BK122.out 1
                            have hfz32_2 := blk_frozen BK122.out 2
                            have hfz32_3 := blk_frozen BK122.out 3
                            have hfz32_4 := blk_frozen BK122.out 4
                            have hfz32_5 := blk_frozen BK122.out 5
                            have hfz32_6 := blk_frozen BK122.out 6
                            have hfz32_7 := blk_frozen BK122.out 7
                            have p127 : 0 ≤ (4 : Int) := (by omega)
                            have q127 : 4 < (l0.length : Int) := of_decide_eq_true mS
                            obtain ⟨ad127, e127, hx127_0⟩ := Kd.at_int HR0.out 4 p127 q127
                            cases e127
                            (try simp only [show (4 : Int).toNat = 4 from rfl, Nat.reduceMul, Nat.reduceEqDiff, Go.Addr.add, ↓reduceIte] at hx127_0)
                            have qi127 : (4 < l0.length) = True := eq_true (by omega)
                            (try rw [show ((4 : Int)).toNat = 4 from rfl] at hx127_0)
                            have hn127_0 : ad127.block ≠ gb122 := Nat.ne_of_lt (Nat.lt_of_lt_of_le (by have := World.block_lt_of_cell? _ _ hx127_0; first | rwa [add_block] at this | exact this) GW122.out)
                            replace hx127_0 := cB HB hx127_0
                            replace hx127_0 := (cell_far (p := ⟨gb122, 4, none⟩) (by first | (rw [add_block]; exact hn127_0) | (show (Addr.add _ _).block ≠ _; rw [add_block]; exact hn127_0) | exact hn127_0) (.bool true)).trans hx127_0
                            clear hn127_0
                            replace p127 := eq_true p127
                            replace q127 := eq_true q127
                            go_wp2
                            go_roundg k2
                            case measure => have := HK1.out; have := HK2.out; omega
                            case rel => exact ⟨(wrap64 (x6_2 + 1)), (rd l0 4), (x123000_2), (x123001_2), (x123002_2), (x123003_2), (true), (x123005_2), (x123006_2), (x123007_2), mF, mF, H', ⟨by have := HK1.out; have := HK2.out; omega⟩, ⟨by (with_reducible repeat (first | apply Kd.R_alloc | apply Kd.R_drewN | apply Kd.R_drew)); exact Kd.R_mono (Kd.R_far (p := ⟨gb122, 4, none⟩) (Kd.R_types HO_4.out BK122.out (by decide)) (fun _ hk => hk.2) (.bool true)) (fun _ hk => trivial)⟩, ⟨by (with_reducible repeat (first | refine blk_drewN ?_ _ | refine blk_drew ?_ | refine blk_alloc ?_ _)); refine blk_put (cs := #[.bool x123000_2, .bool x123001_2, .bool x123002_2, .bool x123003_2, .bool false, .bool x123005_2, .bool x123006_2, .bool x123007_2]) ?_ 4 _ rfl; (with_reducible repeat (first | refine blk_drewN ?_ _ | refine blk_drew ?_ | refine blk_alloc ?_ _)); exact BK122.out⟩, ⟨mB⟩⟩
                          · rw [if_neg c31] at H
                            exact absurd H (by simp)
                      · rw [if_neg c28] at H
                        by_cases c33 : x7_2 = 5
                        · subst c33
                          have H1 : (if x123005_2 = true then (spec_l04Cycles.j2 k2 l0 x4_1 x5_1 x6_2 x123000_2 x123001_2 x123002_2 x123003_2 x123004_2 x123005_2 x123006_2 x123007_2) else (if 5 < (l0.length : Int) then (spec_l04Cycles.l1 k2 l0 x4_1 x5_1 (wrap64 (x6_2 + 1)) (rd l0 5) x123000_2 x123001_2 x123002_2 x123003_2 x123004_2 true x123006_2 x123007_2) else (none))) = some r := by rw [if_pos rfl] at H; exact H
                          clear H
                          have H := H1
                          clear H1
                          by_cases c34 : x123005_2 = true
                          · subst c34
                            have H1 : (spec_l04Cycles.j2 k2 l0 x4_1 x5_1 x6_2 x123000_2 x123001_2 x123002_2 x123003_2 x123004_2 true x123006_2 x123007_2) = some r := by rw [if_pos rfl] at H; exact H
                            clear H
                            have H := H1
                            clear H1
                            have H' := Aside0.mk H
                            clear H
                            have hcz35_0 : wr.cell? ⟨gb122, 0, none⟩ = some (.bool x123000_2) := (blk_cell BK122.out 0).trans rfl
                            have hcz35_1 : wr.cell? ⟨gb122, 1, none⟩ = some (.bool x123001_2) := (blk_cell BK122.out 1).trans rfl
                            have hcz35_2 : wr.cell? ⟨gb122, 2, none⟩ = some (.bool x123002_2) := (blk_cell BK122.out 2).trans rfl
                            have hcz35_3 : wr.cell? ⟨gb122, 3, none⟩ = some (.bool x123003_2) := (blk_cell BK122.out 3).trans rfl
                            have hcz35_4 : wr.cell? ⟨gb122, 4, none⟩ = some (.bool x123004_2) := (blk_cell BK122.out 4).trans rfl
                            have hcz35_5 : wr.cell? ⟨gb122, 5, none⟩ = some (.bool true) := (blk_cell BK122.out 5).trans rfl
                            have hcz35_6 : wr.cell? ⟨gb122, 6, none⟩ = some (.bool x123006_2) := (blk_cell BK122.out 6).trans rfl
                            have hcz35_7 : wr.cell? ⟨gb122, 7, none⟩ = some (.bool x123007_2) := (blk_cell BK122.out 7).trans rfl
                            have hfz35_0 := blk_frozen BK122.out 0
                            have hfz35_1 := blk_frozen BK122.out 1
                            have hfz35_2 := blk_frozen BK122.out 2
                            have hfz35_3 := blk_frozen BK122.out 3
                            have hfz35_4 := blk_frozen BK122.out 4
                            have hfz35_5 := blk_frozen BK122.out 5
                            have hfz35_6 := blk_frozen BK122.out 6
                            have hfz35_7 := blk_frozen BK122.out 7
                            go_wp2
                            go_meet
                            case rel => exact ⟨_, (x6_2), (x123000_2), (x123001_2), (x123002_2), (x123003_2), (x123004_2), (true), (x123006_2), (x123007_2), mF, H', ⟨by have := HK1.out; have := HK2.out; first | omega | exact Nat.le_refl _⟩, ⟨mR HO_4.out⟩, ⟨by (with_reducible repeat (first | refine blk_drewN ?_ _ | refine blk_drew ?_ | refine blk_alloc ?_ _)); exact BK122.out⟩, ⟨mB⟩⟩
                          · replace c34 := Bool.eq_false_iff.mpr c34
                            subst c34
                            have H1 : (if 5 < (l0.length : Int) then (spec_l04Cycles.l1 k2 l0 x4_1 x5_1 (wrap64 (x6_2 + 1)) (rd l0 5) x123000_2 x123001_2 x123002_2 x123003_2 x123004_2 true x123006_2 x123007_2) else (none)) = some r := by rw [if_neg (show ¬ (false = true) by decide)] at H; exact H
                            clear H
                            have H := H1
                            clear H1
                            by_cases c36 : 5 < (l0.length : Int)
                            · rw [if_pos c36] at H
                              have c36b0 : decide (5 < (l0.length : Int)) = true := decide_eq_true c36
                              have c36b1 : decide (5 < l0.length) = true := decide_eq_true (by omega)
                              clear c36
                              have H' := Aside0.mk H
                              clear H
                              have hcz37_0 : wr.cell? ⟨gb122, 0, none⟩ = some (.bool x123000_2) := (blk_cell BK122.out 0).trans rfl
                              have hcz37_1 : wr.cell? ⟨gb122, 1, none⟩ = some (.bool x123001_2) := (blk_cell BK122.out 1).trans rfl
                              have hcz37_2 : wr.cell? ⟨gb122, 2, none⟩ = some (.bool x123002_2) := (blk_cell BK122.out 2).trans rfl
                              have hcz37_3 : wr.cell? ⟨gb122, 3, none⟩ = some (.bool x123003_2) := (blk_cell BK122.out 3).trans rfl
                              have hcz37_4 : wr.cell? ⟨gb122, 4, none⟩ = some (.bool x123004_2) := (blk_cell BK122.out 4).trans rfl
                              have hcz37_5 : wr.cell? ⟨gb122, 5, none⟩ = some (.bool false) := (blk_cell BK122.out 5).trans rfl
                              have hcz37_6 : wr.cell? ⟨gb122, 6, none⟩ = some (.bool x123006_2) := (blk_cell BK122.out 6).trans rfl
                              have hcz37_7 : wr.cell? ⟨gb122, 7, none⟩ = some (.bool x123007_2) := (blk_cell BK122.out 7).trans rfl
                              have hfz37_0 := blk_frozen BK122.out 0
                              have hfz37_1 := blk_frozen BK122.out 1
                              have hfz37_2 := blk_frozen BK122.out 2
                              have hfz37_3 := blk_frozen BK122.out 3
                              have hfz37_4 := blk_frozen BK122.out 4
                              have hfz37_5 := blk_frozen BK122.out 5
                              have hfz37_6 := blk_frozen BK122.out 6
                              have hfz37_7 := blk_frozen BK122.out 7
                              have p128 : 0 ≤ (5 : Int) := (by omega)
                              have q128 : 5 < (l0.length : Int) := of_decide_eq_true mS
                              obtain ⟨ad128, e128, hx128_0⟩ := Kd.at_int HR0.out 5 p128 q128
                              cases e128
                              (try simp only [show (5 : Int).toNat = 5 from rfl, Nat.reduceMul, Nat.reduceEqDiff, Go.Addr.add, ↓reduceIte] at hx128_0)
                              have qi128 : (5 < l0.length) = True := eq_true (by omega)
                              (try rw [show ((5 : Int)).toNat = 5 from rfl] at hx128_0)
                              have hn128_0 : ad128.block ≠ gb122 := Nat.ne_of_lt (Nat.lt_of_lt_of_le (by have := World.block_lt_of_cell? _ _ hx128_0; first | rwa [add_block] at this | exact this) GW122.out)
                              replace hx128_0 := cB HB hx128_0
                              replace hx128_0 := (cell_far (p := ⟨gb122, 5, none⟩) (by first | (rw [add_block]; exact hn128_0) | (show (Addr.add _ _).block ≠ _; rw [add_block]; exact hn128_0) | exact hn128_0) (.bool true)).trans hx128_0
                              clear hn128_0
                              replace p128 := eq_true p128
                              replace q128 := eq_true q128
                              go_wp2
                              go_roundg k2
                              case measure => have := HK1.out; have := HK2.out; omega
                              case rel => exact ⟨(wrap64 (x6_2 + 1)), (rd l0 5), (x123000_2), (x123001_2), (x123002_2), (x123003_2), (x123004_2), (true), (x123006_2), (x123007_2), mF, mF, H', ⟨by have := HK1.out; have := HK2.out; omega⟩, ⟨by (with_reducible repeat (first | apply Kd.R_alloc | apply Kd.R_drewN | apply Kd.R_drew)); exact Kd.R_mono (Kd.R_far (p := ⟨gb122, 5, none⟩) (Kd.R_types HO_4.out BK122.out (by decide)) (fun _ hk => hk.2) (.bool true)) (fun _ hk => trivial)⟩, ⟨by (with_reducible repeat (first | refine blk_drewN ?_ _ | refine blk_drew ?_ | refine blk_alloc ?_ _)); refine blk_put (cs := #[.bool x123000_2, .bool x123001_2, .bool x123002_2, .bool x123003_2, .bool x123004_2, .bool false, .bool x123006_2, .bool x123007_2]) ?_ 5 _ rfl; (with_reducible repeat (first | refine blk_drewN ?_ _ | refine blk_drew ?_ | refine blk_alloc ?_ _)); exact BK122.out⟩, ⟨mB⟩⟩
                            · rw [if_neg c36] at H
                              exact absurd H (by simp)
                        · rw [if_neg c33] at H
                          by_cases c38 : x7_2 = 6
                          · subst c38
                            have H1 : (if x123006_2 = true then (spec_l04Cycles.j2 k2 l0 x4_1 x5_1 x6_2 x123000_2 x123001_2 x123002_2 x123003_2 x123004_2 x123005_2 x123006_2 x123007_2) else (if 6 < (l0.length : Int) then (spec_l04Cycles.l1 k2 l0 x4_1 x5_1 (wrap64 (x6_2 + 1)) (rd l0 6) x123000_2 x123001_2 x123002_2 x123003_2 x123004_2 x123005_2 true x123007_2) else (none))) = some r := by rw [if_pos rfl] at H; exact H
                            clear H
                            have H := H1
                            clear H1
                            by_cases c39 : x123006_2 = true
                            · subst c39
                              have H1 : (spec_l04Cycles.j2 k2 l0 x4_1 x5_1 x6_2 x123000_2 x123001_2 x123002_2 x123003_2 x123004_2 x123005_2 true x123007_2) = some r := by rw [if_pos rfl] at H; exact H
                              clear H
                              have H := H1
                              clear H1
                              have H' := Aside0.mk H
                              clear H
                              have hcz40_0 : wr.cell? ⟨gb122, 0, none⟩ = some (.bool x123000_2) := (blk_cell BK122.out 0).trans rfl
                              have hcz40_1 : wr.cell? ⟨gb122, 1, none⟩ = some (.bool x123001_2) := (blk_cell BK122.out 1).trans rfl
                              have hcz40_2 : wr.cell? ⟨gb122, 2, none⟩ = some (.bool x123002_2) := (blk_cell BK122.out 2).trans rfl
                              have hcz40_3 : wr.cell? ⟨gb122, 3, none⟩ = some (.bool x123003_2) := (blk_cell BK122.out 3).trans rfl
                              have hcz40_4 : wr.cell? ⟨gb122, 4, none⟩ = some (.bool x123004_2) := (blk_cell BK122.out 4).trans rfl
                              have hcz40_5 : wr.cell? ⟨gb122, 5, none⟩ = some (.bool x123005_2) := (blk_cell BK122.out 5).trans rfl
                              have hcz40_6 : wr.cell? ⟨gb122, 6, none⟩ = some (.bool true) := (blk_cell BK122.out 6).trans rfl
                              have hcz40_7 : wr.cell? ⟨gb122, 7, none⟩ = some (.bool x123007_2) := (blk_cell BK122.out 7).trans rfl
                              have hfz40_0 := blk_frozen BK122.out 0
                              have hfz40_1 := blk_frozen BK122.out 1
                              have hfz40_2 := blk_frozen BK122.out 2
                              have hfz40_3 := blk_frozen BK122.out 3
                              have hfz40_4 := blk_frozen BK122.out 4
                              have hfz40_5 := blk_frozen BK122.out 5
                              have hfz40_6 := blk_frozen BK122.out 6
                              have hfz40_7 := blk_frozen BK122.out 7
                              go_wp2
                              go_meet
                              case rel => exact ⟨_, (x6_2), (x123000_2), (x123001_2), (x123002_2), (x123003_2), (x123004_2), (x123005_2), (true), (x123007_2), mF, H', ⟨by have := HK1.out; have := HK2.out; first | omega | exact Nat.le_refl _⟩, ⟨mR HO_4.out⟩, ⟨by (with_reducible repeat (first | refine blk_drewN ?_ _ | refine blk_drew ?_ | refine blk_alloc ?_ _)); exact BK122.out⟩, ⟨mB⟩⟩
                            · replace c39 := Bool.eq_false_iff.mpr c39
                              subst c39
                              have H1 : (if 6 < (l0.length : Int) then (spec_l04Cycles.l1 k2 l0 x4_1 x5_1 (wrap64 (x6_2 + 1)) (rd l0 6) x123000_2 x123001_2 x123002_2 x123003_2 x123004_2 x123005_2 true x123007_2) else (none)) = some r := by rw [if_neg (show ¬ (false = true) by decide)] at H; exact H
                              clear H
                              have H := H1
                              clear H1
                              by_cases c41 : 6 < (l0.length : Int)
                              · rw [if_pos c41] at H
                                have c41b0 : decide (6 < (l0.length : Int)) = true := decide_eq_true c41
                                have c41b1 : decide (6 < l0.length) = true := decide_eq_true (by omega)
                                clear c41
                                have H' := Aside0.mk H
                                clear H
                                have hcz42_0 : wr.cell? ⟨gb122, 0, none⟩ = some (.bool x123000_2) := (blk_cell BK122.out 0).trans rfl
                                have hcz42_1 : wr.cell? ⟨gb122, 1, none⟩ = some (.bool x123001_2) := (blk_cell BK122.out 1).trans rfl
                                have hcz42_2 : wr.cell? ⟨gb122, 2, none⟩ = some (.bool x123002_2) := (blk_cell BK122.out 2).trans rfl
                                have hcz42_3 : wr.cell? ⟨gb122, 3, none⟩ = some (.bool x123003_2) := (blk_cell BK122.out 3).trans rfl
                                have hcz42_4 : wr.cell? ⟨gb122, 4, none⟩ = some (.bool x123004_2) := (blk_cell BK122.out 4).trans rfl
                                have hcz42_5 : wr.cell? ⟨gb122, 5, none⟩ = some (.bool x123005_2) := (blk_cell BK122.out 5).trans rfl
                                have hcz42_6 : wr.cell? ⟨gb122, 6, none⟩ = some (.bool false) := (blk_cell BK122.out 6).trans rfl
                                have hcz42_7 : wr.cell? ⟨gb122, 7, none⟩ = some (.bool x123007_2) := (blk_cell BK122.out 7).trans rfl
                                have hfz42_0 := blk_frozen BK122.out 0
                                have hfz42_1 := blk_frozen BK122.out 1
                                have hfz42_2 := blk_frozen BK122.out 2
                                have hfz42_3 := blk_frozen BK122.out 3
                                have hfz42_4 := blk_frozen BK122.out 4
                                have hfz42_5 := blk_frozen BK122.out 5
                                have hfz42_6 := blk_frozen BK122.out 6
                                have hfz42_7 := blk_frozen BK122.out 7
                                have p129 : 0 ≤ (6 : Int) := (by omega)
                                have q129 : 6 < (l0.length : Int) := of_decide_eq_true mS
                                obtain ⟨ad129, e129, hx129_0⟩ := Kd.at_int HR0.out 6 p129 q129
                                cases e129
                                (try simp only [show (6 : Int).toNat = 6 from rfl, Nat.reduceMul, Nat.reduceEqDiff, Go.Addr.add, ↓reduceIte] at hx129_0)
                                have qi129 : (6 < l0.length) = True := eq_true (by omega)
                                (try rw [show ((6 : Int)).toNat = 6 from rfl] at hx129_0)
                                have hn129_0 : ad129.block ≠ gb122 := Nat.ne_of_lt (Nat.lt_of_lt_of_le (by have := World.block_lt_of_cell? _ _ hx129_0; first | rwa [add_block] at this | exact this) GW122.out)
                                replace hx129_0 := cB HB hx129_0
                                replace hx129_0 := (cell_far (p := ⟨gb122, 6, none⟩) (by first | (rw [add_block]; exact hn129_0) | (show (Addr.add _ _).block ≠ _; rw [add_block]; exact hn129_0) | exact hn129_0) (.bool true)).trans hx129_0
                                clear hn129_0
                                replace p129 := eq_true p129
                                replace q129 := eq_true q129
                                go_wp2
                                go_roundg k2
                                case measure => have := HK1.out; have := HK2.out; omega
                                case rel => exact ⟨(wrap64 (x6_2 + 1)), (rd l0 6), (x123000_2), (x123001_2), (x123002_2), (x123003_2), (x123004_2), (x123005_2), (true), (x123007_2), mF, mF, H', ⟨by have := HK1.out; have := HK2.out; omega⟩, ⟨by (with_reducible repeat (first | apply Kd.R_alloc | apply Kd.R_drewN | apply Kd.R_drew)); exact Kd.R_mono (Kd.R_far (p := ⟨gb122, 6, none⟩) (Kd.R_types HO_4.out BK122.out (by decide)) (fun _ hk => hk.2) (.bool true)) (fun _ hk => trivial)⟩, ⟨by (with_reducible repeat (first | refine blk_drewN ?_ _ | refine blk_drew ?_ | refine blk_alloc ?_ _)); refine blk_put (cs := #[.bool x123000_2, .bool x123001_2, .bool x123002_2, .bool x123003_2, .bool x123004_2, .bool x123005_2, .bool false, .bool x123007_2]) ?_ 6 _ rfl; (with_reducible repeat (first | refine blk_drewN ?_ _ | refine blk_drew ?_ | refine blk_alloc ?_ _)); exact BK122.out⟩, ⟨mB⟩⟩
                              · rw [if_neg c41] at H
                                exact absurd H (by simp)
                          · rw [if_neg c38] at H
                            by_cases c43 : x7_2 = 7
                            · subst c43
                              have H1 : (if x123007_2 = true then (spec_l04Cycles.j2 k2 l0 x4_1 x5_1 x6_2 x123000_2 x123001_2 x123002_2 x123003_2 x123004_2 x123005_2 x123006_2 x123007_2) else (if 7 < (l0.length : Int) then (spec_l04Cycles.l1 k2 l0 x4_1 x5_1 (wrap64 (x6_2 + 1)) (rd l0 7) x123000_2 x123001_2 x123002_2 x123003_2 x123004_2 x123005_2 x123006_2 true) else (none))) = some r := by rw [if_pos rfl] at H; exact H
                              clear H
                              have H := H1
                              clear H1
                              by_cases c44 : x123007_2 = true
                              · subst c44
                                have H1 : (spec_l04Cycles.j2 k2 l0 x4_1 x5_1 x6_2 x123000_2 x123001_2 x123002_2 x123003_2 x123004_2 x123005_2 x123006_2 true) = some r := by rw [if_pos rfl] at H; exact H
                                clear H
                                have H := H1
                                clear H1
                                have H' := Aside0.mk H
                                clear H
                                have hcz45_0 : wr.cell? ⟨gb122, 0, none⟩ = some (.bool x123000_2) := (blk_cell BK122.out 0).trans rfl
                                have hcz45_1 : wr.cell? ⟨gb122, 1, none⟩ = some (.bool x123001_2) := (blk_cell BK122.out 1).trans rfl
                                have hcz45_2 : wr.cell? ⟨gb122, 2, none⟩ = some (.bool x123002_2) := (blk_cell BK122.out 2).trans rfl
                                have hcz45_3 : wr.cell? ⟨gb122, 3, none⟩ = some (.bool x123003_2) := (blk_cell BK122.out 3).trans rfl
                                have hcz45_4 : wr.cell? ⟨gb122, 4, none⟩ = some (.bool x123004_2) := (blk_cell BK122.out 4).trans rfl
                                have hcz45_5 : wr.cell? ⟨gb122, 5, none⟩ = some (.bool x123005_2) := (blk_cell BK122.out 5).trans rfl
                                have hcz45_6 : wr.cell? ⟨gb122, 6, none⟩ = some (.bool x123006_2) := (blk_cell BK122.out 6).trans rfl
                                have hcz45_7 : wr.cell? ⟨gb122, 7, none⟩ = some (.bool true) := (blk_cell BK122.out 7).trans rfl
                                have hfz45_0 := blk_frozen BK122.out 0
                                have hfz45_1 := blk_frozen BK122.out 1
                                have hfz45_2 := blk_frozen BK122.out 2
                                have hfz45_3 := blk_frozen BK122.out 3
                                have hfz45_4 := blk_frozen BK122.out 4
                                have hfz45_5 := blk_frozen BK122.out 5
                                have hfz45_6 := blk_frozen BK122.out 6
                                have hfz45_7 := blk_frozen BK122.out 7
                                go_wp2
                                go_meet
                                case rel => exact ⟨_, (x6_2), (x123000_2), (x123001_2), (x123002_2), (x123003_2), (x123004_2), (x123005_2), (x123006_2), (true), mF, H', ⟨by have := HK1.out; have := HK2.out; first | omega | exact Nat.le_refl _⟩, ⟨mR HO_4.out⟩, ⟨by (with_reducible repeat (first | refine blk_drewN ?_ _ | refine blk_drew ?_ | refine blk_alloc ?_ _)); exact BK122.out⟩, ⟨mB⟩⟩
                              · replace c44 := Bool.eq_false_iff.mpr c44
                                subst c44
                                have H1 : (if 7 < (l0.length : Int) then (spec_l04Cycles.l1 k2 l0 x4_1 x5_1 (wrap64 (x6_2 + 1)) (rd l0 7) x123000_2 x123001_2 x123002_2 x123003_2 x123004_2 x123005_2 x123006_2 true) else (none)) = some r := by rw [if_neg (show ¬ (false = true) by decide)] at H; exact H
                                clear H
                                have H := H1
                                clear H1
                                by_cases c46 : 7 < (l0.length : Int)
                                · rw [if_pos c46] at H
                                  have c46b0 : decide (7 < (l0.length : Int)) = true := decide_eq_true c46
                                  have c46b1 : decide (7 < l0.length) = true := decide_eq_true (by omega)
                                  clear c46
                                  have H' := Aside0.mk H
                                  clear H
                                  have hcz47_0 : wr.cell? ⟨gb122, 0, none⟩ = some (.bool x123000_2) := (blk_cell BK122.out 0).trans rfl
                                  have hcz47_1 : wr.cell? ⟨gb122, 1, none⟩ = some (.bool x123001_2) := (blk_cell BK122.out 1).trans rfl
                                  have hcz47_2 : wr.cell? ⟨gb122, 2, none⟩ = some (.bool x123002_2) := (blk_cell BK122.out 2).trans rfl
                                  have hcz47_3 : wr.cell? ⟨gb122, 3, none⟩ = some (.bool x123003_2) := (blk_cell BK122.out 3).trans rfl
                                  have hcz47_4 : wr.cell? ⟨gb122, 4, none⟩ = some (.bool x123004_2) := (blk_cell BK122.out 4).trans rfl
                                  have hcz47_5 : wr.cell? ⟨gb122, 5, none⟩ = some (.bool x123005_2) := (blk_cell BK122.out 5).trans rfl
                                  have hcz47_6 : wr.cell? ⟨gb122, 6, none⟩ = some (.bool x123006_2) := (blk_cell BK122.out 6).trans rfl
                                  have hcz47_7 : wr.cell? ⟨gb122, 7, none⟩ = some (.bool false) := (blk_cell BK122.out 7).trans rfl
                                  have hfz47_0 := blk_frozen BK122.out 0
                                  have hfz47_1 := blk_frozen BK122.out 1
                                  have hfz47_2 := blk_frozen BK122.out 2
                                  have hfz47_3 := blk_frozen BK122.out 3
                                  have hfz47_4 := blk_frozen BK122.out 4
                                  have hfz47_5 := blk_frozen BK122.out 5
                                  have hfz47_6 := blk_frozen BK122.out 6
                                  have hfz47_7 := blk_frozen BK122.out 7
                                  have p130 : 0 ≤ (7 : Int) := (by omega)
                                  have q130 : 7 < (l0.length : Int) := of_decide_eq_true mS
                                  obtain ⟨ad130, e130, hx130_0⟩ := Kd.at_int HR0.out 7 p130 q130
                                  cases e130
                                  (try simp only [show (7 : Int).toNat = 7 from rfl, Nat.reduceMul, Nat.reduceEqDiff, Go.Addr.add, ↓reduceIte] at hx130_0)
                                  have qi130 : (7 < l0.length) = True := eq_true (by omega)
                                  (try rw [show ((7 : Int)).toNat = 7 from rfl] at hx130_0)
                                  have hn130_0 : ad130.block ≠ gb122 := Nat.ne_of_lt (Nat.lt_of_lt_of_le (by have := World.block_lt_of_cell? _ _ hx130_0; first | rwa [add_block] at this | exact this) GW122.out)
                                  replace hx130_0 := cB HB hx130_0
                                  replace hx130_0 := (cell_far (p := ⟨gb122, 7, none⟩) (by first | (rw [add_block]; exact hn130_0) | (show (Addr.add _ _).block ≠ _; rw [add_block]; exact hn130_0) | exact hn130_0) (.bool true)).trans hx130_0
                                  clear hn130_0
                                  replace p130 := eq_true p130
                                  replace q130 := eq_true q130
                                  go_wp2
                                  go_roundg k2
                                  case measure => have := HK1.out; have := HK2.out; omega
                                  case rel => exact ⟨(wrap64 (x6_2 + 1)), (rd l0 7), (x123000_2), (x123001_2), (x123002_2), (x123003_2), (x123004_2), (x123005_2), (x123006_2), (true), mF, mF, H', ⟨by have := HK1.out; have := HK2.out; omega⟩, ⟨by (with_reducible repeat (first | apply Kd.R_alloc | apply Kd.R_drewN | apply Kd.R_drew)); exact Kd.R_mono (Kd.R_far (p := ⟨gb122, 7, none⟩) (Kd.R_types HO_4.out BK122.out (by decide)) (fun _ hk => hk.2) (.bool true)) (fun _ hk => trivial)⟩, ⟨by (with_reducible repeat (first | refine blk_drewN ?_ _ | refine blk_drew ?_ | refine blk_alloc ?_ _)); refine blk_put (cs := #[.bool x123000_2, .bool x123001_2, .bool x123002_2, .bool x123003_2, .bool x123004_2, .bool x123005_2, .bool x123006_2, .bool false]) ?_ 7 _ rfl; (with_reducible repeat (first | refine blk_drewN ?_ _ | refine blk_drew ?_ | refine blk_alloc ?_ _)); exact BK122.out⟩, ⟨mB⟩⟩
                                · rw [if_neg c46] at H
                                  exact absurd H (by simp)
                            · rw [if_neg c43] at H
                              exact absurd H (by simp)
        case rest =>
          clear HC7
          try clear c1
          try clear p1
          try clear q1
          try clear hx1
          try clear qi1
          try clear c2
          try clear p2
          try clear c3
          try clear c4
          try clear p6
          try clear c8
          try clear c11
          try clear p12
          try clear q12
          try clear hx12
          try clear qi12
          try clear c13
          try clear p13
          try clear q13
          try clear hx13
          try clear qi13
          try clear c14
          try clear c16
          try clear c16b0
          try clear c16b1
          try clear c18
          try clear c19
          try clear c21
          try clear c21b0
          try clear c21b1
          try clear c23
          try clear c24
          try clear c26
          try clear c26b0
          try clear c26b1
          try clear c28
          try clear c29
          try clear c31
          try clear c31b0
          try clear c31b1
          try clear c33
          try clear c34
          try clear c36
          try clear c36b0
          try clear c36b1
          try clear c38
          try clear c39
          try clear c41
          try clear c41b0
          try clear c41b1
          try clear c43
          try clear c44
          try clear c46
          try clear c46b0
          try clear c46b1
          try clear hcz15_0
          try clear hcz15_1
          try clear hcz15_2
          try clear hcz15_3
          try clear hcz15_4
          try clear hcz15_5
          try clear hcz15_6
          try clear hcz15_7
          try clear hcz17_0
          try clear hcz17_1
          try clear hcz17_2
          try clear hcz17_3
          try clear hcz17_4
          try clear hcz17_5
          try clear hcz17_6
          try clear hcz17_7
          try clear hcz20_0
          try clear hcz20_1
          try clear hcz20_2
          try clear hcz20_3
          try clear hcz20_4
          try clear hcz20_5
          try clear hcz20_6
          try clear hcz20_7
          try clear hcz22_0
          try clear hcz22_1
          try clear hcz22_2
          try clear hcz22_3
          try clear hcz22_4
          try clear hcz22_5
          try clear hcz22_6
          try clear hcz22_7
          try clear hcz25_0
          try clear hcz25_1
          try clear hcz25_2
          try clear hcz25_3
          try clear hcz25_4
          try clear hcz25_5
          try clear hcz25_6
          try clear hcz25_7
          try clear hcz27_0
          try clear hcz27_1
          try clear hcz27_2
          try clear hcz27_3
          try clear hcz27_4
          try clear hcz27_5
          try clear hcz27_6
          try clear hcz27_7
          try clear hcz30_0
          try clear hcz30_1
          try clear hcz30_2
          try clear hcz30_3
          try clear hcz30_4
          try clear hcz30_5
          try clear hcz30_6
          try clear hcz30_7
          try clear hcz32_0
          try clear hcz32_1
          try clear hcz32_2
          try clear hcz32_3
          try clear hcz32_4
          try clear hcz32_5
          try clear hcz32_6
          try clear hcz32_7
          try clear hcz35_0
          try clear hcz35_1
          try clear hcz35_2
          try clear hcz35_3
          try clear hcz35_4
          try clear hcz35_5
          try clear hcz35_6
          try clear hcz35_7
          try clear hcz37_0
          try clear hcz37_1
          try clear hcz37_2
          try clear hcz37_3
          try clear hcz37_4
          try clear hcz37_5
          try clear hcz37_6
          try clear hcz37_7
          try clear hcz40_0
          try clear hcz40_1
          try clear hcz40_2
          try clear hcz40_3
          try clear hcz40_4
          try clear hcz40_5
          try clear hcz40_6
          try clear hcz40_7
          try clear hcz42_0
          try clear hcz42_1
          try clear hcz42_2
          try clear hcz42_3
          try clear hcz42_4
          try clear hcz42_5
          try clear hcz42_6
          try clear hcz42_7
          try clear hcz45_0
          try clear hcz45_1
          try clear hcz45_2
          try clear hcz45_3
          try clear hcz45_4
          try clear hcz45_5
          try clear hcz45_6
          try clear hcz45_7
          try clear hcz47_0
          try clear hcz47_1
          try clear hcz47_2
          try clear hcz47_3
          try clear hcz47_4
          try clear hcz47_5
          try clear hcz47_6
          try clear hcz47_7
          try clear hfz12_5
          try clear hfz12_6
          try clear hfz12_7
          try clear hfz15_0
          try clear hfz15_1
          try clear hfz15_2
          try clear hfz15_3
          try clear hfz15_4
          try clear hfz15_5
          try clear hfz15_6
          try clear hfz15_7
          try clear hfz17_0
          try clear hfz17_1
          try clear hfz17_2
          try clear hfz17_3
          try clear hfz17_4
          try clear hfz17_5
          try clear hfz17_6
          try clear hfz17_7
          try clear hfz20_0
          try clear hfz20_1
          try clear hfz20_2
          try clear hfz20_3
          try clear hfz20_4
          try clear hfz20_5
          try clear hfz20_6
          try clear hfz20_7
          try clear hfz22_0
          try clear hfz22_1
          try clear hfz22_2
          try clear hfz22_3
          try clear hfz22_4
          try clear hfz22_5
          try clear hfz22_6
          try clear hfz22_7
          try clear hfz25_0
          try clear hfz25_1
          try clear hfz25_2
          try clear hfz25_3
          try clear hfz25_4
          try clear hfz25_5
          try clear hfz25_6
          try clear hfz25_7
          try clear hfz27_0
          try clear hfz27_1
          try clear hfz27_2
          try clear hfz27_3
          try clear hfz27_4
          try clear hfz27_5
          try clear hfz27_6
          try clear hfz27_7
          try clear hfz30_0
          try clear hfz30_1
          try clear hfz30_2
          try clear hfz30_3
          try clear hfz30_4
          try clear hfz30_5
          try clear hfz30_6
          try clear hfz30_7
          try clear hfz32_0
          try clear hfz32_1
          try clear hfz32_2
          try clear hfz32_3
          try clear hfz32_4
          try clear hfz32_5
          try clear hfz32_6
          try clear hfz32_7
          try clear hfz35_0
          try clear hfz35_1
          try clear hfz35_2
          try clear hfz35_3
          try clear hfz35_4
          try clear hfz35_5
          try clear hfz35_6
          try clear hfz35_7
          try clear hfz37_0
          try clear hfz37_1
          try clear hfz37_2
          try clear hfz37_3
          try clear hfz37_4
          try clear hfz37_5
          try clear hfz37_6
          try clear hfz37_7
          try clear hfz40_0
          try clear hfz40_1
          try clear hfz40_2
          try clear hfz40_3
          try clear hfz40_4
          try clear hfz40_5
          try clear hfz40_6
          try clear hfz40_7
          try clear hfz42_0
          try clear hfz42_1
          try clear hfz42_2
          try clear hfz42_3
          try clear hfz42_4
          try clear hfz42_5
          try clear hfz42_6
          try clear hfz42_7
          try clear hfz45_0
          try clear hfz45_1
          try clear hfz45_2
          try clear hfz45_3
          try clear hfz45_4
          try clear hfz45_5
          try clear hfz45_6
          try clear hfz45_7
          try clear hfz47_0
          try clear hfz47_1
          try clear hfz47_2
          try clear hfz47_3
          try clear hfz47_4
          try clear hfz47_5
          try clear hfz47_6
          try clear hfz47_7
          try clear hx123_0
          try clear hx124_0
          try clear hx125_0
          try clear hx126_0
          try clear hx127_0
          try clear hx128_0
          try clear hx129_0
          try clear hx130_0
          try clear p123
          try clear p124
          try clear p125
          try clear p126
          try clear p127
          try clear p128
          try clear p129
          try clear p130
          try clear q123
          try clear q124
          try clear q125
          try clear q126
          try clear q127
          try clear q128
          try clear q129
          try clear q130
          obtain ⟨kq, x6_6, x123000_6, x123001_6, x123002_6, x123003_6, x123004_6, x123005_6, x123006_6, x123007_6, rfl, HA, HJ6, HO_4, BK122, HB⟩ := hcut
          cases kq with
          | zero => exact absurd HA.out (by simp [spec_l04Cycles.j2])
          | succ kj6 =>
            have H := HA.out
            clear HA
            simp only [spec_l04Cycles.j2] at H
            have H' := Aside0.mk H
            clear H
            obtain ⟨Ao48, co48, eo48⟩ := Kd.R_slice HO_4.out
            subst eo48
            go_wp2
            go_loopg [8] kj6 (fun kq v8 w' => ∃ (x8_3 : Int), v8 = .int .i64 x8_3 ∧ Aside0 (spec_l04Cycles.l2 kq l0 x4_1 x5_1 x6_6 x8_3 x123000_6 x123001_6 x123002_6 x123003_6 x123004_6 x123005_6 x123006_6 x123007_6 = some r) ∧ Aside0 (kq ≤ kj6) ∧ Aside0 (Kd.R (Kd.int .i64) 2 w' w.heap.size (fun _ => True) (.slice Ao48 x4_1.length co48) x4_1) ∧ Aside0 (w'.heap[gb122]? = some (.cells #[.bool x123000_6, .bool x123001_6, .bool x123002_6, .bool x123003_6, .bool x123004_6, .bool x123005_6, .bool x123006_6, .bool x123007_6] 50 (0, 0))) ∧ Aside0 (Below w.heap.size w w'))
            case atStart => exact ⟨((x4_1.length : Int)), mF, H', ⟨Nat.le_refl _⟩, ⟨mR HO_4.out⟩, ⟨by (with_reducible repeat (first | refine blk_drewN ?_ _ | refine blk_drew ?_ | refine blk_alloc ?_ _)); exact BK122.out⟩, ⟨mB⟩⟩
            case round =>
              clear H'
              try clear c1
              try clear p1
              try clear q1
              try clear hx1
              try clear qi1
              try clear c2
              try clear p2
              try clear c3
              try clear c4
              try clear p6
              try clear c8
              try clear c11
              try clear p12
              try clear q12
              try clear hx12
              try clear qi12
              try clear c13
              try clear p13
              try clear q13
              try clear hx13
              try clear qi13
              try clear c14
              try clear c16
              try clear c16b0
              try clear c16b1
              try clear c18
              try clear c19
              try clear c21
              try clear c21b0
              try clear c21b1
              try clear c23
              try clear c24
              try clear c26
              try clear c26b0
              try clear c26b1
              try clear c28
              try clear c29
              try clear c31
              try clear c31b0
              try clear c31b1
              try clear c33
              try clear c34
              try clear c36
              try clear c36b0
              try clear c36b1
              try clear c38
              try clear c39
              try clear c41
              try clear c41b0
              try clear c41b1
              try clear c43
              try clear c44
              try clear c46
              try clear c46b0
              try clear c46b1
              try clear hcz15_0
              try clear hcz15_1
              try clear hcz15_2
              try clear hcz15_3
              try clear hcz15_4
              try clear hcz15_5
              try clear hcz15_6
              try clear hcz15_7
              try clear hcz17_0
              try clear hcz17_1
              try clear hcz17_2
              try clear hcz17_3
              try clear hcz17_4
              try clear hcz17_5
              try clear hcz17_6
              try clear hcz17_7
              try clear hcz20_0
              try clear hcz20_1
              try clear hcz20_2
              try clear hcz20_3
              try clear hcz20_4
              try clear hcz20_5
              try clear hcz20_6
              try clear hcz20_7
              try clear hcz22_0
              try clear hcz22_1
              try clear hcz22_2
              try clear hcz22_3
              try clear hcz22_4
              try clear hcz22_5
              try clear hcz22_6
              try clear hcz22_7
              try clear hcz25_0
              try clear hcz25_1
              try clear hcz25_2
              try clear hcz25_3
              try clear hcz25_4
              try clear hcz25_5
              try clear hcz25_6
              try clear hcz25_7
              try clear hcz27_0
              try clear hcz27_1
              try clear hcz27_2
              try clear hcz27_3
              try clear hcz27_4
              try clear hcz27_5
              try clear hcz27_6
              try clear hcz27_7
              try clear hcz30_0
              try clear hcz30_1
              try clear hcz30_2
              try clear hcz30_3
              try clear hcz30_4
              try clear hcz30_5
              try clear hcz30_6
              try clear hcz30_7
              try clear hcz32_0
              try clear hcz32_1
              try clear hcz32_2
              try clear hcz32_3
              try clear hcz32_4
              try clear hcz32_5
              try clear hcz32_6
              try clear hcz32_7
              try clear hcz35_0
              try clear hcz35_1
              try clear hcz35_2
              try clear hcz35_3
              try clear hcz35_4
              try clear hcz35_5
              try clear hcz35_6
              try clear hcz35_7
              try clear hcz37_0
              try clear hcz37_1
              try clear hcz37_2
              try clear hcz37_3
              try clear hcz37_4
              try clear hcz37_5
              try clear hcz37_6
              try clear hcz37_7
              try clear hcz40_0
              try clear hcz40_1
              try clear hcz40_2
              try clear hcz40_3
              try clear hcz40_4
              try clear hcz40_5
              try clear hcz40_6
              try clear hcz40_7
              try clear hcz42_0
              try clear hcz42_1
              try clear hcz42_2
              try clear hcz42_3
              try clear hcz42_4
              try clear hcz42_5
              try clear hcz42_6
              try clear hcz42_7
              try clear hcz45_0
              try clear hcz45_1
              try clear hcz45_2
              try clear hcz45_3
              try clear hcz45_4
              try clear hcz45_5
              try clear hcz45_6
              try clear hcz45_7
              try clear hcz47_0
              try clear hcz47_1
              try clear hcz47_2
              try clear hcz47_3
              try clear hcz47_4
              try clear hcz47_5
              try clear hcz47_6
              try clear hcz47_7
              try clear hfz12_5
              try clear hfz12_6
              try clear hfz12_7
              try clear hfz15_0
              try clear hfz15_1
              try clear hfz15_2
              try clear hfz15_3
              try clear hfz15_4
              try clear hfz15_5
              try clear hfz15_6
              try clear hfz15_7
              try clear hfz17_0
              try clear hfz17_1
              try clear hfz17_2
              try clear hfz17_3
              try clear hfz17_4
              try clear hfz17_5
              try clear hfz17_6
              try clear hfz17_7
              try clear hfz20_0
              try clear hfz20_1
              try clear hfz20_2
              try clear hfz20_3
              try clear hfz20_4
              try clear hfz20_5
              try clear hfz20_6
              try clear hfz20_7
              try clear hfz22_0
              try clear hfz22_1
              try clear hfz22_2
              try clear hfz22_3
              try clear hfz22_4
              try clear hfz22_5
              try clear hfz22_6
              try clear hfz22_7
              try clear hfz25_0
              try clear hfz25_1
              try clear hfz25_2
              try clear hfz25_3
              try clear hfz25_4
              try clear hfz25_5
              try clear hfz25_6
              try clear hfz25_7
              try clear hfz27_0
              try clear hfz27_1
              try clear hfz27_2
              try clear hfz27_3
              try clear hfz27_4
              try clear hfz27_5
              try clear hfz27_6
              try clear hfz27_7
              try clear hfz30_0
              try clear hfz30_1
              try clear hfz30_2
              try clear hfz30_3
              try clear hfz30_4
              try clear hfz30_5
              try clear hfz30_6
              try clear hfz30_7
              try clear hfz32_0
              try clear hfz32_1
              try clear hfz32_2
              try clear hfz32_3
              try clear hfz32_4
              try clear hfz32_5
              try clear hfz32_6
              try clear hfz32_7
              try clear hfz35_0
              try clear hfz35_1
              try clear hfz35_2
              try clear hfz35_3
              try clear hfz35_4
              try clear hfz35_5
              try clear hfz35_6
              try clear hfz35_7
              try clear hfz37_0
              try clear hfz37_1
              try clear hfz37_2
              try clear hfz37_3
              try clear hfz37_4
              try clear hfz37_5
              try clear hfz37_6
              try clear hfz37_7
              try clear hfz40_0
              try clear hfz40_1
              try clear hfz40_2
              try clear hfz40_3
              try clear hfz40_4
              try clear hfz40_5
              try clear hfz40_6
              try clear hfz40_7
              try clear hfz42_0
              try clear hfz42_1
              try clear hfz42_2
              try clear hfz42_3
              try clear hfz42_4
              try clear hfz42_5
              try clear hfz42_6
              try clear hfz42_7
              try clear hfz45_0
              try clear hfz45_1
              try clear hfz45_2
              try clear hfz45_3
              try clear hfz45_4
              try clear hfz45_5
              try clear hfz45_6
              try clear hfz45_7
              try clear hfz47_0
              try clear hfz47_1
              try clear hfz47_2
              try clear hfz47_3
              try clear hfz47_4
              try clear hfz47_5
              try clear hfz47_6
              try clear hfz47_7
              try clear hx123_0
              try clear hx124_0
              try clear hx125_0
              try clear hx126_0
              try clear hx127_0
              try clear hx128_0
              try clear hx129_0
              try clear hx130_0
              try clear p1
              try clear p12
              try clear p123
              try clear p124
              try clear p125
              try clear p126
              try clear p127
              try clear p128
              try clear p129
              try clear p13
              try clear p130
              try clear p2
              try clear p6
              try clear q1
              try clear q12
              try clear q123
              try clear q124
              try clear q125
              try clear q126
              try clear q127
              try clear q128
              try clear q129
              try clear q13
              try clear q130
              obtain ⟨x8_3, rfl, HA, HK3, HO_4, BK122, HB⟩ := hrel
              cases gk with
              | zero => exact absurd HA.out (by simp [spec_l04Cycles.l2])
              | succ k3 =>
                have H := HA.out
                clear HA
                simp only [spec_l04Cycles.l2] at H
                by_cases c49 : x8_3 > 0
                · rw [if_pos c49] at H
                  have c49b0 : decide (0 < x8_3) = true := decide_eq_true c49
                  clear c49
                  obtain ⟨ji50, hji50⟩ : ∃ j_ : Int, (wrap64 (x8_3 - 1)) = j_ := ⟨_, rfl⟩
                  replace H : (if 0 ≤ (ji50) then (if (ji50) < (x4_1.length : Int) then (if (rd x4_1 (ji50)) < x6_6 then (spec_l04Cycles.l2 k3 l0 x4_1 x5_1 x6_6 ji50 x123000_6 x123001_6 x123002_6 x123003_6 x123004_6 x123005_6 x123006_6 x123007_6) else (if x6_6 > 0 then ((some (([x6_6] : List Int) : List Int)).bind fun y132 => (if 0 ≤ x8_3 then (if x8_3 ≤ (x4_1.length : Int) then ((some (x4_1.drop (x8_3 : Int).toNat : List Int)).bind fun y135 => (if y132.length + y135.length < 17592186044416 then ((some (y132 ++ y135 : List Int)).bind fun y139 => ((spec_l01Own.f (x4_1.take (x8_3 : Int).toNat)).bind fun t146 => (if t146.length + y139.length < 17592186044416 then (spec_l04Cycles.l0 k3 l0 (t146 ++ y139) (wrap64 (x5_1 + 1)) x123000_6 x123001_6 x123002_6 x123003_6 x123004_6 x123005_6 x123006_6 x123007_6) else (none)))) else (none))) else (none)) else (none))) else (spec_l04Cycles.l0 k3 l0 x4_1 (wrap64 (x5_1 + 1)) x123000_6 x123001_6 x123002_6 x123003_6 x123004_6 x123005_6 x123006_6 x123007_6))) else (none)) else (none)) = some r := by first | (rw [hji50] at H; exact H) | (simp only [hji50] at H ⊢; exact H)
                  have hji50w : (IntKind.i64.wrap (x8_3 - 1)) = ji50 := (i64_w _).trans hji50
                  by_cases c51 : 0 ≤ (ji50)
                  · rw [if_pos c51] at H
                    have c51b0 : decide (0 ≤ (ji50)) = true := decide_eq_true c51
                    clear c51
                    by_cases c52 : (ji50) < (x4_1.length : Int)
                    · rw [if_pos c52] at H
                      have c52b0 : decide ((ji50) < (x4_1.length : Int)) = true := decide_eq_true c52
                      clear c52
                      by_cases c53 : (rd x4_1 (ji50)) < x6_6
                      · rw [if_pos c53] at H
                        have c53b0 : decide ((rd x4_1 (ji50)) < x6_6) = true := decide_eq_true c53
                        clear c53
                        have H' := Aside0.mk H
                        clear H
                        have p131 : 0 ≤ ((ji50) : Int) := of_decide_eq_true mS
                        have q131 : (ji50) < (x4_1.length : Int) := of_decide_eq_true mS
                        obtain ⟨ad131, e131, hx131_0⟩ := Kd.at_int (Kd.R_reads' HO_4.out).2.2 (ji50) p131 q131
                        cases e131
                        replace p131 := eq_true p131
                        replace q131 := eq_true q131
                        go_wp2
                        go_roundg k3
                        case measure => have := HK1.out; have := HJ6.out; have := HK3.out; omega
                        case rel => exact ⟨(ji50), (by first | rfl | (simp; done) | (simp only [← hji50] <;> (first | rfl | simp)) | (simp [*]; done)), H', ⟨by have := HK1.out; have := HJ6.out; have := HK3.out; omega⟩, ⟨mR HO_4.out⟩, ⟨by (with_reducible repeat (first | refine blk_drewN ?_ _ | refine blk_drew ?_ | refine blk_alloc ?_ _)); exact BK122.out⟩, ⟨mB⟩⟩
                      · rw [if_neg c53] at H
                        have c53b0 : decide ((rd x4_1 (ji50)) < x6_6) = false := decide_eq_false c53
                        clear c53
                        by_cases c54 : x6_6 > 0
                        · rw [if_pos c54] at H
                          have c54b0 : decide (0 < x6_6) = true := decide_eq_true c54
                          clear c54
                          obtain ⟨y132, hy132⟩ : ∃ y_ : List Int, y_ = (([x6_6] : List Int)) := ⟨_, rfl⟩
                          replace H : (if 0 ≤ x8_3 then (if x8_3 ≤ (x4_1.length : Int) then ((some (x4_1.drop (x8_3 : Int).toNat : List Int)).bind fun y135 => (if y132.length + y135.length < 17592186044416 then ((some (y132 ++ y135 : List Int)).bind fun y139 => ((spec_l01Own.f (x4_1.take (x8_3 : Int).toNat)).bind fun t146 => (if t146.length + y139.length < 17592186044416 then (spec_l04Cycles.l0 k3 l0 (t146 ++ y139) (wrap64 (x5_1 + 1)) x123000_6 x123001_6 x123002_6 x123003_6 x123004_6 x123005_6 x123006_6 x123007_6) else (none)))) else (none))) else (none)) else (none)) = some r := by first | (rw [hy132]; with_reducible exact H) | (have H2_ := (Option.bind_some _ _).symm.trans H; rw [hy132]; with_reducible exact H2_) | (have H2_ := (Option.bind_some _ _).symm.trans H; with_reducible exact H2_) | with_reducible exact H | (rw [hy132]; exact H) | exact H
                          have Ny132 := Aside0.mk hy132
                          clear hy132
                          by_cases c55 : 0 ≤ x8_3
                          · rw [if_pos c55] at H
                            have c55b0 := eq_true c55
                            have c55b1 : decide (0 ≤ x8_3) = true := decide_eq_true c55
                            clear c55
                            by_cases c56 : x8_3 ≤ (x4_1.length : Int)
                            · rw [if_pos c56] at H
                              have c56b0 := eq_true c56
                              have c56b1 : decide (x8_3 ≤ (x4_1.length : Int)) = true := decide_eq_true c56
                              clear c56
                              obtain ⟨y135, hy135⟩ : ∃ y_ : List Int, y_ = (x4_1.drop (x8_3 : Int).toNat) := ⟨_, rfl⟩
                              replace H : (if y132.length + y135.length < 17592186044416 then ((some (y132 ++ y135 : List Int)).bind fun y139 => ((spec_l01Own.f (x4_1.take (x8_3 : Int).toNat)).bind fun t146 => (if t146.length + y139.length < 17592186044416 then (spec_l04Cycles.l0 k3 l0 (t146 ++ y139) (wrap64 (x5_1 + 1)) x123000_6 x123001_6 x123002_6 x123003_6 x123004_6 x123005_6 x123006_6 x123007_6) else (none)))) else (none)) = some r := by first | (rw [hy135]; with_reducible exact H) | (have H2_ := (Option.bind_some _ _).symm.trans H; rw [hy135]; with_reducible exact H2_) | (have H2_ := (Option.bind_some _ _).symm.trans H; with_reducible exact H2_) | with_reducible exact H | (rw [hy135]; exact H) | exact H
                              have Ny135 := Aside0.mk hy135
                              clear hy135
                              by_cases c57 : y132.length + y135.length < 17592186044416
                              · rw [if_pos c57] at H
                                have LMc57 := Aside0.mk c57
                                clear c57
                                obtain ⟨y139, hy139⟩ : ∃ y_ : List Int, y_ = (y132 ++ y135) := ⟨_, rfl⟩
                                replace H : ((spec_l01Own.f (x4_1.take (x8_3 : Int).toNat)).bind fun t146 => (if t146.length + y139.length < 17592186044416 then (spec_l04Cycles.l0 k3 l0 (t146 ++ y139) (wrap64 (x5_1 + 1)) x123000_6 x123001_6 x123002_6 x123003_6 x123004_6 x123005_6 x123006_6 x123007_6) else (none))) = some r := by first | (rw [hy139]; with_reducible exact H) | (have H2_ := (Option.bind_some _ _).symm.trans H; rw [hy139]; with_reducible exact H2_) | (have H2_ := (Option.bind_some _ _).symm.trans H; with_reducible exact H2_) | with_reducible exact H | (rw [hy139]; exact H) | exact H
                                have Ny139 := Aside0.mk hy139
                                clear hy139
                                have c58b0 := eq_true (of_decide_eq_true mS : 0 ≤ x8_3)
                                have c59b0 := eq_true (of_decide_eq_true mS : x8_3 ≤ (x4_1.length : Int))
                                obtain ⟨y142, hy142⟩ : ∃ y_ : List Int, y_ = (x4_1.take (x8_3 : Int).toNat) := ⟨_, rfl⟩
                                replace H : ((spec_l01Own.f y142).bind fun t146 => (if t146.length + y139.length < 17592186044416 then (spec_l04Cycles.l0 k3 l0 (t146 ++ y139) (wrap64 (x5_1 + 1)) x123000_6 x123001_6 x123002_6 x123003_6 x123004_6 x123005_6 x123006_6 x123007_6) else (none))) = some r := by first | (rw [hy142]; with_reducible exact H) | (have H2_ := (Option.bind_some _ _).symm.trans H; rw [hy142]; with_reducible exact H2_) | (have H2_ := (Option.bind_some _ _).symm.trans H; with_reducible exact H2_) | with_reducible exact H | (rw [hy142]; exact H) | exact H
                                have Ny142 := Aside0.mk hy142
                                clear hy142
                                replace H := Option.bind_eq_some_iff.mp H
                                obtain ⟨t146, A600, H⟩ := H
                                replace H : (if t146.length + y139.length < 17592186044416 then (spec_l04Cycles.l0 k3 l0 (t146 ++ y139) (wrap64 (x5_1 + 1)) x123000_6 x123001_6 x123002_6 x123003_6 x123004_6 x123005_6 x123006_6 x123007_6) else (none)) = some r := H
                                have A60 := Aside0.mk A600
                                clear A600
                                by_cases c61 : t146.length + y139.length < 17592186044416
                                · rw [if_pos c61] at H
                                  have LMc61 := Aside0.mk c61
                                  clear c61
                                  obtain ⟨y149, hy149⟩ : ∃ y_ : List Int, y_ = (t146 ++ y139) := ⟨_, rfl⟩
                                  replace H : (spec_l04Cycles.l0 k3 l0 y149 (wrap64 (x5_1 + 1)) x123000_6 x123001_6 x123002_6 x123003_6 x123004_6 x123005_6 x123006_6 x123007_6) = some r := by first | (rw [hy149]; with_reducible exact H) | (have H2_ := (Option.bind_some _ _).symm.trans H; rw [hy149]; with_reducible exact H2_) | (have H2_ := (Option.bind_some _ _).symm.trans H; with_reducible exact H2_) | with_reducible exact H | (rw [hy149]; exact H) | exact H
                                  have Ny149 := Aside0.mk hy149
                                  clear hy149
                                  have H' := Aside0.mk H
                                  clear H
                                  have p131 : 0 ≤ ((ji50) : Int) := of_decide_eq_true mS
                                  have q131 : (ji50) < (x4_1.length : Int) := of_decide_eq_true mS
                                  obtain ⟨ad131, e131, hx131_0⟩ := Kd.at_int (Kd.R_reads' HO_4.out).2.2 (ji50) p131 q131
                                  cases e131
                                  replace p131 := eq_true p131
                                  replace q131 := eq_true q131
                                  go_wp2_with (first | ((with_reducible refine gate_dst (N := 49) rfl ?_); refine Kd.R_lit (Kd.int .i64) _ 2 ?hg (N := 49) ?hd (xs := ([x6_6] : List Int)) (inner := [.int .i64 x6_6]) (ok := fun _ => True) (okp := fun _ => True) ?hr ?hp (fun _ hk => hk) trivial (Below.refl _ _) (Nat.le_refl _) (by simp) ?_; (case hd => rfl); (case hg => rfl); (case hr => first | (go_simp; done) | (go_simp; rfl)); (case hp => exact (Reps.one (show Kd.M (Kd.int .i64) _ _ _ x6_6 [.int .i64 x6_6] from rfl) (Reps.none _ _))); intro v133 w62 ho63 hb hg_ hnew_; clear hg_ hnew_; (first | rw [← Ny132.out] at ho63 | (simp only [Int.reduceToNat] at ho63; rw [← Ny132.out] at ho63)); have n0_ := Aside0.mk (Kd.R_elder' (mR HO_4.out) (Kd.R_base ho63) hb); have n1_ := Aside0.mk (Kd.R_lower (Kd.R_new' ho63 (Kd.R_lt (mR HO_4.out))) (below_size mB)); have n2_ := Aside0.mk (blk_below (g := gb122) (o := .cells #[.bool x123000_6, .bool x123001_6, .bool x123002_6, .bool x123003_6, .bool x123004_6, .bool x123005_6, .bool x123006_6, .bool x123007_6] 50 (0, 0)) (mk BK122.out) hb); have n3_ := Aside0.mk (below_step mB hb); clear HO_4; clear BK122; clear HB; have HO_4 := n0_; have HO134 := n1_; have BK122 := n2_; have HB := n3_; clear n0_ n1_ n2_ n3_; clear hb ho63; have q64 : (x8_3 : Int) ≤ ((x4_1.length : Int) : Int) := of_decide_eq_true mS; obtain ⟨i064, hi064, _, hsz64, _⟩ := info_parts info2; have hroom64 : x4_1.length ≤ co48 := (Kd.R_reads' HO_4.out).2.1; have hC64 : Kd.C (Kd.int .i64) _ (some ad131) x4_1.length x4_1 := (Kd.R_reads' HO_4.out).2.2; have q064 : (0 : Int) ≤ (x8_3 : Int) := of_decide_eq_true mS; have hcut64 := cut_from (P := Try.prog) 22 2 .i64 Try.underlying22 hi064 1 hsz64 (some ad131) x4_1.length co48 x8_3 q064 q64; have hr64 := Kd.C_drop (m := (x8_3 : Int).toNat) (c := co48) hC64 (by omega) hroom64; obtain ⟨A64, hA64⟩ : ∃ A1, A1 = (if co48 = (x8_3 : Int).toNat then (some ad131) else ((some ad131) : Option Addr).map (·.add ((x8_3 : Int).toNat * 1))) := ⟨_, rfl⟩; obtain ⟨c64, hc64⟩ : ∃ c1, c1 = co48 - (x8_3 : Int).toNat := ⟨_, rfl⟩; have hy64 : y135.length = x4_1.length - (x8_3 : Int).toNat := (by rw [Ny135.out, List.length_drop] <;> omega); rw [show (x4_1).drop (x8_3 : Int).toNat = y135 from Ny135.out.symm] at hr64; replace hr64 : Kd.C (Kd.int .i64) _ A64 y135.length y135 := (by rw [hA64]; exact hr64); rw [← hy64, ← hA64, ← hc64] at hcut64; have HR138 := Aside0.mk hr64; have HC138 := Aside0.mk (show y135.length ≤ c64 from by rw [hy64, hc64]; exact Nat.sub_le_sub_right hroom64 _); clear hr64 hC64 hroom64 hi064 hsz64 hc64; have KY64 := Aside0.mk hy64; have KA64 := Aside0.mk hA64; clear hy64 hA64; have KL64 := Aside0.mk (show (x8_3 : Int).toNat ≤ x4_1.length from by omega); replace q64 := eq_true q64) | ((with_reducible refine gate_builtin (b := .append) (xs := #[.tmp 49, .tmp 52]) rfl ?_); at_builtin; refine Kd.R_append_rows (Kd.int .i64) (w0 := w) w.heap.size rfl (.tmp 49) (.tmp 52) 22 2 (.int .i64 0) 8 rfl Try.underlying22 info2 rfl (by decide) (by omega) v133 y132 y135 _ _ _ (fun k_ => some k_ ≠ (.slice (some ad131) x4_1.length co48 : Value).ownBlock) (fun _ => False) rfl rfl ?aO ?aR (fun _ _ h => h) (fun _ h => h.elim) ?aF ?aB ?aS ?aL ?_; (case aR => repeat (first | exact (by repeat (first | (with_reducible exact HR138.out) | (with_reducible refine Kd.C_alloc ?_ _) | (with_reducible refine Kd.C_drewN ?_ _) | (with_reducible refine Kd.C_drew ?_) | exact HR138.out)) | (with_reducible refine Kd.C_alloc ?_ _) | (with_reducible refine Kd.C_drewN ?_ _) | (with_reducible refine Kd.C_drew ?_))); (case aB => exact mB); (case aF => exact (fun k_ hk => Kd.fresh' (Kd.R_lt (mR HO_4.out)) k_ hk)); (case aO => exact (by (with_reducible repeat (first | apply Kd.R_alloc | apply Kd.R_drewN | apply Kd.R_drew)); exact Kd.R_mono HO134.out (fun _ hk => hk.2))); (case aS => exact (below_size mB)); (case aL => have := LMc57.out; omega); intro v140 w65 ho hb hg hat; rw [← Ny139.out] at ho; have n0_ := Aside0.mk (Kd.R_after (ok := (fun _ => True)) (mR HO_4.out) hg hat); have n1_ := Aside0.mk (blk_grown (g := gb122) (o := .cells #[.bool x123000_6, .bool x123001_6, .bool x123002_6, .bool x123003_6, .bool x123004_6, .bool x123005_6, .bool x123006_6, .bool x123007_6] 50 (0, 0)) (mk BK122.out) hg (Kd.R_ne HO134.out BK122.out (by decide))); have n2_ := Aside0.mk (hb); have n3_ := Aside0.mk ((show Kd.C (Kd.int .i64) w65 A64 y135.length y135 from by rw [Ny135.out, KA64.out]; exact Kd.C_drop (m := (x8_3 : Int).toNat) (c := co48) ((Kd.R_reads' (Kd.R_after (ok := (fun _ => True)) (mR HO_4.out) hg hat)).2.2) KL64.out ((Kd.R_reads' (Kd.R_after (ok := (fun _ => True)) (mR HO_4.out) hg hat)).2.1))); have n4_ := Aside0.mk (ho); clear HO_4; clear BK122; clear HB; clear HR138; clear HO134; have HO_4 := n0_; have BK122 := n1_; have HB := n2_; have HR138 := n3_; have HO141 := n4_; clear n0_ n1_ n2_ n3_ n4_; clear ho hb hg hat; have q66 : (x8_3 : Int) ≤ ((x4_1.length : Int) : Int) := of_decide_eq_true mS; obtain ⟨i066, hi066, _, hsz66, _⟩ := info_parts info2; have hroom66 : x4_1.length ≤ co48 := (Kd.R_reads' HO_4.out).2.1; have hC66 : Kd.C (Kd.int .i64) _ (some ad131) x4_1.length x4_1 := (Kd.R_reads' HO_4.out).2.2; have hcut66 := cut_to (P := Try.prog) 22 2 .i64 Try.underlying22 hi066 (some ad131) x4_1.length co48 x8_3 (of_decide_eq_true mS) q66 hroom66; have hr66 := Kd.C_take (m := (x8_3 : Int).toNat) hC66 (by omega); have hy66 : y142.length = (x8_3 : Int).toNat := (by rw [Ny142.out, List.length_take]; omega); rw [← Ny142.out] at hr66; rw [← hy66] at hcut66; have HR145 := Aside0.mk hr66; have HC145 := Aside0.mk (show y142.length ≤ co48 from by omega); clear hr66 hC66 hroom66 hi066 hsz66; have KY66 := Aside0.mk hy66; clear hy66; have KL66 := Aside0.mk (show (x8_3 : Int).toNat ≤ x4_1.length from by omega); replace q66 := eq_true q66) | ((with_reducible refine gate_callee (f := 35) rfl ?_); refine goL (some 57) Try.func35 #[.slice (some ad131) y142.length co48] (h := ?_); (with_reducible refine (spec_l01Own.calls _ _ y142 t146 _ ?side1 ?side2 A60.out).mono ?_); (case side1 => repeat (first | exact (by repeat (first | (with_reducible exact HR145.out) | (with_reducible refine Kd.C_alloc ?_ _) | (with_reducible refine Kd.C_drewN ?_ _) | (with_reducible refine Kd.C_drew ?_) | exact HR145.out)) | (with_reducible refine Kd.C_alloc ?_ _) | (with_reducible refine Kd.C_drewN ?_ _) | (with_reducible refine Kd.C_drew ?_))); (case side2 => exact HC145.out); rintro e w67 ⟨v147, rfl, ho0, hb⟩; refine ⟨_, rfl, ?_⟩; have n0_ := Aside0.mk (Kd.R_elder' (mR HO_4.out) (Kd.R_base ho0) hb); have n1_ := Aside0.mk (Kd.R_elder' (mR HO141.out) (Kd.R_base ho0) hb); have n2_ := Aside0.mk (Kd.R_lower (Kd.R_new' (Kd.R_new' ho0 (Kd.R_lt (mR HO_4.out))) (Kd.R_lt (mR HO141.out))) (below_size mB)); have n3_ := Aside0.mk (blk_below (g := gb122) (o := .cells #[.bool x123000_6, .bool x123001_6, .bool x123002_6, .bool x123003_6, .bool x123004_6, .bool x123005_6, .bool x123006_6, .bool x123007_6] 50 (0, 0)) (mk BK122.out) hb); have n4_ := Aside0.mk (Kd.C_below (by repeat (first | (with_reducible exact HR138.out) | (with_reducible refine Kd.C_alloc ?_ _) | (with_reducible refine Kd.C_drewN ?_ _) | (with_reducible refine Kd.C_drew ?_) | exact HR138.out)) hb); have n5_ := Aside0.mk (Kd.C_below (by repeat (first | (with_reducible exact HR145.out) | (with_reducible refine Kd.C_alloc ?_ _) | (with_reducible refine Kd.C_drewN ?_ _) | (with_reducible refine Kd.C_drew ?_) | exact HR145.out)) hb); have n6_ := Aside0.mk (below_step mB hb); clear HO_4; clear HO141; clear BK122; clear HR138; clear HR145; clear HB; have HO_4 := n0_; have HO141 := n1_; have HO148 := n2_; have BK122 := n3_; have HR138 := n4_; have HR145 := n5_; have HB := n6_; clear n0_ n1_ n2_ n3_ n4_ n5_ n6_; (try clear hb); (try clear hb2); (try clear hk); (try clear hi); (try clear ho0); obtain ⟨Ao69, co69, eo69⟩ := Kd.R_slice HO141.out; subst eo69) | ((with_reducible refine gate_builtin (b := .append) (xs := #[.tmp 57, .tmp 58]) rfl ?_); at_builtin; refine Kd.R_append_rows (Kd.int .i64) (w0 := w) w.heap.size rfl (.tmp 57) (.tmp 58) 22 2 (.int .i64 0) 8 rfl Try.underlying22 info2 rfl (by decide) (by omega) v147 t146 y139 _ _ _ (fun k_ => some k_ ≠ (.slice (some ad131) x4_1.length co48 : Value).ownBlock ∧ some k_ ≠ (.slice Ao69 y139.length co69 : Value).ownBlock) (fun _ => False) rfl rfl ?aO ?aR (fun _ _ h => h) (fun _ h => h.elim) ?aF ?aB ?aS ?aL ?_; (case aR => repeat (first | exact (Kd.R_reads' HO141.out).2.2 | (with_reducible refine Kd.C_alloc ?_ _) | (with_reducible refine Kd.C_drewN ?_ _) | (with_reducible refine Kd.C_drew ?_))); (case aB => exact mB); (case aF => exact (fun k_ hk => ⟨Kd.fresh' (Kd.R_lt (mR HO_4.out)) k_ hk, Kd.fresh' (Kd.R_lt (mR HO141.out)) k_ hk⟩)); (case aO => exact (by (with_reducible repeat (first | apply Kd.R_alloc | apply Kd.R_drewN | apply Kd.R_drew)); exact Kd.R_mono HO148.out (fun _ hk => ⟨hk.1.2, hk.2⟩))); (case aS => exact (below_size mB)); (case aL => have := LMc61.out; omega); intro v150 w68 ho hb hg hat; rw [← Ny149.out] at ho; have n0_ := Aside0.mk (Kd.R_after (ok := (fun k_ => some k_ ≠ (.slice Ao69 y139.length co69 : Value).ownBlock)) (by (with_reducible repeat (first | apply Kd.R_alloc | apply Kd.R_drewN | apply Kd.R_drew)); exact Kd.R_mono HO_4.out (fun _ hk => ⟨hk.1.2, hk.2⟩)) hg hat); have n1_ := Aside0.mk (blk_grown (g := gb122) (o := .cells #[.bool x123000_6, .bool x123001_6, .bool x123002_6, .bool x123003_6, .bool x123004_6, .bool x123005_6, .bool x123006_6, .bool x123007_6] 50 (0, 0)) (mk BK122.out) hg (Kd.R_ne HO148.out BK122.out (by decide))); have n2_ := Aside0.mk (Kd.R_after (ok := (fun k_ => some k_ ≠ (.slice (some ad131) x4_1.length co48 : Value).ownBlock)) (mR HO141.out) hg hat); have n3_ := Aside0.mk (hb); have n4_ := Aside0.mk ((show Kd.C (Kd.int .i64) w68 A64 y135.length y135 from by rw [Ny135.out, KA64.out]; exact Kd.C_drop (m := (x8_3 : Int).toNat) (c := co48) ((Kd.R_reads' (Kd.R_after (ok := (fun k_ => some k_ ≠ (.slice Ao69 y139.length co69 : Value).ownBlock)) (by (with_reducible repeat (first | apply Kd.R_alloc | apply Kd.R_drewN | apply Kd.R_drew)); exact Kd.R_mono HO_4.out (fun _ hk => ⟨hk.1.2, hk.2⟩)) hg hat)).2.2) KL64.out ((Kd.R_reads' (Kd.R_after (ok := (fun k_ => some k_ ≠ (.slice Ao69 y139.length co69 : Value).ownBlock)) (by (with_reducible repeat (first | apply Kd.R_alloc | apply Kd.R_drewN | apply Kd.R_drew)); exact Kd.R_mono HO_4.out (fun _ hk => ⟨hk.1.2, hk.2⟩)) hg hat)).2.1))); have n5_ := Aside0.mk ((show Kd.C (Kd.int .i64) w68 (some ad131) y142.length y142 from by rw [Ny142.out]; exact Kd.C_take (m := (x8_3 : Int).toNat) ((Kd.R_reads' (Kd.R_after (ok := (fun k_ => some k_ ≠ (.slice Ao69 y139.length co69 : Value).ownBlock)) (by (with_reducible repeat (first | apply Kd.R_alloc | apply Kd.R_drewN | apply Kd.R_drew)); exact Kd.R_mono HO_4.out (fun _ hk => ⟨hk.1.2, hk.2⟩)) hg hat)).2.2) KL66.out)); have n6_ := Aside0.mk (ho); clear HO_4; clear BK122; clear HO141; clear HB; clear HR138; clear HR145; clear HO148; have HO_4 := n0_; have BK122 := n1_; have HO141 := n2_; have HB := n3_; have HR138 := n4_; have HR145 := n5_; have HO151 := n6_; clear n0_ n1_ n2_ n3_ n4_ n5_ n6_; clear ho hb hg hat))
                                  go_roundg k3
                                  case measure => have := HK1.out; have := HJ6.out; have := HK3.out; omega
                                  case rel => exact ⟨(y149), (wrap64 (x5_1 + 1)), (x123000_6), (x123001_6), (x123002_6), (x123003_6), (x123004_6), (x123005_6), (x123006_6), (x123007_6), mF, H', ⟨by have := HK1.out; have := HJ6.out; have := HK3.out; omega⟩, ⟨by (with_reducible repeat (first | apply Kd.R_alloc | apply Kd.R_drewN | apply Kd.R_drew)); exact Kd.R_mono HO151.out (fun _ hk => trivial)⟩, ⟨by (with_reducible repeat (first | refine blk_drewN ?_ _ | refine blk_drew ?_ | refine blk_alloc ?_ _)); exact BK122.out⟩, ⟨mB⟩⟩
                                · rw [if_neg c61] at H
                                  exact absurd H (by simp)
                              · rw [if_neg c57] at H
                                exact absurd H (by simp)
                            · rw [if_neg c56] at H
                              exact absurd H (by simp)
                          · rw [if_neg c55] at H
                            exact absurd H (by simp)
                        · rw [if_neg c54] at H
                          have c54b0 : decide (0 < x6_6) = false := decide_eq_false c54
                          clear c54
                          have H' := Aside0.mk H
                          clear H
                          have p131 : 0 ≤ ((ji50) : Int) := of_decide_eq_true mS
                          have q131 : (ji50) < (x4_1.length : Int) := of_decide_eq_true mS
                          obtain ⟨ad131, e131, hx131_0⟩ := Kd.at_int (Kd.R_reads' HO_4.out).2.2 (ji50) p131 q131
                          cases e131
                          replace p131 := eq_true p131
                          replace q131 := eq_true q131
                          go_wp2
                          go_roundg k3
                          case measure => have := HK1.out; have := HJ6.out; have := HK3.out; omega
                          case rel => exact ⟨(x4_1), (wrap64 (x5_1 + 1)), (x123000_6), (x123001_6), (x123002_6), (x123003_6), (x123004_6), (x123005_6), (x123006_6), (x123007_6), mF, H', ⟨by have := HK1.out; have := HJ6.out; have := HK3.out; omega⟩, ⟨mR HO_4.out⟩, ⟨by (with_reducible repeat (first | refine blk_drewN ?_ _ | refine blk_drew ?_ | refine blk_alloc ?_ _)); exact BK122.out⟩, ⟨mB⟩⟩
                    · rw [if_neg c52] at H
                      exact absurd H (by simp)
                  · rw [if_neg c51] at H
                    exact absurd H (by simp)
                · rw [if_neg c49] at H
                  have c49b0 : decide (0 < x8_3) = false := decide_eq_false c49
                  clear c49
                  by_cases c70 : x6_6 > 0
                  · rw [if_pos c70] at H
                    have c70b0 : decide (0 < x6_6) = true := decide_eq_true c70
                    clear c70
                    obtain ⟨y152, hy152⟩ : ∃ y_ : List Int, y_ = (([x6_6] : List Int)) := ⟨_, rfl⟩
                    replace H : (if 0 ≤ x8_3 then (if x8_3 ≤ (x4_1.length : Int) then ((some (x4_1.drop (x8_3 : Int).toNat : List Int)).bind fun y155 => (if y152.length + y155.length < 17592186044416 then ((some (y152 ++ y155 : List Int)).bind fun y159 => ((spec_l01Own.f (x4_1.take (x8_3 : Int).toNat)).bind fun t166 => (if t166.length + y159.length < 17592186044416 then (spec_l04Cycles.l0 k3 l0 (t166 ++ y159) (wrap64 (x5_1 + 1)) x123000_6 x123001_6 x123002_6 x123003_6 x123004_6 x123005_6 x123006_6 x123007_6) else (none)))) else (none))) else (none)) else (none)) = some r := by first | (rw [hy152]; with_reducible exact H) | (have H2_ := (Option.bind_some _ _).symm.trans H; rw [hy152]; with_reducible exact H2_) | (have H2_ := (Option.bind_some _ _).symm.trans H; with_reducible exact H2_) | with_reducible exact H | (rw [hy152]; exact H) | exact H
                    have Ny152 := Aside0.mk hy152
                    clear hy152
                    by_cases c71 : 0 ≤ x8_3
                    · rw [if_pos c71] at H
                      have c71b0 := eq_true c71
                      have c71b1 : decide (0 ≤ x8_3) = true := decide_eq_true c71
                      clear c71
                      by_cases c72 : x8_3 ≤ (x4_1.length : Int)
                      · rw [if_pos c72] at H
                        have c72b0 := eq_true c72
                        have c72b1 : decide (x8_3 ≤ (x4_1.length : Int)) = true := decide_eq_true c72
                        clear c72
                        obtain ⟨y155, hy155⟩ : ∃ y_ : List Int, y_ = (x4_1.drop (x8_3 : Int).toNat) := ⟨_, rfl⟩
                        replace H : (if y152.length + y155.length < 17592186044416 then ((some (y152 ++ y155 : List Int)).bind fun y159 => ((spec_l01Own.f (x4_1.take (x8_3 : Int).toNat)).bind fun t166 => (if t166.length + y159.length < 17592186044416 then (spec_l04Cycles.l0 k3 l0 (t166 ++ y159) (wrap64 (x5_1 + 1)) x123000_6 x123001_6 x123002_6 x123003_6 x123004_6 x123005_6 x123006_6 x123007_6) else (none)))) else (none)) = some r := by first | (rw [hy155]; with_reducible exact H) | (have H2_ := (Option.bind_some _ _).symm.trans H; rw [hy155]; with_reducible exact H2_) | (have H2_ := (Option.bind_some _ _).symm.trans H; with_reducible exact H2_) | with_reducible exact H | (rw [hy155]; exact H) | exact H
                        have Ny155 := Aside0.mk hy155
                        clear hy155
                        by_cases c73 : y152.length + y155.length < 17592186044416
                        · rw [if_pos c73] at H
                          have LMc73 := Aside0.mk c73
                          clear c73
                          obtain ⟨y159, hy159⟩ : ∃ y_ : List Int, y_ = (y152 ++ y155) := ⟨_, rfl⟩
                          replace H : ((spec_l01Own.f (x4_1.take (x8_3 : Int).toNat)).bind fun t166 => (if t166.length + y159.length < 17592186044416 then (spec_l04Cycles.l0 k3 l0 (t166 ++ y159) (wrap64 (x5_1 + 1)) x123000_6 x123001_6 x123002_6 x123003_6 x123004_6 x123005_6 x123006_6 x123007_6) else (none))) = some r := by first | (rw [hy159]; with_reducible exact H) | (have H2_ := (Option.bind_some _ _).symm.trans H; rw [hy159]; with_reducible exact H2_) | (have H2_ := (Option.bind_some _ _).symm.trans H; with_reducible exact H2_) | with_reducible exact H | (rw [hy159]; exact H) | exact H
                          have Ny159 := Aside0.mk hy159
                          clear hy159
                          have c74b0 := eq_true (of_decide_eq_true mS : 0 ≤ x8_3)
                          have c75b0 := eq_true (of_decide_eq_true mS : x8_3 ≤ (x4_1.length : Int))
                          obtain ⟨y162, hy162⟩ : ∃ y_ : List Int, y_ = (x4_1.take (x8_3 : Int).toNat) := ⟨_, rfl⟩
                          replace H : ((spec_l01Own.f y162).bind fun t166 => (if t166.length + y159.length < 17592186044416 then (spec_l04Cycles.l0 k3 l0 (t166 ++ y159) (wrap64 (x5_1 + 1)) x123000_6 x123001_6 x123002_6 x123003_6 x123004_6 x123005_6 x123006_6 x123007_6) else (none))) = some r := by first | (rw [hy162]; with_reducible exact H) | (have H2_ := (Option.bind_some _ _).symm.trans H; rw [hy162]; with_reducible exact H2_) | (have H2_ := (Option.bind_some _ _).symm.trans H; with_reducible exact H2_) | with_reducible exact H | (rw [hy162]; exact H) | exact H
                          have Ny162 := Aside0.mk hy162
                          clear hy162
                          replace H := Option.bind_eq_some_iff.mp H
                          obtain ⟨t166, A760, H⟩ := H
                          replace H : (if t166.length + y159.length < 17592186044416 then (spec_l04Cycles.l0 k3 l0 (t166 ++ y159) (wrap64 (x5_1 + 1)) x123000_6 x123001_6 x123002_6 x123003_6 x123004_6 x123005_6 x123006_6 x123007_6) else (none)) = some r := H
                          have A76 := Aside0.mk A760
                          clear A760
                          by_cases c77 : t166.length + y159.length < 17592186044416
                          · rw [if_pos c77] at H
                            have LMc77 := Aside0.mk c77
                            clear c77
                            obtain ⟨y169, hy169⟩ : ∃ y_ : List Int, y_ = (t166 ++ y159) := ⟨_, rfl⟩
                            replace H : (spec_l04Cycles.l0 k3 l0 y169 (wrap64 (x5_1 + 1)) x123000_6 x123001_6 x123002_6 x123003_6 x123004_6 x123005_6 x123006_6 x123007_6) = some r := by first | (rw [hy169]; with_reducible exact H) | (have H2_ := (Option.bind_some _ _).symm.trans H; rw [hy169]; with_reducible exact H2_) | (have H2_ := (Option.bind_some _ _).symm.trans H; with_reducible exact H2_) | with_reducible exact H | (rw [hy169]; exact H) | exact H
                            have Ny169 := Aside0.mk hy169
                            clear hy169
                            have H' := Aside0.mk H
                            clear H
                            go_wp2_with (first | ((with_reducible refine gate_dst (N := 49) rfl ?_); refine Kd.R_lit (Kd.int .i64) _ 2 ?hg (N := 49) ?hd (xs := ([x6_6] : List Int)) (inner := [.int .i64 x6_6]) (ok := fun _ => True) (okp := fun _ => True) ?hr ?hp (fun _ hk => hk) trivial (Below.refl _ _) (Nat.le_refl _) (by simp) ?_; (case hd => rfl); (case hg => rfl); (case hr => first | (go_simp; done) | (go_simp; rfl)); (case hp => exact (Reps.one (show Kd.M (Kd.int .i64) _ _ _ x6_6 [.int .i64 x6_6] from rfl) (Reps.none _ _))); intro v153 w78 ho79 hb hg_ hnew_; clear hg_ hnew_; (first | rw [← Ny152.out] at ho79 | (simp only [Int.reduceToNat] at ho79; rw [← Ny152.out] at ho79)); have n0_ := Aside0.mk (Kd.R_elder' (mR HO_4.out) (Kd.R_base ho79) hb); have n1_ := Aside0.mk (Kd.R_lower (Kd.R_new' ho79 (Kd.R_lt (mR HO_4.out))) (below_size mB)); have n2_ := Aside0.mk (blk_below (g := gb122) (o := .cells #[.bool x123000_6, .bool x123001_6, .bool x123002_6, .bool x123003_6, .bool x123004_6, .bool x123005_6, .bool x123006_6, .bool x123007_6] 50 (0, 0)) (mk BK122.out) hb); have n3_ := Aside0.mk (below_step mB hb); clear HO_4; clear BK122; clear HB; have HO_4 := n0_; have HO154 := n1_; have BK122 := n2_; have HB := n3_; clear n0_ n1_ n2_ n3_; clear hb ho79; have q80 : (x8_3 : Int) ≤ ((x4_1.length : Int) : Int) := of_decide_eq_true mS; obtain ⟨i080, hi080, _, hsz80, _⟩ := info_parts info2; have hroom80 : x4_1.length ≤ co48 := (Kd.R_reads' HO_4.out).2.1; have hC80 : Kd.C (Kd.int .i64) _ Ao48 x4_1.length x4_1 := (Kd.R_reads' HO_4.out).2.2; have q080 : (0 : Int) ≤ (x8_3 : Int) := of_decide_eq_true mS; have hcut80 := cut_from (P := Try.prog) 22 2 .i64 Try.underlying22 hi080 1 hsz80 Ao48 x4_1.length co48 x8_3 q080 q80; have hr80 := Kd.C_drop (m := (x8_3 : Int).toNat) (c := co48) hC80 (by omega) hroom80; obtain ⟨A80, hA80⟩ : ∃ A1, A1 = (if co48 = (x8_3 : Int).toNat then Ao48 else (Ao48 : Option Addr).map (·.add ((x8_3 : Int).toNat * 1))) := ⟨_, rfl⟩; obtain ⟨c80, hc80⟩ : ∃ c1, c1 = co48 - (x8_3 : Int).toNat := ⟨_, rfl⟩; have hy80 : y155.length = x4_1.length - (x8_3 : Int).toNat := (by rw [Ny155.out, List.length_drop] <;> omega); rw [show (x4_1).drop (x8_3 : Int).toNat = y155 from Ny155.out.symm] at hr80; replace hr80 : Kd.C (Kd.int .i64) _ A80 y155.length y155 := (by rw [hA80]; exact hr80); rw [← hy80, ← hA80, ← hc80] at hcut80; have HR158 := Aside0.mk hr80; have HC158 := Aside0.mk (show y155.length ≤ c80 from by rw [hy80, hc80]; exact Nat.sub_le_sub_right hroom80 _); clear hr80 hC80 hroom80 hi080 hsz80 hc80; have KY80 := Aside0.mk hy80; have KA80 := Aside0.mk hA80; clear hy80 hA80; have KL80 := Aside0.mk (show (x8_3 : Int).toNat ≤ x4_1.length from by omega); replace q80 := eq_true q80) | ((with_reducible refine gate_builtin (b := .append) (xs := #[.tmp 49, .tmp 52]) rfl ?_); at_builtin; refine Kd.R_append_rows (Kd.int .i64) (w0 := w) w.heap.size rfl (.tmp 49) (.tmp 52) 22 2 (.int .i64 0) 8 rfl Try.underlying22 info2 rfl (by decide) (by omega) v153 y152 y155 _ _ _ (fun k_ => some k_ ≠ (.slice Ao48 x4_1.length co48 : Value).ownBlock) (fun _ => False) rfl rfl ?aO ?aR (fun _ _ h => h) (fun _ h => h.elim) ?aF ?aB ?aS ?aL ?_; (case aR => repeat (first | exact (by repeat (first | (with_reducible exact HR158.out) | (with_reducible refine Kd.C_alloc ?_ _) | (with_reducible refine Kd.C_drewN ?_ _) | (with_reducible refine Kd.C_drew ?_) | exact HR158.out)) | (with_reducible refine Kd.C_alloc ?_ _) | (with_reducible refine Kd.C_drewN ?_ _) | (with_reducible refine Kd.C_drew ?_))); (case aB => exact mB); (case aF => exact (fun k_ hk => Kd.fresh' (Kd.R_lt (mR HO_4.out)) k_ hk)); (case aO => exact (by (with_reducible repeat (first | apply Kd.R_alloc | apply Kd.R_drewN | apply Kd.R_drew)); exact Kd.R_mono HO154.out (fun _ hk => hk.2))); (case aS => exact (below_size mB)); (case aL => have := LMc73.out; omega); intro v160 w81 ho hb hg hat; rw [← Ny159.out] at ho; have n0_ := Aside0.mk (Kd.R_after (ok := (fun _ => True)) (mR HO_4.out) hg hat); have n1_ := Aside0.mk (blk_grown (g := gb122) (o := .cells #[.bool x123000_6, .bool x123001_6, .bool x123002_6, .bool x123003_6, .bool x123004_6, .bool x123005_6, .bool x123006_6, .bool x123007_6] 50 (0, 0)) (mk BK122.out) hg (Kd.R_ne HO154.out BK122.out (by decide))); have n2_ := Aside0.mk (hb); have n3_ := Aside0.mk ((show Kd.C (Kd.int .i64) w81 A80 y155.length y155 from by rw [Ny155.out, KA80.out]; exact Kd.C_drop (m := (x8_3 : Int).toNat) (c := co48) ((Kd.R_reads' (Kd.R_after (ok := (fun _ => True)) (mR HO_4.out) hg hat)).2.2) KL80.out ((Kd.R_reads' (Kd.R_after (ok := (fun _ => True)) (mR HO_4.out) hg hat)).2.1))); have n4_ := Aside0.mk (ho); clear HO_4; clear BK122; clear HB; clear HR158; clear HO154; have HO_4 := n0_; have BK122 := n1_; have HB := n2_; have HR158 := n3_; have HO161 := n4_; clear n0_ n1_ n2_ n3_ n4_; clear ho hb hg hat; have q82 : (x8_3 : Int) ≤ ((x4_1.length : Int) : Int) := of_decide_eq_true mS; obtain ⟨i082, hi082, _, hsz82, _⟩ := info_parts info2; have hroom82 : x4_1.length ≤ co48 := (Kd.R_reads' HO_4.out).2.1; have hC82 : Kd.C (Kd.int .i64) _ Ao48 x4_1.length x4_1 := (Kd.R_reads' HO_4.out).2.2; have hcut82 := cut_to (P := Try.prog) 22 2 .i64 Try.underlying22 hi082 Ao48 x4_1.length co48 x8_3 (of_decide_eq_true mS) q82 hroom82; have hr82 := Kd.C_take (m := (x8_3 : Int).toNat) hC82 (by omega); have hy82 : y162.length = (x8_3 : Int).toNat := (by rw [Ny162.out, List.length_take]; omega); rw [← Ny162.out] at hr82; rw [← hy82] at hcut82; have HR165 := Aside0.mk hr82; have HC165 := Aside0.mk (show y162.length ≤ co48 from by omega); clear hr82 hC82 hroom82 hi082 hsz82; have KY82 := Aside0.mk hy82; clear hy82; have KL82 := Aside0.mk (show (x8_3 : Int).toNat ≤ x4_1.length from by omega); replace q82 := eq_true q82) | ((with_reducible refine gate_callee (f := 35) rfl ?_); refine goL (some 57) Try.func35 #[.slice Ao48 y162.length co48] (h := ?_); (with_reducible refine (spec_l01Own.calls _ _ y162 t166 _ ?side1 ?side2 A76.out).mono ?_); (case side1 => repeat (first | exact (by repeat (first | (with_reducible exact HR165.out) | (with_reducible refine Kd.C_alloc ?_ _) | (with_reducible refine Kd.C_drewN ?_ _) | (with_reducible refine Kd.C_drew ?_) | exact HR165.out)) | (with_reducible refine Kd.C_alloc ?_ _) | (with_reducible refine Kd.C_drewN ?_ _) | (with_reducible refine Kd.C_drew ?_))); (case side2 => exact HC165.out); rintro e w83 ⟨v167, rfl, ho0, hb⟩; refine ⟨_, rfl, ?_⟩; have n0_ := Aside0.mk (Kd.R_elder' (mR HO_4.out) (Kd.R_base ho0) hb); have n1_ := Aside0.mk (Kd.R_elder' (mR HO161.out) (Kd.R_base ho0) hb); have n2_ := Aside0.mk (Kd.R_lower (Kd.R_new' (Kd.R_new' ho0 (Kd.R_lt (mR HO_4.out))) (Kd.R_lt (mR HO161.out))) (below_size mB)); have n3_ := Aside0.mk (blk_below (g := gb122) (o := .cells #[.bool x123000_6, .bool x123001_6, .bool x123002_6, .bool x123003_6, .bool x123004_6, .bool x123005_6, .bool x123006_6, .bool x123007_6] 50 (0, 0)) (mk BK122.out) hb); have n4_ := Aside0.mk (Kd.C_below (by repeat (first | (with_reducible exact HR158.out) | (with_reducible refine Kd.C_alloc ?_ _) | (with_reducible refine Kd.C_drewN ?_ _) | (with_reducible refine Kd.C_drew ?_) | exact HR158.out)) hb); have n5_ := Aside0.mk (Kd.C_below (by repeat (first | (with_reducible exact HR165.out) | (with_reducible refine Kd.C_alloc ?_ _) | (with_reducible refine Kd.C_drewN ?_ _) | (with_reducible refine Kd.C_drew ?_) | exact HR165.out)) hb); have n6_ := Aside0.mk (below_step mB hb); clear HO_4; clear HO161; clear BK122; clear HR158; clear HR165; clear HB; have HO_4 := n0_; have HO161 := n1_; have HO168 := n2_; have BK122 := n3_; have HR158 := n4_; have HR165 := n5_; have HB := n6_; clear n0_ n1_ n2_ n3_ n4_ n5_ n6_; (try clear hb); (try clear hb2); (try clear hk); (try clear hi); (try clear ho0); obtain ⟨Ao85, co85, eo85⟩ := Kd.R_slice HO161.out; subst eo85) | ((with_reducible refine gate_builtin (b := .append) (xs := #[.tmp 57, .tmp 58]) rfl ?_); at_builtin; refine Kd.R_append_rows (Kd.int .i64) (w0 := w) w.heap.size rfl (.tmp 57) (.tmp 58) 22 2 (.int .i64 0) 8 rfl Try.underlying22 info2 rfl (by decide) (by omega) v167 t166 y159 _ _ _ (fun k_ => some k_ ≠ (.slice Ao48 x4_1.length co48 : Value).ownBlock ∧ some k_ ≠ (.slice Ao85 y159.length co85 : Value).ownBlock) (fun _ => False) rfl rfl ?aO ?aR (fun _ _ h => h) (fun _ h => h.elim) ?aF ?aB ?aS ?aL ?_; (case aR => repeat (first | exact (Kd.R_reads' HO161.out).2.2 | (with_reducible refine Kd.C_alloc ?_ _) | (with_reducible refine Kd.C_drewN ?_ _) | (with_reducible refine Kd.C_drew ?_))); (case aB => exact mB); (case aF => exact (fun k_ hk => ⟨Kd.fresh' (Kd.R_lt (mR HO_4.out)) k_ hk, Kd.fresh' (Kd.R_lt (mR HO161.out)) k_ hk⟩)); (case aO => exact (by (with_reducible repeat (first | apply Kd.R_alloc | apply Kd.R_drewN | apply Kd.R_drew)); exact Kd.R_mono HO168.out (fun _ hk => ⟨hk.1.2, hk.2⟩))); (case aS => exact (below_size mB)); (case aL => have := LMc77.out; omega); intro v170 w84 ho hb hg hat; rw [← Ny169.out] at ho; have n0_ := Aside0.mk (Kd.R_after (ok := (fun k_ => some k_ ≠ (.slice Ao85 y159.length co85 : Value).ownBlock)) (by (with_reducible repeat (first | apply Kd.R_alloc | apply Kd.R_drewN | apply Kd.R_drew)); exact Kd.R_mono HO_4.out (fun _ hk => ⟨hk.1.2, hk.2⟩)) hg hat); have n1_ := Aside0.mk (blk_grown (g := gb122) (o := .cells #[.bool x123000_6, .bool x123001_6, .bool x123002_6, .bool x123003_6, .bool x123004_6, .bool x123005_6, .bool x123006_6, .bool x123007_6] 50 (0, 0)) (mk BK122.out) hg (Kd.R_ne HO168.out BK122.out (by decide))); have n2_ := Aside0.mk (Kd.R_after (ok := (fun k_ => some k_ ≠ (.slice Ao48 x4_1.length co48 : Value).ownBlock)) (mR HO161.out) hg hat); have n3_ := Aside0.mk (hb); have n4_ := Aside0.mk ((show Kd.C (Kd.int .i64) w84 A80 y155.length y155 from by rw [Ny155.out, KA80.out]; exact Kd.C_drop (m := (x8_3 : Int).toNat) (c := co48) ((Kd.R_reads' (Kd.R_after (ok := (fun k_ => some k_ ≠ (.slice Ao85 y159.length co85 : Value).ownBlock)) (by (with_reducible repeat (first | apply Kd.R_alloc | apply Kd.R_drewN | apply Kd.R_drew)); exact Kd.R_mono HO_4.out (fun _ hk => ⟨hk.1.2, hk.2⟩)) hg hat)).2.2) KL80.out ((Kd.R_reads' (Kd.R_after (ok := (fun k_ => some k_ ≠ (.slice Ao85 y159.length co85 : Value).ownBlock)) (by (with_reducible repeat (first | apply Kd.R_alloc | apply Kd.R_drewN | apply Kd.R_drew)); exact Kd.R_mono HO_4.out (fun _ hk => ⟨hk.1.2, hk.2⟩)) hg hat)).2.1))); have n5_ := Aside0.mk ((show Kd.C (Kd.int .i64) w84 Ao48 y162.length y162 from by rw [Ny162.out]; exact Kd.C_take (m := (x8_3 : Int).toNat) ((Kd.R_reads' (Kd.R_after (ok := (fun k_ => some k_ ≠ (.slice Ao85 y159.length co85 : Value).ownBlock)) (by (with_reducible repeat (first | apply Kd.R_alloc | apply Kd.R_drewN | apply Kd.R_drew)); exact Kd.R_mono HO_4.out (fun _ hk => ⟨hk.1.2, hk.2⟩)) hg hat)).2.2) KL82.out)); have n6_ := Aside0.mk (ho); clear HO_4; clear BK122; clear HO161; clear HB; clear HR158; clear HR165; clear HO168; have HO_4 := n0_; have BK122 := n1_; have HO161 := n2_; have HB := n3_; have HR158 := n4_; have HR165 := n5_; have HO171 := n6_; clear n0_ n1_ n2_ n3_ n4_ n5_ n6_; clear ho hb hg hat))
                            go_roundg k3
                            case measure => have := HK1.out; have := HJ6.out; have := HK3.out; omega
                            case rel => exact ⟨(y169), (wrap64 (x5_1 + 1)), (x123000_6), (x123001_6), (x123002_6), (x123003_6), (x123004_6), (x123005_6), (x123006_6), (x123007_6), mF, H', ⟨by have := HK1.out; have := HJ6.out; have := HK3.out; omega⟩, ⟨by (with_reducible repeat (first | apply Kd.R_alloc | apply Kd.R_drewN | apply Kd.R_drew)); exact Kd.R_mono HO171.out (fun _ hk => trivial)⟩, ⟨by (with_reducible repeat (first | refine blk_drewN ?_ _ | refine blk_drew ?_ | refine blk_alloc ?_ _)); exact BK122.out⟩, ⟨mB⟩⟩
                          · rw [if_neg c77] at H
                            exact absurd H (by simp)
                        · rw [if_neg c73] at H
                          exact absurd H (by simp)
                      · rw [if_neg c72] at H
                        exact absurd H (by simp)
                    · rw [if_neg c71] at H
                      exact absurd H (by simp)
                  · rw [if_neg c70] at H
                    have c70b0 : decide (0 < x6_6) = false := decide_eq_false c70
                    clear c70
                    have H' := Aside0.mk H
                    clear H
                    go_wp2
                    go_roundg k3
                    case measure => have := HK1.out; have := HJ6.out; have := HK3.out; omega
                    case rel => exact ⟨(x4_1), (wrap64 (x5_1 + 1)), (x123000_6), (x123001_6), (x123002_6), (x123003_6), (x123004_6), (x123005_6), (x123006_6), (x123007_6), mF, H', ⟨by have := HK1.out; have := HJ6.out; have := HK3.out; omega⟩, ⟨mR HO_4.out⟩, ⟨by (with_reducible repeat (first | refine blk_drewN ?_ _ | refine blk_drew ?_ | refine blk_alloc ?_ _)); exact BK122.out⟩, ⟨mB⟩⟩
      · rw [if_neg c6] at H
        have c6b0 : decide (x5_1 < (l0.length : Int)) = false := decide_eq_false c6
        clear c6
        obtain rfl := Option.some.inj H
        go_wp2
        go_ret
        exact ⟨_, mE, mR HO_4.out, mB⟩

end Go.Proofs.Ytpegpdcdcfcgdaa.EFnPermutationSeries
