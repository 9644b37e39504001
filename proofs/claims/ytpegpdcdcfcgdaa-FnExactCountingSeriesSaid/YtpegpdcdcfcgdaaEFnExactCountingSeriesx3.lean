/- The functions that the law uses, as plain functions, and that the code comes to what they say. -/
import Derived.Test.YtpegpdcdcfcgdaaEFnExactCountingSeriesx0
import Derived.Test.YtpegpdcdcfcgdaaEFnExactCountingSeriesx2
namespace Go.Proofs.Ytpegpdcdcfcgdaa.EFnExactCountingSeries
open Go.RowKit Go.Proofs.YtpegpdcdcfcgdaaW.PrintWords Go.Proofs.YtpegpdcdcfcgdaaW.PrintLast Go.Proofs.YtpegpdcdcfcgdaaW.PrintMore Go.Proofs.YtpegpdcdcfcgdaaX
attribute [local go_sem] max2_int min2_int max_two min_two max_three min_three max_four min_four   -- for this text's walks alone
set_option linter.unusedVariables false
set_option linter.unusedSimpArgs false

/-! ### spec_l04Cycles: function 25 -/
mutual
def spec_l04Cycles.l0 : Nat → List Int → List Int → Int → Bool → Bool → Bool → Bool → Bool → Bool → Bool → Bool → Option (List Int)
  | 0, _, _, _, _, _, _, _, _, _, _, _ => none
  | k + 1, x0, x4, x5, x129000, x129001, x129002, x129003, x129004, x129005, x129006, x129007 => if x5 < (x0.length : Int) then (spec_l04Cycles.l1 k x0 x4 x5 0 x5 x129000 x129001 x129002 x129003 x129004 x129005 x129006 x129007) else (some x4)
def spec_l04Cycles.j2 : Nat → List Int → List Int → Int → Int → Bool → Bool → Bool → Bool → Bool → Bool → Bool → Bool → Option (List Int)
  | 0, _, _, _, _, _, _, _, _, _, _, _, _ => none
  | k + 1, x0, x4, x5, x6, x129000, x129001, x129002, x129003, x129004, x129005, x129006, x129007 => spec_l04Cycles.l2 k x0 x4 x5 x6 (x4.length : Int) x129000 x129001 x129002 x129003 x129004 x129005 x129006 x129007
def spec_l04Cycles.l2 : Nat → List Int → List Int → Int → Int → Int → Bool → Bool → Bool → Bool → Bool → Bool → Bool → Bool → Option (List Int)
  | 0, _, _, _, _, _, _, _, _, _, _, _, _, _ => none
  | k + 1, x0, x4, x5, x6, x8, x129000, x129001, x129002, x129003, x129004, x129005, x129006, x129007 => if x8 > 0 then (if 0 ≤ (wrap64 (x8 - 1)) then (if (wrap64 (x8 - 1)) < (x4.length : Int) then (if (rd x4 (wrap64 (x8 - 1))) < x6 then (spec_l04Cycles.l2 k x0 x4 x5 x6 (wrap64 (x8 - 1)) x129000 x129001 x129002 x129003 x129004 x129005 x129006 x129007) else (if x6 > 0 then ((some (([x6] : List Int) : List Int)).bind fun y138 => (if 0 ≤ x8 then (if x8 ≤ (x4.length : Int) then ((some (x4.drop (x8 : Int).toNat : List Int)).bind fun y141 => (if y138.length + y141.length < 17592186044416 then ((some (y138 ++ y141 : List Int)).bind fun y145 => ((spec_l01Own.f (x4.take (x8 : Int).toNat)).bind fun t152 => (if t152.length + y145.length < 17592186044416 then (spec_l04Cycles.l0 k x0 (t152 ++ y145) (wrap64 (x5 + 1)) x129000 x129001 x129002 x129003 x129004 x129005 x129006 x129007) else (none)))) else (none))) else (none)) else (none))) else (spec_l04Cycles.l0 k x0 x4 (wrap64 (x5 + 1)) x129000 x129001 x129002 x129003 x129004 x129005 x129006 x129007))) else (none)) else (none)) else (if x6 > 0 then ((some (([x6] : List Int) : List Int)).bind fun y158 => (if 0 ≤ x8 then (if x8 ≤ (x4.length : Int) then ((some (x4.drop (x8 : Int).toNat : List Int)).bind fun y161 => (if y158.length + y161.length < 17592186044416 then ((some (y158 ++ y161 : List Int)).bind fun y165 => ((spec_l01Own.f (x4.take (x8 : Int).toNat)).bind fun t172 => (if t172.length + y165.length < 17592186044416 then (spec_l04Cycles.l0 k x0 (t172 ++ y165) (wrap64 (x5 + 1)) x129000 x129001 x129002 x129003 x129004 x129005 x129006 x129007) else (none)))) else (none))) else (none)) else (none))) else (spec_l04Cycles.l0 k x0 x4 (wrap64 (x5 + 1)) x129000 x129001 x129002 x129003 x129004 x129005 x129006 x129007))
def spec_l04Cycles.l1 : Nat → List Int → List Int → Int → Int → Int → Bool → Bool → Bool → Bool → Bool → Bool → Bool → Bool → Option (List Int)
  | 0, _, _, _, _, _, _, _, _, _, _, _, _, _ => none
  | k + 1, x0, x4, x5, x6, x7, x129000, x129001, x129002, x129003, x129004, x129005, x129006, x129007 => if x7 = 0 then (if x129000 = true then (spec_l04Cycles.j2 k x0 x4 x5 x6 x129000 x129001 x129002 x129003 x129004 x129005 x129006 x129007) else (if 0 < (x0.length : Int) then (spec_l04Cycles.l1 k x0 x4 x5 (wrap64 (x6 + 1)) (rd x0 0) true x129001 x129002 x129003 x129004 x129005 x129006 x129007) else (none))) else (if x7 = 1 then (if x129001 = true then (spec_l04Cycles.j2 k x0 x4 x5 x6 x129000 x129001 x129002 x129003 x129004 x129005 x129006 x129007) else (if 1 < (x0.length : Int) then (spec_l04Cycles.l1 k x0 x4 x5 (wrap64 (x6 + 1)) (rd x0 1) x129000 true x129002 x129003 x129004 x129005 x129006 x129007) else (none))) else (if x7 = 2 then (if x129002 = true then (spec_l04Cycles.j2 k x0 x4 x5 x6 x129000 x129001 x129002 x129003 x129004 x129005 x129006 x129007) else (if 2 < (x0.length : Int) then (spec_l04Cycles.l1 k x0 x4 x5 (wrap64 (x6 + 1)) (rd x0 2) x129000 x129001 true x129003 x129004 x129005 x129006 x129007) else (none))) else (if x7 = 3 then (if x129003 = true then (spec_l04Cycles.j2 k x0 x4 x5 x6 x129000 x129001 x129002 x129003 x129004 x129005 x129006 x129007) else (if 3 < (x0.length : Int) then (spec_l04Cycles.l1 k x0 x4 x5 (wrap64 (x6 + 1)) (rd x0 3) x129000 x129001 x129002 true x129004 x129005 x129006 x129007) else (none))) else (if x7 = 4 then (if x129004 = true then (spec_l04Cycles.j2 k x0 x4 x5 x6 x129000 x129001 x129002 x129003 x129004 x129005 x129006 x129007) else (if 4 < (x0.length : Int) then (spec_l04Cycles.l1 k x0 x4 x5 (wrap64 (x6 + 1)) (rd x0 4) x129000 x129001 x129002 x129003 true x129005 x129006 x129007) else (none))) else (if x7 = 5 then (if x129005 = true then (spec_l04Cycles.j2 k x0 x4 x5 x6 x129000 x129001 x129002 x129003 x129004 x129005 x129006 x129007) else (if 5 < (x0.length : Int) then (spec_l04Cycles.l1 k x0 x4 x5 (wrap64 (x6 + 1)) (rd x0 5) x129000 x129001 x129002 x129003 x129004 true x129006 x129007) else (none))) else (if x7 = 6 then (if x129006 = true then (spec_l04Cycles.j2 k x0 x4 x5 x6 x129000 x129001 x129002 x129003 x129004 x129005 x129006 x129007) else (if 6 < (x0.length : Int) then (spec_l04Cycles.l1 k x0 x4 x5 (wrap64 (x6 + 1)) (rd x0 6) x129000 x129001 x129002 x129003 x129004 x129005 true x129007) else (none))) else (if x7 = 7 then (if x129007 = true then (spec_l04Cycles.j2 k x0 x4 x5 x6 x129000 x129001 x129002 x129003 x129004 x129005 x129006 x129007) else (if 7 < (x0.length : Int) then (spec_l04Cycles.l1 k x0 x4 x5 (wrap64 (x6 + 1)) (rd x0 7) x129000 x129001 x129002 x129003 x129004 x129005 x129006 true) else (none))) else (none))))))))
end
def spec_l04Cycles.f (k : Nat) (l0 : List Int) : Option (List Int) := spec_l04Cycles.l0 k l0 (([] : List Int)) 0 false false false false false false false false
theorem spec_l04Cycles.mono_l : ∀ k, (∀ y0 y1 y2 y3 y4 y5 y6 y7 y8 y9 y10, LeO (spec_l04Cycles.l0 k y0 y1 y2 y3 y4 y5 y6 y7 y8 y9 y10) (spec_l04Cycles.l0 (k + 1) y0 y1 y2 y3 y4 y5 y6 y7 y8 y9 y10)) ∧ (∀ y0 y1 y2 y3 y4 y5 y6 y7 y8 y9 y10 y11, LeO (spec_l04Cycles.j2 k y0 y1 y2 y3 y4 y5 y6 y7 y8 y9 y10 y11) (spec_l04Cycles.j2 (k + 1) y0 y1 y2 y3 y4 y5 y6 y7 y8 y9 y10 y11)) ∧ (∀ y0 y1 y2 y3 y4 y5 y6 y7 y8 y9 y10 y11 y12, LeO (spec_l04Cycles.l2 k y0 y1 y2 y3 y4 y5 y6 y7 y8 y9 y10 y11 y12) (spec_l04Cycles.l2 (k + 1) y0 y1 y2 y3 y4 y5 y6 y7 y8 y9 y10 y11 y12)) ∧ (∀ y0 y1 y2 y3 y4 y5 y6 y7 y8 y9 y10 y11 y12, LeO (spec_l04Cycles.l1 k y0 y1 y2 y3 y4 y5 y6 y7 y8 y9 y10 y11 y12) (spec_l04Cycles.l1 (k + 1) y0 y1 y2 y3 y4 y5 y6 y7 y8 y9 y10 y11 y12))
  | 0 => ⟨fun _ _ _ _ _ _ _ _ _ _ _ r h => by simp [spec_l04Cycles.l0] at h, fun _ _ _ _ _ _ _ _ _ _ _ _ r h => by simp [spec_l04Cycles.j2] at h, fun _ _ _ _ _ _ _ _ _ _ _ _ _ r h => by simp [spec_l04Cycles.l2] at h, fun _ _ _ _ _ _ _ _ _ _ _ _ _ r h => by simp [spec_l04Cycles.l1] at h⟩
  | k + 1 => by
    obtain ⟨ih0, ih1, ih2, ih3⟩ := spec_l04Cycles.mono_l k
    refine ⟨?_, ?_, ?_, ?_⟩
    · intro y0 y1 y2 y3 y4 y5 y6 y7 y8 y9 y10
      unfold spec_l04Cycles.l0
      repeat' first
      | (with_reducible exact ih0 _ _ _ _ _ _ _ _ _ _ _)
      | (with_reducible exact ih1 _ _ _ _ _ _ _ _ _ _ _ _)
      | (with_reducible exact ih2 _ _ _ _ _ _ _ _ _ _ _ _ _)
      | (with_reducible exact ih3 _ _ _ _ _ _ _ _ _ _ _ _ _)
      | (with_reducible exact LeO.refl _)
      | (with_reducible exact LeO.none _)
      | (with_reducible refine LeO.ite ?_ ?_)
      | (with_reducible refine LeO.bind ?_ (fun _ => ?_))
      | exact ih0 _ _ _ _ _ _ _ _ _ _ _
      | exact ih1 _ _ _ _ _ _ _ _ _ _ _ _
      | exact ih2 _ _ _ _ _ _ _ _ _ _ _ _ _
      | exact ih3 _ _ _ _ _ _ _ _ _ _ _ _ _
      | exact LeO.none _
      | refine LeO.ite ?_ ?_
      | refine LeO.bind ?_ (fun _ => ?_)
    · intro y0 y1 y2 y3 y4 y5 y6 y7 y8 y9 y10 y11
      unfold spec_l04Cycles.j2
      repeat' first
      | (with_reducible exact ih0 _ _ _ _ _ _ _ _ _ _ _)
      | (with_reducible exact ih1 _ _ _ _ _ _ _ _ _ _ _ _)
      | (with_reducible exact ih2 _ _ _ _ _ _ _ _ _ _ _ _ _)
      | (with_reducible exact ih3 _ _ _ _ _ _ _ _ _ _ _ _ _)
      | (with_reducible exact LeO.refl _)
      | (with_reducible exact LeO.none _)
      | (with_reducible refine LeO.ite ?_ ?_)
      | (with_reducible refine LeO.bind ?_ (fun _ => ?_))
      | exact ih0 _ _ _ _ _ _ _ _ _ _ _
      | exact ih1 _ _ _ _ _ _ _ _ _ _ _ _
      | exact ih2 _ _ _ _ _ _ _ _ _ _ _ _ _
      | exact ih3 _ _ _ _ _ _ _ _ _ _ _ _ _
      | exact LeO.none _
      | refine LeO.ite ?_ ?_
      | refine LeO.bind ?_ (fun _ => ?_)
    · intro y0 y1 y2 y3 y4 y5 y6 y7 y8 y9 y10 y11 y12
      unfold spec_l04Cycles.l2
      repeat' first
      | (with_reducible exact ih0 _ _ _ _ _ _ _ _ _ _ _)
      | (with_reducible exact ih1 _ _ _ _ _ _ _ _ _ _ _ _)
      | (with_reducible exact ih2 _ _ _ _ _ _ _ _ _ _ _ _ _)
      | (with_reducible exact ih3 _ _ _ _ _ _ _ _ _ _ _ _ _)
      | (with_reducible exact LeO.refl _)
      | (with_reducible exact LeO.none _)
      | (with_reducible refine LeO.ite ?_ ?_)
      | (with_reducible refine LeO.bind ?_ (fun _ => ?_))
      | exact ih0 _ _ _ _ _ _ _ _ _ _ _
      | exact ih1 _ _ _ _ _ _ _ _ _ _ _ _
      | exact ih2 _ _ _ _ _ _ _ _ _ _ _ _ _
      | exact ih3 _ _ _ _ _ _ _ _ _ _ _ _ _
      | exact LeO.none _
      | refine LeO.ite ?_ ?_
      | refine LeO.bind ?_ (fun _ => ?_)
    · intro y0 y1 y2 y3 y4 y5 y6 y7 y8 y9 y10 y11 y12
      unfold spec_l04Cycles.l1
      repeat' first
      | (with_reducible exact ih0 _ _ _ _ _ _ _ _ _ _ _)
      | (with_reducible exact ih1 _ _ _ _ _ _ _ _ _ _ _ _)
      | (with_reducible exact ih2 _ _ _ _ _ _ _ _ _ _ _ _ _)
      | (with_reducible exact ih3 _ _ _ _ _ _ _ _ _ _ _ _ _)
      | (with_reducible exact LeO.refl _)
      | (with_reducible exact LeO.none _)
      | (with_reducible refine LeO.ite ?_ ?_)
      | (with_reducible refine LeO.bind ?_ (fun _ => ?_))
      | exact ih0 _ _ _ _ _ _ _ _ _ _ _
      | exact ih1 _ _ _ _ _ _ _ _ _ _ _ _
      | exact ih2 _ _ _ _ _ _ _ _ _ _ _ _ _
      | exact ih3 _ _ _ _ _ _ _ _ _ _ _ _ _
      | exact LeO.none _
      | refine LeO.ite ?_ ?_
      | refine LeO.bind ?_ (fun _ => ?_)
theorem spec_l04Cycles.mono : ∀ a0 k, LeO (spec_l04Cycles.f k a0) (spec_l04Cycles.f (k + 1) a0) := by
  intro a0 k
  obtain ⟨ih0, ih1, ih2, ih3⟩ := spec_l04Cycles.mono_l k
  unfold spec_l04Cycles.f
  repeat' first
      | (with_reducible exact ih0 _ _ _ _ _ _ _ _ _ _ _)
      | (with_reducible exact ih1 _ _ _ _ _ _ _ _ _ _ _ _)
      | (with_reducible exact ih2 _ _ _ _ _ _ _ _ _ _ _ _ _)
      | (with_reducible exact ih3 _ _ _ _ _ _ _ _ _ _ _ _ _)
      | (with_reducible exact LeO.refl _)
      | (with_reducible exact LeO.none _)
      | (with_reducible refine LeO.ite ?_ ?_)
      | (with_reducible refine LeO.bind ?_ (fun _ => ?_))
      | exact ih0 _ _ _ _ _ _ _ _ _ _ _
      | exact ih1 _ _ _ _ _ _ _ _ _ _ _ _
      | exact ih2 _ _ _ _ _ _ _ _ _ _ _ _ _
      | exact ih3 _ _ _ _ _ _ _ _ _ _ _ _ _
      | exact LeO.none _
      | refine LeO.ite ?_ ?_
      | refine LeO.bind ?_ (fun _ => ?_)
set_option maxHeartbeats 8000000 in
set_option maxRecDepth 100000 in
theorem spec_l04Cycles.calls (k : Nat) (A0 : Option Addr) (c0 : Nat) (l0 : List Int) (r : List Int) (w : World) (hr0 : Kd.C (Kd.int .i64) w A0 l0.length l0) (hc0 : l0.length ≤ c0) (h : spec_l04Cycles.f k l0 = some r) :
    Calls Try.prog 25 #[.slice A0 l0.length c0] w fun e w' => ∃ v0_ : Value, e = .returned (v0_) ∧ Kd.R (Kd.int .i64) 2 w' w.heap.size (fun _ => True) v0_ r ∧ Below w.heap.size w w' := by
  have hu50 := Try.underlying50
  have HR0 := Aside0.mk hr0
  have HC0 := Aside0.mk hc0
  clear hr0 hc0
  have HB := Aside0.mk (Below.refl w.heap.size w)
  have H : (spec_l04Cycles.l0 k l0 (([] : List Int)) 0 false false false false false false false false) = some r := h
  clear h
  obtain ⟨y125, hy125⟩ : ∃ y_ : List Int, y_ = (([] : List Int)) := ⟨_, rfl⟩
  replace H : (spec_l04Cycles.l0 k l0 y125 0 false false false false false false false false) = some r := by first | (rw [hy125]; with_reducible exact H) | (have H2_ := (Option.bind_some _ _).symm.trans H; rw [hy125]; with_reducible exact H2_) | (have H2_ := (Option.bind_some _ _).symm.trans H; with_reducible exact H2_) | with_reducible exact H | (rw [hy125]; exact H) | exact H
  have Ny125 := Aside0.mk hy125
  clear hy125
  have H' := Aside0.mk H
  clear H
  go_enter Try.func25, Try.ntmps25
  go_wp2_with (first | ((with_reducible refine gate_dst (N := 11) rfl ?_); refine Kd.R_lit (Kd.int .i64) _ 2 ?hg (N := 11) ?hd (xs := ([] : List Int)) (inner := []) (ok := fun _ => True) (okp := fun _ => True) ?hr ?hp (fun _ hk => hk) trivial (Below.refl _ _) (Nat.le_refl _) (by simp) ?_; (case hd => rfl); (case hg => rfl); (case hr => first | (go_simp; done) | (go_simp; rfl)); (case hp => exact (Reps.none _ _)); intro v126 w2 ho3 hb hg_ hnew_; clear hg_ hnew_; (first | rw [← Ny125.out] at ho3 | (simp only [Int.reduceToNat] at ho3; rw [← Ny125.out] at ho3)); have n0_ := Aside0.mk (Kd.R_lower ho3 (below_size mB)); have n1_ := Aside0.mk (below_step mB hb); clear HB; have HO127 := n0_; have HB := n1_; clear n0_ n1_; clear hb ho3) | ((with_reducible refine gate_dst (N := 3) rfl ?_); refine box_event ?hg (N := 3) ?hd (cs := #[.bool false, .bool false, .bool false, .bool false, .bool false, .bool false, .bool false, .bool false]) (t := 50) ?hr ?_; (case hd => rfl); (case hg => rfl); (case hr => first | (go_simp; done) | (go_simp; rfl)); intro gb128 hg w4 hbox hb; have n0_ := Aside0.mk (Kd.R_below (mR HO127.out) hb); have n1_ := Aside0.mk (below_step mB hb); have n2_ := Aside0.mk (hbox); have n3_ := Aside0.mk ((mG : w.heap.size ≤ gb128)); have n4_ := Aside0.mk ((mG : w.heap.size ≤ gb128)); clear HO127; clear HB; have HO127 := n0_; have HB := n1_; have BK128 := n2_; have GW128 := n3_; have GE128 := n4_; clear n0_ n1_ n2_ n3_ n4_; clear hb hbox hg; have hcz5_0 : w4.cell? ⟨gb128, 0, none⟩ = some (.bool false) := (blk_cell BK128.out 0).trans rfl; have hcz5_1 : w4.cell? ⟨gb128, 1, none⟩ = some (.bool false) := (blk_cell BK128.out 1).trans rfl; have hcz5_2 : w4.cell? ⟨gb128, 2, none⟩ = some (.bool false) := (blk_cell BK128.out 2).trans rfl; have hcz5_3 : w4.cell? ⟨gb128, 3, none⟩ = some (.bool false) := (blk_cell BK128.out 3).trans rfl; have hcz5_4 : w4.cell? ⟨gb128, 4, none⟩ = some (.bool false) := (blk_cell BK128.out 4).trans rfl; have hcz5_5 : w4.cell? ⟨gb128, 5, none⟩ = some (.bool false) := (blk_cell BK128.out 5).trans rfl; have hcz5_6 : w4.cell? ⟨gb128, 6, none⟩ = some (.bool false) := (blk_cell BK128.out 6).trans rfl; have hcz5_7 : w4.cell? ⟨gb128, 7, none⟩ = some (.bool false) := (blk_cell BK128.out 7).trans rfl; have hfz5_0 := blk_frozen BK128.out 0; have hfz5_1 := blk_frozen BK128.out 1; have hfz5_2 := blk_frozen BK128.out 2; have hfz5_3 := blk_frozen BK128.out 3; have hfz5_4 := blk_frozen BK128.out 4; have hfz5_5 := blk_frozen BK128.out 5; have hfz5_6 := blk_frozen BK128.out 6; have hfz5_7 := blk_frozen BK128.out 7))
  go_loopg [4, 5] k (fun kq v4 v5 w' => ∃ (x4_1 : List Int) (x5_1 : Int) (x129000_1 : Bool) (x129001_1 : Bool) (x129002_1 : Bool) (x129003_1 : Bool) (x129004_1 : Bool) (x129005_1 : Bool) (x129006_1 : Bool) (x129007_1 : Bool), v5 = .int .i64 x5_1 ∧ Aside0 (spec_l04Cycles.l0 kq l0 x4_1 x5_1 x129000_1 x129001_1 x129002_1 x129003_1 x129004_1 x129005_1 x129006_1 x129007_1 = some r) ∧ Aside0 (kq ≤ k) ∧ Aside0 (Kd.R (Kd.int .i64) 2 w' w.heap.size (fun _ => True) v4 x4_1) ∧ Aside0 (w'.heap[gb128]? = some (.cells #[.bool x129000_1, .bool x129001_1, .bool x129002_1, .bool x129003_1, .bool x129004_1, .bool x129005_1, .bool x129006_1, .bool x129007_1] 50 (0, 0))) ∧ Aside0 (Below w.heap.size w w'))
  case atStart => exact ⟨(y125), (0), (false), (false), (false), (false), (false), (false), (false), (false), mF, H', ⟨Nat.le_refl _⟩, ⟨by (with_reducible repeat (first | apply Kd.R_alloc | apply Kd.R_drewN | apply Kd.R_drew)); exact Kd.R_mono (Kd.R_far (p := ⟨gb128, 7, none⟩) (Kd.R_far (p := ⟨gb128, 6, none⟩) (Kd.R_far (p := ⟨gb128, 5, none⟩) (Kd.R_far (p := ⟨gb128, 4, none⟩) (Kd.R_far (p := ⟨gb128, 3, none⟩) (Kd.R_far (p := ⟨gb128, 2, none⟩) (Kd.R_far (p := ⟨gb128, 1, none⟩) (Kd.R_far (p := ⟨gb128, 0, none⟩) (Kd.R_types HO127.out BK128.out (by decide)) (fun _ hk => hk.2) (.bool false)) (fun _ hk => hk.2) (.bool false)) (fun _ hk => hk.2) (.bool false)) (fun _ hk => hk.2) (.bool false)) (fun _ hk => hk.2) (.bool false)) (fun _ hk => hk.2) (.bool false)) (fun _ hk => hk.2) (.bool false)) (fun _ hk => hk.2) (.bool false)) (fun _ hk => trivial)⟩, ⟨by (with_reducible repeat (first | refine blk_drewN ?_ _ | refine blk_drew ?_ | refine blk_alloc ?_ _)); refine blk_put (cs := #[.bool false, .bool false, .bool false, .bool false, .bool false, .bool false, .bool false, .bool false]) ?_ 7 _ rfl; (with_reducible repeat (first | refine blk_drewN ?_ _ | refine blk_drew ?_ | refine blk_alloc ?_ _)); refine blk_put (cs := #[.bool false, .bool false, .bool false, .bool false, .bool false, .bool false, .bool false, .bool false]) ?_ 6 _ rfl; (with_reducible repeat (first | refine blk_drewN ?_ _ | refine blk_drew ?_ | refine blk_alloc ?_ _)); refine blk_put (cs := #[.bool false, .bool false, .bool false, .bool false, .bool false, .bool false, .bool false, .bool false]) ?_ 5 _ rfl; (with_reducible repeat (first | refine blk_drewN ?_ _ | refine blk_drew ?_ | refine blk_alloc ?_ _)); refine blk_put (cs := #[.bool false, .bool false, .bool false, .bool false, .bool false, .bool false, .bool false, .bool false]) ?_ 4 _ rfl; (with_reducible repeat (first | refine blk_drewN ?_ _ | refine blk_drew ?_ | refine blk_alloc ?_ _)); refine blk_put (cs := #[.bool false, .bool false, .bool false, .bool false, .bool false, .bool false, .bool false, .bool false]) ?_ 3 _ rfl; (with_reducible repeat (first | refine blk_drewN ?_ _ | refine blk_drew ?_ | refine blk_alloc ?_ _)); refine blk_put (cs := #[.bool false, .bool false, .bool false, .bool false, .bool false, .bool false, .bool false, .bool false]) ?_ 2 _ rfl; (with_reducible repeat (first | refine blk_drewN ?_ _ | refine blk_drew ?_ | refine blk_alloc ?_ _)); refine blk_put (cs := #[.bool false, .bool false, .bool false, .bool false, .bool false, .bool false, .bool false, .bool false]) ?_ 1 _ rfl; (with_reducible repeat (first | refine blk_drewN ?_ _ | refine blk_drew ?_ | refine blk_alloc ?_ _)); refine blk_put (cs := #[.bool false, .bool false, .bool false, .bool false, .bool false, .bool false, .bool false, .bool false]) ?_ 0 _ rfl; (with_reducible repeat (first | refine blk_drewN ?_ _ | refine blk_drew ?_ | refine blk_alloc ?_ _)); exact BK128.out⟩, ⟨mB⟩⟩
  case round =>
    clear H'
    try clear c2
    try clear p2
    try clear hcz5_0
    try clear hcz5_1
    try clear hcz5_2
    try clear hcz5_3
    try clear hcz5_4
    try clear hcz5_5
    try clear hcz5_6
    try clear hcz5_7
    try clear hfz5_0
    try clear hfz5_1
    try clear hfz5_2
    try clear hfz5_3
    try clear hfz5_4
    try clear hfz5_5
    try clear hfz5_6
    try clear hfz5_7
    obtain ⟨x4_1, x5_1, x129000_1, x129001_1, x129002_1, x129003_1, x129004_1, x129005_1, x129006_1, x129007_1, rfl, HA, HK1, HO_4, BK128, HB⟩ := hrel
    cases gk with
    | zero => exact absurd HA.out (by simp [spec_l04Cycles.l0])
    | succ k1 =>
      have H := HA.out
      clear HA
      simp only [spec_l04Cycles.l0] at H
      by_cases c6 : x5_1 < (l0.length : Int)
      · rw [if_pos c6] at H
        have c6b0 : decide (x5_1 < (l0.length : Int)) = true := decide_eq_true c6
        clear c6
        have HC7 := Aside0.mk H
        clear H
        go_upto_block 2 with (fail)
        go_cut [6] (fun v6 wc => ∃ (kq : Nat) (x6_6 : Int) (x129000_6 : Bool) (x129001_6 : Bool) (x129002_6 : Bool) (x129003_6 : Bool) (x129004_6 : Bool) (x129005_6 : Bool) (x129006_6 : Bool) (x129007_6 : Bool), v6 = .int .i64 x6_6 ∧ Aside0 (spec_l04Cycles.j2 kq l0 x4_1 x5_1 x6_6 x129000_6 x129001_6 x129002_6 x129003_6 x129004_6 x129005_6 x129006_6 x129007_6 = some r) ∧ Aside0 (kq ≤ k1) ∧ Aside0 (Kd.R (Kd.int .i64) 2 wc w.heap.size (fun _ => True) u4 x4_1) ∧ Aside0 (wc.heap[gb128]? = some (.cells #[.bool x129000_6, .bool x129001_6, .bool x129002_6, .bool x129003_6, .bool x129004_6, .bool x129005_6, .bool x129006_6, .bool x129007_6] 50 (0, 0))) ∧ Aside0 (Below w.heap.size w wc))
        case first =>
          have H := HC7.out
          clear HC7
          have H' := Aside0.mk H
          clear H
          go_wp2
          go_loopg [6, 7] k1 (fun kq v6 v7 w' => ∃ (x6_2 : Int) (x7_2 : Int) (x129000_2 : Bool) (x129001_2 : Bool) (x129002_2 : Bool) (x129003_2 : Bool) (x129004_2 : Bool) (x129005_2 : Bool) (x129006_2 : Bool) (x129007_2 : Bool), v6 = .int .i64 x6_2 ∧ v7 = .int .i64 x7_2 ∧ Aside0 (spec_l04Cycles.l1 kq l0 x4_1 x5_1 x6_2 x7_2 x129000_2 x129001_2 x129002_2 x129003_2 x129004_2 x129005_2 x129006_2 x129007_2 = some r) ∧ Aside0 (kq ≤ k1) ∧ Aside0 (Kd.R (Kd.int .i64) 2 w' w.heap.size (fun _ => True) u4 x4_1) ∧ Aside0 (w'.heap[gb128]? = some (.cells #[.bool x129000_2, .bool x129001_2, .bool x129002_2, .bool x129003_2, .bool x129004_2, .bool x129005_2, .bool x129006_2, .bool x129007_2] 50 (0, 0))) ∧ Aside0 (Below w.heap.size w w'))
          case atStart => exact ⟨(0), (x5_1), (x129000_1), (x129001_1), (x129002_1), (x129003_1), (x129004_1), (x129005_1), (x129006_1), (x129007_1), mF, mF, H', ⟨Nat.le_refl _⟩, ⟨mR HO_4.out⟩, ⟨by (with_reducible repeat (first | refine blk_drewN ?_ _ | refine blk_drew ?_ | refine blk_alloc ?_ _)); exact BK128.out⟩, ⟨mB⟩⟩
          case round =>
            clear H'
            try clear c2
            try clear p2
            try clear c6
            try clear c6b0
            try clear hcz5_0
            try clear hcz5_1
            try clear hcz5_2
            try clear hcz5_3
            try clear hcz5_4
            try clear hcz5_5
            try clear hcz5_6
            try clear hcz5_7
            try clear hfz5_0
            try clear hfz5_1
            try clear hfz5_2
            try clear hfz5_3
            try clear hfz5_4
            try clear hfz5_5
            try clear hfz5_6
            try clear hfz5_7
            try clear p2
            obtain ⟨x6_2, x7_2, x129000_2, x129001_2, x129002_2, x129003_2, x129004_2, x129005_2, x129006_2, x129007_2, rfl, rfl, HA, HK2, HO_4, BK128, HB⟩ := hrel
            cases gk with
            | zero => exact absurd HA.out (by simp [spec_l04Cycles.l1])
            | succ k2 =>
              have H := HA.out
              clear HA
              simp only [spec_l04Cycles.l1] at H
              by_cases c8 : x7_2 = 0
              · subst c8
                have H1 : (if x129000_2 = true then (spec_l04Cycles.j2 k2 l0 x4_1 x5_1 x6_2 x129000_2 x129001_2 x129002_2 x129003_2 x129004_2 x129005_2 x129006_2 x129007_2) else (if 0 < (l0.length : Int) then (spec_l04Cycles.l1 k2 l0 x4_1 x5_1 (wrap64 (x6_2 + 1)) (rd l0 0) true x129001_2 x129002_2 x129003_2 x129004_2 x129005_2 x129006_2 x129007_2) else (none))) = some r := by rw [if_pos rfl] at H; exact H
                clear H
                have H := H1
                clear H1
                by_cases c9 : x129000_2 = true
                · subst c9
                  have H1 : (spec_l04Cycles.j2 k2 l0 x4_1 x5_1 x6_2 true x129001_2 x129002_2 x129003_2 x129004_2 x129005_2 x129006_2 x129007_2) = some r := by rw [if_pos rfl] at H; exact H
                  clear H
                  have H := H1
                  clear H1
                  have H' := Aside0.mk H
                  clear H
                  have hcz10_0 : wr.cell? ⟨gb128, 0, none⟩ = some (.bool true) := (blk_cell BK128.out 0).trans rfl
                  have hcz10_1 : wr.cell? ⟨gb128, 1, none⟩ = some (.bool x129001_2) := (blk_cell BK128.out 1).trans rfl
                  have hcz10_2 : wr.cell? ⟨gb128, 2, none⟩ = some (.bool x129002_2) := (blk_cell BK128.out 2).trans rfl
                  have hcz10_3 : wr.cell? ⟨gb128, 3, none⟩ = some (.bool x129003_2) := (blk_cell BK128.out 3).trans rfl
                  have hcz10_4 : wr.cell? ⟨gb128, 4, none⟩ = some (.bool x129004_2) := (blk_cell BK128.out 4).trans rfl
                  have hcz10_5 : wr.cell? ⟨gb128, 5, none⟩ = some (.bool x129005_2) := (blk_cell BK128.out 5).trans rfl
                  have hcz10_6 : wr.cell? ⟨gb128, 6, none⟩ = some (.bool x129006_2) := (blk_cell BK128.out 6).trans rfl
                  have hcz10_7 : wr.cell? ⟨gb128, 7, none⟩ = some (.bool x129007_2) := (blk_cell BK128.out 7).trans rfl
                  have hfz10_0 := blk_frozen BK128.out 0
                  have hfz10_1 := blk_frozen BK128.out 1
                  have hfz10_2 := blk_frozen BK128.out 2
                  have hfz10_3 := blk_frozen BK128.out 3
                  have hfz10_4 := blk_frozen BK128.out 4
                  have hfz10_5 := blk_frozen BK128.out 5
                  have hfz10_6 := blk_frozen BK128.out 6
                  have hfz10_7 := blk_frozen BK128.out 7
                  go_wp2
                  go_meet
                  case rel => exact ⟨_, (x6_2), (true), (x129001_2), (x129002_2), (x129003_2), (x129004_2), (x129005_2), (x129006_2), (x129007_2), mF, H', ⟨by have := HK1.out; have := HK2.out; first | omega | exact Nat.le_refl _⟩, ⟨mR HO_4.out⟩, ⟨by (with_reducible repeat (first | refine blk_drewN ?_ _ | refine blk_drew ?_ | refine blk_alloc ?_ _)); exact BK128.out⟩, ⟨mB⟩⟩
                · replace c9 := Bool.eq_false_iff.mpr c9
                  subst c9
                  have H1 : (if 0 < (l0.length : Int) then (spec_l04Cycles.l1 k2 l0 x4_1 x5_1 (wrap64 (x6_2 + 1)) (rd l0 0) true x129001_2 x129002_2 x129003_2 x129004_2 x129005_2 x129006_2 x129007_2) else (none)) = some r := by rw [if_neg (show ¬ (false = true) by decide)] at H; exact H
                  clear H
                  have H := H1
                  clear H1
                  by_cases c11 : 0 < (l0.length : Int)
                  · rw [if_pos c11] at H
                    have c11b0 : decide (0 < (l0.length : Int)) = true := decide_eq_true c11
                    have c11b1 : decide (0 < l0.length) = true := decide_eq_true (by omega)
                    clear c11
                    (first | rw [c11b0] | (simp only [i64_w, i32_w]; rw [c11b0]) | skip)
                    have H' := Aside0.mk H
                    clear H
                    have hcz12_0 : wr.cell? ⟨gb128, 0, none⟩ = some (.bool false) := (blk_cell BK128.out 0).trans rfl
                    have hcz12_1 : wr.cell? ⟨gb128, 1, none⟩ = some (.bool x129001_2) := (blk_cell BK128.out 1).trans rfl
                    have hcz12_2 : wr.cell? ⟨gb128, 2, none⟩ = some (.bool x129002_2) := (blk_cell BK128.out 2).trans rfl
                    have hcz12_3 : wr.cell? ⟨gb128, 3, none⟩ = some (.bool x129003_2) := (blk_cell BK128.out 3).trans rfl
                    have hcz12_4 : wr.cell? ⟨gb128, 4, none⟩ = some (.bool x129004_2) := (blk_cell BK128.out 4).trans rfl
                    have hcz12_5 : wr.cell? ⟨gb128, 5, none⟩ = some (.bool x129005_2) := (blk_cell BK128.out 5).trans rfl
                    have hcz12_6 : wr.cell? ⟨gb128, 6, none⟩ = some (.bool x129006_2) := (blk_cell BK128.out 6).trans rfl
                    have hcz12_7 : wr.cell? ⟨gb128, 7, none⟩ = some (.bool x129007_2) := (blk_cell BK128.out 7).trans rfl
                    have hfz12_0 := blk_frozen BK128.out 0
                    have hfz12_1 := blk_frozen BK128.out 1
                    have hfz12_2 := blk_frozen BK128.out 2
                    have hfz12_3 := blk_frozen BK128.out 3
                    have hfz12_4 := blk_frozen BK128.out 4
                    have hfz12_5 := blk_frozen BK128.out 5
                    have hfz12_6 := blk_frozen BK128.out 6
                    have hfz12_7 := blk_frozen BK128.out 7
                    have p129 : 0 ≤ (0 : Int) := (by omega)
                    have q129 : 0 < (l0.length : Int) := of_decide_eq_true mS
                    obtain ⟨ad129, e129, hx129_0⟩ := Kd.at_int HR0.out 0 p129 q129
                    cases e129
                    have qi129 : (0 < l0.length) = True := eq_true (by omega)
                    (try rw [show ((0 : Int)).toNat = 0 from rfl] at hx129_0)
                    (try rw [Addr.add_zero'] at hx129_0)
                    have hn129_0 : ad129.block ≠ gb128 := Nat.ne_of_lt (Nat.lt_of_lt_of_le (by have := World.block_lt_of_cell? _ _ hx129_0; first | rwa [add_block] at this | exact this) GW128.out)
                    replace hx129_0 := cB HB hx129_0
                    replace hx129_0 := (cell_far (p := ⟨gb128, 0, none⟩) (by first | (rw [add_block]; exact hn129_0) | (show (Addr.add _ _).block ≠ _; rw [add_block]; exact hn129_0) | exact hn129_0) (.bool true)).trans hx129_0
                    clear hn129_0
                    replace p129 := eq_true p129
                    replace q129 := eq_true q129
                    go_wp2
                    go_roundg k2
                    case measure => have := HK1.out; have := HK2.out; omega
                    case rel => exact ⟨(wrap64 (x6_2 + 1)), (rd l0 0), (true), (x129001_2), (x129002_2), (x129003_2), (x129004_2), (x129005_2), (x129006_2), (x129007_2), mF, mF, H', ⟨by have := HK1.out; have := HK2.out; omega⟩, ⟨by (with_reducible repeat (first | apply Kd.R_alloc | apply Kd.R_drewN | apply Kd.R_drew)); exact Kd.R_mono (Kd.R_far (p := ⟨gb128, 0, none⟩) (Kd.R_types HO_4.out BK128.out (by decide)) (fun _ hk => hk.2) (.bool true)) (fun _ hk => trivial)⟩, ⟨by (with_reducible repeat (first | refine blk_drewN ?_ _ | refine blk_drew ?_ | refine blk_alloc ?_ _)); refine blk_put (cs := #[.bool false, .bool x129001_2, .bool x129002_2, .bool x129003_2, .bool x129004_2, .bool x129005_2, .bool x129006_2, .bool x129007_2]) ?_ 0 _ rfl; (with_reducible repeat (first | refine blk_drewN ?_ _ | refine blk_drew ?_ | refine blk_alloc ?_ _)); exact BK128.out⟩, ⟨mB⟩⟩
                  · rw [if_neg c11] at H
                    exact absurd H (by simp)
              · rw [if_neg c8] at H
                by_cases c13 : x7_2 = 1
                · subst c13
                  have H1 : (if x129001_2 = true then (spec_l04Cycles.j2 k2 l0 x4_1 x5_1 x6_2 x129000_2 x129001_2 x129002_2 x129003_2 x129004_2 x129005_2 x129006_2 x129007_2) else (if 1 < (l0.length : Int) then (spec_l04Cycles.l1 k2 l0 x4_1 x5_1 (wrap64 (x6_2 + 1)) (rd l0 1) x129000_2 true x129002_2 x129003_2 x129004_2 x129005_2 x129006_2 x129007_2) else (none))) = some r := by rw [if_pos rfl] at H; exact H
                  clear H
                  have H := H1
                  clear H1
                  by_cases c14 : x129001_2 = true
                  · subst c14
                    have H1 : (spec_l04Cycles.j2 k2 l0 x4_1 x5_1 x6_2 x129000_2 true x129002_2 x129003_2 x129004_2 x129005_2 x129006_2 x129007_2) = some r := by rw [if_pos rfl] at H; exact H
                    clear H
                    have H := H1
                    clear H1
                    have H' := Aside0.mk H
                    clear H
                    have hcz15_0 : wr.cell? ⟨gb128, 0, none⟩ = some (.bool x129000_2) := (blk_cell BK128.out 0).trans rfl
                    have hcz15_1 : wr.cell? ⟨gb128, 1, none⟩ = some (.bool true) := (blk_cell BK128.out 1).trans rfl
                    have hcz15_2 : wr.cell? ⟨gb128, 2, none⟩ = some (.bool x129002_2) := (blk_cell BK128.out 2).trans rfl
                    have hcz15_3 : wr.cell? ⟨gb128, 3, none⟩ = some (.bool x129003_2) := (blk_cell BK128.out 3).trans rfl
                    have hcz15_4 : wr.cell? ⟨gb128, 4, none⟩ = some (.bool x129004_2) := (blk_cell BK128.out 4).trans rfl
                    have hcz15_5 : wr.cell? ⟨gb128, 5, none⟩ = some (.bool x129005_2) := (blk_cell BK128.out 5).trans rfl
                    have hcz15_6 : wr.cell? ⟨gb128, 6, none⟩ = some (.bool x129006_2) := (blk_cell BK128.out 6).trans rfl
                    have hcz15_7 : wr.cell? ⟨gb128, 7, none⟩ = some (.bool x129007_2) := (blk_cell BK128.out 7).trans rfl
                    have hfz15_0 := blk_frozen BK128.out 0
                    have hfz15_1 := blk_frozen BK128.out 1
                    have hfz15_2 := blk_frozen BK128.out 2
                    have hfz15_3 := blk_frozen BK128.out 3
                    have hfz15_4 := blk_frozen BK128.out 4
                    have hfz15_5 := blk_frozen BK128.out 5
                    have hfz15_6 := blk_frozen BK128.out 6
                    have hfz15_7 := blk_frozen BK128.out 7
                    go_wp2
                    go_meet
                    case rel => exact ⟨_, (x6_2), (x129000_2), (true), (x129002_2), (x129003_2), (x129004_2), (x129005_2), (x129006_2), (x129007_2), mF, H', ⟨by have := HK1.out; have := HK2.out; first | omega | exact Nat.le_refl _⟩, ⟨mR HO_4.out⟩, ⟨by (with_reducible repeat (first | refine blk_drewN ?_ _ | refine blk_drew ?_ | refine blk_alloc ?_ _)); exact BK128.out⟩, ⟨mB⟩⟩
                  · replace c14 := Bool.eq_false_iff.mpr c14
                    subst c14
                    have H1 : (if 1 < (l0.length : Int) then (spec_l04Cycles.l1 k2 l0 x4_1 x5_1 (wrap64 (x6_2 + 1)) (rd l0 1) x129000_2 true x129002_2 x129003_2 x129004_2 x129005_2 x129006_2 x129007_2) else (none)) = some r := by rw [if_neg (show ¬ (false = true) by decide)] at H; exact H
                    clear H
                    have H := H1
                    clear H1
                    by_cases c16 : 1 < (l0.length : Int)
                    · rw [if_pos c16] at H
                      have c16b0 : decide (1 < (l0.length : Int)) = true := decide_eq_true c16
                      have c16b1 : decide (1 < l0.length) = true := decide_eq_true (by omega)
                      clear c16
                      have H' := Aside0.mk H
                      clear H
                      have hcz17_0 : wr.cell? ⟨gb128, 0, none⟩ = some (.bool x129000_2) := (blk_cell BK128.out 0).trans rfl
                      have hcz17_1 : wr.cell? ⟨gb128, 1, none⟩ = some (.bool false) := (blk_cell BK128.out 1).trans rfl
                      have hcz17_2 : wr.cell? ⟨gb128, 2, none⟩ = some (.bool x129002_2) := (blk_cell BK128.out 2).trans rfl
                      have hcz17_3 : wr.cell? ⟨gb128, 3, none⟩ = some (.bool x129003_2) := (blk_cell BK128.out 3).trans rfl
                      have hcz17_4 : wr.cell? ⟨gb128, 4, none⟩ = some (.bool x129004_2) := (blk_cell BK128.out 4).trans rfl
                      have hcz17_5 : wr.cell? ⟨gb128, 5, none⟩ = some (.bool x129005_2) := (blk_cell BK128.out 5).trans rfl
                      have hcz17_6 : wr.cell? ⟨gb128, 6, none⟩ = some (.bool x129006_2) := (blk_cell BK128.out 6).trans rfl
                      have hcz17_7 : wr.cell? ⟨gb128, 7, none⟩ = some (.bool x129007_2) := (blk_cell BK128.out 7).trans rfl
                      have hfz17_0 := blk_frozen BK128.out 0
                      have hfz17_1 := blk_frozen BK128.out 1
                      have hfz17_2 := blk_frozen BK128.out 2
                      have hfz17_3 := blk_frozen BK128.out 3
                      have hfz17_4 := blk_frozen BK128.out 4
                      have hfz17_5 := blk_frozen BK128.out 5
                      have hfz17_6 := blk_frozen BK128.out 6
                      have hfz17_7 := blk_frozen BK128.out 7
                      have p130 : 0 ≤ (1 : Int) := (by omega)
                      have q130 : 1 < (l0.length : Int) := of_decide_eq_true mS
                      obtain ⟨ad130, e130, hx130_0⟩ := Kd.at_int HR0.out 1 p130 q130
                      cases e130
                      (try simp only [show (1 : Int).toNat = 1 from rfl, Nat.reduceMul, Nat.reduceEqDiff, Go.Addr.add, ↓reduceIte] at hx130_0)
                      have qi130 : (1 < l0.length) = True := eq_true (by omega)
                      (try rw [show ((1 : Int)).toNat = 1 from rfl] at hx130_0)
                      have hn130_0 : ad130.block ≠ gb128 := Nat.ne_of_lt (Nat.lt_of_lt_of_le (by have := World.block_lt_of_cell? _ _ hx130_0; first | rwa [add_block] at this | exact this) GW128.out)
                      replace hx130_0 := cB HB hx130_0
                      replace hx130_0 := (cell_far (p := ⟨gb128, 1, none⟩) (by first | (rw [add_block]; exact hn130_0) | (show (Addr.add _ _).block ≠ _; rw [add_block]; exact hn130_0) | exact hn130_0) (.bool true)).trans hx130_0
                      clear hn130_0
                      replace p130 := eq_true p130
                      replace q130 := eq_true q130
                      go_wp2
                      go_roundg k2
                      case measure => have := HK1.out; have := HK2.out; omega
                      case rel => exact ⟨(wrap64 (x6_2 + 1)), (rd l0 1), (x129000_2), (true), (x129002_2), (x129003_2), (x129004_2), (x129005_2), (x129006_2), (x129007_2), mF, mF, H', ⟨by have := HK1.out; have := HK2.out; omega⟩, ⟨by (with_reducible repeat (first | apply Kd.R_alloc | apply Kd.R_drewN | apply Kd.R_drew)); exact Kd.R_mono (Kd.R_far (p := ⟨gb128, 1, none⟩) (Kd.R_types HO_4.out BK128.out (by decide)) (fun _ hk => hk.2) (.bool true)) (fun _ hk => trivial)⟩, ⟨by (with_reducible repeat (first | refine blk_drewN ?_ _ | refine blk_drew ?_ | refine blk_alloc ?_ _)); refine blk_put (cs := #[.bool x129000_2, .bool false, .bool x129002_2, .bool x129003_2, .bool x129004_2, .bool x129005_2, .bool x129006_2, .bool x129007_2]) ?_ 1 _ rfl; (with_reducible repeat (first | refine blk_drewN ?_ _ | refine blk_drew ?_ | refine blk_alloc ?_ _)); exact BK128.out⟩, ⟨mB⟩⟩
                    · rw [if_neg c16] at H
                      exact absurd H (by simp)
                · rw [if_neg c13] at H
                  by_cases c18 : x7_2 = 2
                  · subst c18
                    have H1 : (if x129002_2 = true then (spec_l04Cycles.j2 k2 l0 x4_1 x5_1 x6_2 x129000_2 x129001_2 x129002_2 x129003_2 x129004_2 x129005_2 x129006_2 x129007_2) else (if 2 < (l0.length : Int) then (spec_l04Cycles.l1 k2 l0 x4_1 x5_1 (wrap64 (x6_2 + 1)) (rd l0 2) x129000_2 x129001_2 true x129003_2 x129004_2 x129005_2 x129006_2 x129007_2) else (none))) = some r := by rw [if_pos rfl] at H; exact H
                    clear H
                    have H := H1
                    clear H1
                    by_cases c19 : x129002_2 = true
                    · subst c19
                      have H1 : (spec_l04Cycles.j2 k2 l0 x4_1 x5_1 x6_2 x129000_2 x129001_2 true x129003_2 x129004_2 x129005_2 x129006_2 x129007_2) = some r := by rw [if_pos rfl] at H; exact H
                      clear H
                      have H := H1
                      clear H1
                      have H' := Aside0.mk H
                      clear H
                      have hcz20_0 : wr.cell? ⟨gb128, 0, none⟩ = some (.bool x129000_2) := (blk_cell BK128.out 0).trans rfl
                      have hcz20_1 : wr.cell? ⟨gb128, 1, none⟩ = some (.bool x129001_2) := (blk_cell BK128.out 1).trans rfl
                      have hcz20_2 : wr.cell? ⟨gb128, 2, none⟩ = some (.bool true) := (blk_cell BK128.out 2).trans rfl
                      have hcz20_3 : wr.cell? ⟨gb128, 3, none⟩ = some (.bool x129003_2) := (blk_cell BK128.out 3).trans rfl
                      have hcz20_4 : wr.cell? ⟨gb128, 4, none⟩ = some (.bool x129004_2) := (blk_cell BK128.out 4).trans rfl
                      have hcz20_5 : wr.cell? ⟨gb128, 5, none⟩ = some (.bool x129005_2) := (blk_cell BK128.out 5).trans rfl
                      have hcz20_6 : wr.cell? ⟨gb128, 6, none⟩ = some (.bool x129006_2) := (blk_cell BK128.out 6).trans rfl
                      have hcz20_7 : wr.cell? ⟨gb128, 7, none⟩ = some (.bool x129007_2) := (blk_cell BK128.out 7).trans rfl
                      have hfz20_0 := blk_frozen BK128.out 0
                      have hfz20_1 := blk_frozen BK128.out 1
                      have hfz20_2 := blk_frozen BK128.out 2
                      have hfz20_3 := blk_frozen BK128.out 3
                      have hfz20_4 := blk_frozen BK128.out 4
                      have hfz20_5 := blk_frozen BK128.out 5
                      have hfz20_6 := blk_frozen BK128.out 6
                      have hfz20_7 := blk_frozen BK128.out 7
                      go_wp2
                      go_meet
                      case rel => exact ⟨_, (x6_2), (x129000_2), (x129001_2), (true), (x129003_2), (x129004_2), (x129005_2), (x129006_2), (x129007_2), mF, H', ⟨by have := HK1.out; have := HK2.out; first | omega | exact Nat.le_refl _⟩, ⟨mR HO_4.out⟩, ⟨by (with_reducible repeat (first | refine blk_drewN ?_ _ | refine blk_drew ?_ | refine blk_alloc ?_ _)); exact BK128.out⟩, ⟨mB⟩⟩
                    · replace c19 := Bool.eq_false_iff.mpr c19
                      subst c19
                      have H1 : (if 2 < (l0.length : Int) then (spec_l04Cycles.l1 k2 l0 x4_1 x5_1 (wrap64 (x6_2 + 1)) (rd l0 2) x129000_2 x129001_2 true x129003_2 x129004_2 x129005_2 x129006_2 x129007_2) else (none)) = some r := by rw [if_neg (show ¬ (false = true) by decide)] at H; exact H
                      clear H
                      have H := H1
                      clear H1
                      by_cases c21 : 2 < (l0.length : Int)
                      · rw [if_pos c21] at H
                        have c21b0 : decide (2 < (l0.length : Int)) = true := decide_eq_true c21
                        have c21b1 : decide (2 < l0.length) = true := decide_eq_true (by omega)
                        clear c21
                        have H' := Aside0.mk H
                        clear H
                        have hcz22_0 : wr.cell? ⟨gb128, 0, none⟩ = some (.bool x129000_2) := (blk_cell BK128.out 0).trans rfl
                        have hcz22_1 : wr.cell? ⟨gb128, 1, none⟩ = some (.bool x129001_2) := (blk_cell BK128.out 1).trans rfl
                        have hcz22_2 : wr.cell? ⟨gb128, 2, none⟩ = some (.bool false) := (blk_cell BK128.out 2).trans rfl
                        have hcz22_3 : wr.cell? ⟨gb128, 3, none⟩ = some (.bool x129003_2) := (blk_cell BK128.out 3).trans rfl
                        have hcz22_4 : wr.cell? ⟨gb128, 4, none⟩ = some (.bool x129004_2) := (blk_cell BK128.out 4).trans rfl
                        have hcz22_5 : wr.cell? ⟨gb128, 5, none⟩ = some (.bool x129005_2) := (blk_cell BK128.out 5).trans rfl
                        have hcz22_6 : wr.cell? ⟨gb128, 6, none⟩ = some (.bool x129006_2) := (blk_cell BK128.out 6).trans rfl
                        have hcz22_7 : wr.cell? ⟨gb128, 7, none⟩ = some (.bool x129007_2) := (blk_cell BK128.out 7).trans rfl
                        have hfz22_0 := blk_frozen BK128.out 0
                        have hfz22_1 := blk_frozen BK128.out 1
                        have hfz22_2 := blk_frozen BK128.out 2
                        have hfz22_3 := blk_frozen BK128.out 3
                        have hfz22_4 := blk_frozen BK128.out 4
                        have hfz22_5 := blk_frozen BK128.out 5
                        have hfz22_6 := blk_frozen BK128.out 6
                        have hfz22_7 := blk_frozen BK128.out 7
                        have p131 : 0 ≤ (2 : Int) := (by omega)
                        have q131 : 2 < (l0.length : Int) := of_decide_eq_true mS
                        obtain ⟨ad131, e131, hx131_0⟩ := Kd.at_int HR0.out 2 p131 q131
                        cases e131
                        (try simp only [show (2 : Int).toNat = 2 from rfl, Nat.reduceMul, Nat.reduceEqDiff, Go.Addr.add, ↓reduceIte] at hx131_0)
                        have qi131 : (2 < l0.length) = True := eq_true (by omega)
                        (try rw [show ((2 : Int)).toNat = 2 from rfl] at hx131_0)
                        have hn131_0 : ad131.block ≠ gb128 := Nat.ne_of_lt (Nat.lt_of_lt_of_le (by have := World.block_lt_of_cell? _ _ hx131_0; first | rwa [add_block] at this | exact this) GW128.out)
                        replace hx131_0 := cB HB hx131_0
                        replace hx131_0 := (cell_far (p := ⟨gb128, 2, none⟩) (by first | (rw [add_block]; exact hn131_0) | (show (Addr.add _ _).block ≠ _; rw [add_block]; exact hn131_0) | exact hn131_0) (.bool true)).trans hx131_0
                        clear hn131_0
                        replace p131 := eq_true p131
                        replace q131 := eq_true q131
                        go_wp2
                        go_roundg k2
                        case measure => have := HK1.out; have := HK2.out; omega
                        case rel => exact ⟨(wrap64 (x6_2 + 1)), (rd l0 2), (x129000_2), (x129001_2), (true), (x129003_2), (x129004_2), (x129005_2), (x129006_2), (x129007_2), mF, mF, H', ⟨by have := HK1.out; have := HK2.out; omega⟩, ⟨by (with_reducible repeat (first | apply Kd.R_alloc | apply Kd.R_drewN | apply Kd.R_drew)); exact Kd.R_mono (Kd.R_far (p := ⟨gb128, 2, none⟩) (Kd.R_types HO_4.out BK128.out (by decide)) (fun _ hk => hk.2) (.bool true)) (fun _ hk => trivial)⟩, ⟨by (with_reducible repeat (first | refine blk_drewN ?_ _ | refine blk_drew ?_ | refine blk_alloc ?_ _)); refine blk_put (cs := #[.bool x129000_2, .bool x129001_2, .bool false, .bool x129003_2, .bool x129004_2, .bool x129005_2, .bool x129006_2, .bool x129007_2]) ?_ 2 _ rfl; (with_reducible repeat (first | refine blk_drewN ?_ _ | refine blk_drew ?_ | refine blk_alloc ?_ _)); exact BK128.out⟩, ⟨mB⟩⟩
                      · rw [if_neg c21] at H
                        exact absurd H (by simp)
                  · rw [if_neg c18] at H
                    by_cases c23 : x7_2 = 3
                    · subst c23
                      have H1 : (if x129003_2 = true then (spec_l04Cycles.j2 k2 l0 x4_1 x5_1 x6_2 x129000_2 x129001_2 x129002_2 x129003_2 x129004_2 x129005_2 x129006_2 x129007_2) else (if 3 < (l0.length : Int) then (spec_l04Cycles.l1 k2 l0 x4_1 x5_1 (wrap64 (x6_2 + 1)) (rd l0 3) x129000_2 x129001_2 x129002_2 true x129004_2 x129005_2 x129006_2 x129007_2) else (none))) = some r := by rw [if_pos rfl] at H; exact H
                      clear H
                      have H := H1
                      clear H1
                      by_cases c24 : x129003_2 = true
                      · subst c24
                        have H1 : (spec_l04Cycles.j2 k2 l0 x4_1 x5_1 x6_2 x129000_2 x129001_2 x129002_2 true x129004_2 x129005_2 x129006_2 x129007_2) = some r := by rw [if_pos rfl] at H; exact H
                        clear H
                        have H := H1
                        clear H1
                        have H' := Aside0.mk H
                        clear H
                        have hcz25_0 : wr.cell? ⟨gb128, 0, none⟩ = some (.bool x129000_2) := (blk_cell BK128.out 0).trans rfl
                        have hcz25_1 : wr.cell? ⟨gb128, 1, none⟩ = some (.bool x129001_2) := (blk_cell BK128.out 1).trans rfl
                        have hcz25_2 : wr.cell? ⟨gb128, 2, none⟩ = some (.bool x129002_2) := (blk_cell BK128.out 2).trans rfl
                        have hcz25_3 : wr.cell? ⟨gb128, 3, none⟩ = some (.bool true) := (blk_cell BK128.out 3).trans rfl
                        have hcz25_4 : wr.cell? ⟨gb128, 4, none⟩ = some (.bool x129004_2) := (blk_cell BK128.out 4).trans rfl
                        have hcz25_5 : wr.cell? ⟨gb128, 5, none⟩ = some (.bool x129005_2) := (blk_cell BK128.out 5).trans rfl
                        have hcz25_6 : wr.cell? ⟨gb128, 6, none⟩ = some (.bool x129006_2) := (blk_cell BK128.out 6).trans rfl
                        have hcz25_7 : wr.cell? ⟨gb128, 7, none⟩ = some (.bool x129007_2) := (blk_cell BK128.out 7).trans rfl
                        have hfz25_0 := blk_frozen BK128.out 0
                        have hfz25_1 := blk_frozen BK128.out 1
                        have hfz25_2 := blk_frozen BK128.out 2
                        have hfz25_3 := blk_frozen BK128.out 3
                        have hfz25_4 := blk_frozen BK128.out 4
                        have hfz25_5 := blk_frozen BK128.out 5
                        have hfz25_6 := blk_frozen BK128.out 6
                        have hfz25_7 := blk_frozen BK128.out 7
                        go_wp2
                        go_meet
                        case rel => exact ⟨_, (x6_2), (x129000_2), (x129001_2), (x129002_2), (true), (x129004_2), (x129005_2), (x129006_2), (x129007_2), mF, H', ⟨by have := HK1.out; have := HK2.out; first | omega | exact Nat.le_refl _⟩, ⟨mR HO_4.out⟩, ⟨by (with_reducible repeat (first | refine blk_drewN ?_ _ | refine blk_drew ?_ | refine blk_alloc ?_ _)); exact BK128.out⟩, ⟨mB⟩⟩
                      · replace c24 := Bool.eq_false_iff.mpr c24
                        subst c24
                        have H1 : (if 3 < (l0.length : Int) then (spec_l04Cycles.l1 k2 l0 x4_1 x5_1 (wrap64 (x6_2 + 1)) (rd l0 3) x129000_2 x129001_2 x129002_2 true x129004_2 x129005_2 x129006_2 x129007_2) else (none)) = some r := by rw [if_neg (show ¬ (false = true) by decide)] at H; exact H
                        clear H
                        have H := H1
                        clear H1
                        by_cases c26 : 3 < (l0.length : Int)
                        · rw [if_pos c26] at H
                          have c26b0 : decide (3 < (l0.length : Int)) = true := decide_eq_true c26
                          have c26b1 : decide (3 < l0.length) = true := decide_eq_true (by omega)
                          clear c26
                          have H' := Aside0.mk H
                          clear H
                          have hcz27_0 : wr.cell? ⟨gb128, 0, none⟩ = some (.bool x129000_2) := (blk_cell BK128.out 0).trans rfl
                          have hcz27_1 : wr.cell? ⟨gb128, 1, none⟩ = some (.bool x129001_2) := (blk_cell BK128.out 1).trans rfl
                          have hcz27_2 : wr.cell? ⟨gb128, 2, none⟩ = some (.bool x129002_2) := (blk_cell BK128.out 2).trans rfl
                          have hcz27_3 : wr.cell? ⟨gb128, 3, none⟩ = some (.bool false) := (blk_cell BK128.out 3).trans rfl
                          have hcz27_4 : wr.cell? ⟨gb128, 4, none⟩ = some (.bool x129004_2) := (blk_cell BK128.out 4).trans rfl
                          have hcz27_5 : wr.cell? ⟨gb128, 5, none⟩ = some (.bool x129005_2) := (blk_cell BK128.out 5).trans rfl
                          have hcz27_6 : wr.cell? ⟨gb128, 6, none⟩ = some (.bool x129006_2) := (blk_cell BK128.out 6).trans rfl
                          have hcz27_7 : wr.cell? ⟨gb128, 7, none⟩ = some (.bool x129007_2) := (blk_cell BK128.out 7).trans rfl
                          have hfz27_0 := blk_frozen BK128.out 0
                          have hfz27_1 := blk_frozen BK128.out 1
                          have hfz27_2 := blk_frozen BK128.out 2
                          have hfz27_3 := blk_frozen BK128.out 3
                          have hfz27_4 := blk_frozen BK128.out 4
                          have hfz27_5 := blk_frozen BK128.out 5
                          have hfz27_6 := blk_frozen BK128.out 6
                          have hfz27_7 := blk_frozen BK128.out 7
                          have p132 : 0 ≤ (3 : Int) := (by omega)
                          have q132 : 3 < (l0.length : Int) := of_decide_eq_true mS
                          obtain ⟨ad132, e132, hx132_0⟩ := Kd.at_int HR0.out 3 p132 q132
                          cases e132
                          (try simp only [show (3 : Int).toNat = 3 from rfl, Nat.reduceMul, Nat.reduceEqDiff, Go.Addr.add, ↓reduceIte] at hx132_0)
                          have qi132 : (3 < l0.length) = True := eq_true (by omega)
                          (try rw [show ((3 : Int)).toNat = 3 from rfl] at hx132_0)
                          have hn132_0 : ad132.block ≠ gb128 := Nat.ne_of_lt (Nat.lt_of_lt_of_le (by have := World.block_lt_of_cell? _ _ hx132_0; first | rwa [add_block] at this | exact this) GW128.out)
                          replace hx132_0 := cB HB hx132_0
                          replace hx132_0 := (cell_far (p := ⟨gb128, 3, none⟩) (by first | (rw [add_block]; exact hn132_0) | (show (Addr.add _ _).block ≠ _; rw [add_block]; exact hn132_0) | exact hn132_0) (.bool true)).trans hx132_0
                          clear hn132_0
                          replace p132 := eq_true p132
                          replace q132 := eq_true q132
                          go_wp2
                          go_roundg k2
                          case measure => have := HK1.out; have := HK2.out; omega
                          case rel => exact ⟨(wrap64 (x6_2 + 1)), (rd l0 3), (x129000_2), (x129001_2), (x129002_2), (true), (x129004_2), (x129005_2), (x129006_2), (x129007_2), mF, mF, H', ⟨by have := HK1.out; have := HK2.out; omega⟩, ⟨by (with_reducible repeat (first | apply Kd.R_alloc | apply Kd.R_drewN | apply Kd.R_drew)); exact Kd.R_mono (Kd.R_far (p := ⟨gb128, 3, none⟩) (Kd.R_types HO_4.out BK128.out (by decide)) (fun _ hk => hk.2) (.bool true)) (fun _ hk => trivial)⟩, ⟨by (with_reducible repeat (first | refine blk_drewN ?_ _ | refine blk_drew ?_ | refine blk_alloc ?_ _)); refine blk_put (cs := #[.bool x129000_2, .bool x129001_2, .bool x129002_2, .bool false, .bool x129004_2, .bool x129005_2, .bool x129006_2, .bool x129007_2]) ?_ 3 _ rfl; (with_reducible repeat (first | refine blk_drewN ?_ _ | refine blk_drew ?_ | refine blk_alloc ?_ _)); exact BK128.out⟩, ⟨mB⟩⟩
                        · rw [if_neg c26] at H
                          exact absurd H (by simp)
                    · rw [if_neg c23] at H
                      by_cases c28 : x7_2 = 4
                      · subst c28
                        have H1 : (if x129004_2 = true then (spec_l04Cycles.j2 k2 l0 x4_1 x5_1 x6_2 x129000_2 x129001_2 x129002_2 x129003_2 x129004_2 x129005_2 x129006_2 x129007_2) else (if 4 < (l0.length : Int) then (spec_l04Cycles.l1 k2 l0 x4_1 x5_1 (wrap64 (x6_2 + 1)) (rd l0 4) x129000_2 x129001_2 x129002_2 x129003_2 true x129005_2 x129006_2 x129007_2) else (none))) = some r := by rw [if_pos rfl] at H; exact H
                        clear H
                        have H := H1
                        clear H1
                        by_cases c29 : x129004_2 = true
                        · subst c29
                          have H1 : (spec_l04Cycles.j2 k2 l0 x4_1 x5_1 x6_2 x129000_2 x129001_2 x129002_2 x129003_2 true x129005_2 x129006_2 x129007_2) = some r := by rw [if_pos rfl] at H; exact H
                          clear H
                          have H := H1
                          clear H1
                          have H' := Aside0.mk H
                          clear H
                          have hcz30_0 : wr.cell? ⟨gb128, 0, none⟩ = some (.bool x129000_2) := (blk_cell BK128.out 0).trans rfl
                          have hcz30_1 : wr.cell? ⟨gb128, 1, none⟩ = some (.bool x129001_2) := (blk_cell BK128.out 1).trans rfl
                          have hcz30_2 : wr.cell? ⟨gb128, 2, none⟩ = some (.bool x129002_2) := (blk_cell BK128.out 2).trans rfl
                          have hcz30_3 : wr.cell? ⟨gb128, 3, none⟩ = some (.bool x129003_2) := (blk_cell BK128.out 3).trans rfl
                          have hcz30_4 : wr.cell? ⟨gb128, 4, none⟩ = some (.bool true) := (blk_cell BK128.out 4).trans rfl
                          have hcz30_5 : wr.cell? ⟨gb128, 5, none⟩ = some (.bool x129005_2) := (blk_cell BK128.out 5).trans rfl
                          have hcz30_6 : wr.cell? ⟨gb128, 6, none⟩ = some (.bool x129006_2) := (blk_cell BK128.out 6).trans rfl
                          have hcz30_7 : wr.cell? ⟨gb128, 7, none⟩ = some (.bool x129007_2) := (blk_cell BK128.out 7).trans rfl
                          have hfz30_0 := blk_frozen BK128.out 0
                          have hfz30_1 := blk_frozen BK128.out 1
                          have hfz30_2 := blk_frozen BK128.out 2
                          have hfz30_3 := blk_frozen BK128.out 3
                          have hfz30_4 := blk_frozen BK128.out 4
                          have hfz30_5 := blk_frozen BK128.out 5
                          have hfz30_6 := blk_frozen BK128.out 6
                          have hfz30_7 := blk_frozen BK128.out 7
                          go_wp2
                          go_meet
                          case rel => exact ⟨_, (x6_2), (x129000_2), (x129001_2), (x129002_2), (x129003_2), (true), (x129005_2), (x129006_2), (x129007_2), mF, H', ⟨by have := HK1.out; have := HK2.out; first | omega | exact Nat.le_refl _⟩, ⟨mR HO_4.out⟩, ⟨by (with_reducible repeat (first | refine blk_drewN ?_ _ | refine blk_drew ?_ | refine blk_alloc ?_ _)); exact BK128.out⟩, ⟨mB⟩⟩
                        · replace c29 := Bool.eq_false_iff.mpr c29
                          subst c29
                          have H1 : (if 4 < (l0.length : Int) then (spec_l04Cycles.l1 k2 l0 x4_1 x5_1 (wrap64 (x6_2 + 1)) (rd l0 4) x129000_2 x129001_2 x129002_2 x129003_2 true x129005_2 x129006_2 x129007_2) else (none)) = some r := by rw [if_neg (show ¬ (false = true) by decide)] at H; exact H
                          clear H
                          have H := H1
                          clear H1
                          by_cases c31 : 4 < (l0.length : Int)
                          · rw [if_pos c31] at H
                            have c31b0 : decide (4 < (l0.length : Int)) = true := decide_eq_true c31
                            have c31b1 : decide (4 < l0.length) = true := decide_eq_true (by omega)
                            clear c31
                            have H' := Aside0.mk H
                            clear H
                            have hcz32_0 : wr.cell? ⟨gb128, 0, none⟩ = some (.bool x129000_2) := (blk_cell BK128.out 0).trans rfl
                            have hcz32_1 : wr.cell? ⟨gb128, 1, none⟩ = some (.bool x129001_2) := (blk_cell BK128.out 1).trans rfl
                            have hcz32_2 : wr.cell? ⟨gb128, 2, none⟩ = some (.bool x129002_2) := (blk_cell BK128.out 2).trans rfl
                            have hcz32_3 : wr.cell? ⟨gb128, 3, none⟩ = some (.bool x129003_2) := (blk_cell BK128.out 3).trans rfl
                            have hcz32_4 : wr.cell? ⟨gb128, 4, none⟩ = some (.bool false) := (blk_cell BK128.out 4).trans rfl
                            have hcz32_5 : wr.cell? ⟨gb128, 5, none⟩ = some (.bool x129005_2) := (blk_cell BK128.out 5).trans rfl
                            have hcz32_6 : wr.cell? ⟨gb128, 6, none⟩ = some (.bool x129006_2) := (blk_cell BK128.out 6).trans rfl
                            have hcz32_7 : wr.cell? ⟨gb128, 7, none⟩ = some (.bool x129007_2) := (blk_cell BK128.out 7).trans rfl
                            have hfz32_0 := blk_frozen BK128.out 0
                            have hfz32_1 := blk_frozen BK128.out 1
                            have hfz32_2 := blk_frozen BK128.out 2
                            have hfz32_3 := blk_frozen BK128.out 3
                            have hfz32_4 := blk_frozen BK128.out 4
                            have hfz32_5 := blk_frozen BK128.out 5
                            have hfz32_6 := blk_frozen BK128.out 6
                            have hfz32_7 := blk_frozen BK128.out 7
                            have p133 : 0 ≤ (4 : Int) := (by omega)
                            have q133 : 4 < (l0.length : Int) := of_decide_eq_true mS
                            obtain ⟨ad133, e133, hx133_0⟩ := Kd.at_int HR0.out 4 p133 q133
                            cases e133
                            (try simp only [show (4 : Int).toNat = 4 from rfl, Nat.reduceMul, Nat.reduceEqDiff, Go.Addr.add, ↓reduceIte] at hx133_0)
                            have qi133 : (4 < l0.length) = True := eq_true (by omega)
                            (try rw [show ((4 : Int)).toNat = 4 from rfl] at hx133_0)
                            have hn133_0 : ad133.block ≠ gb128 := Nat.ne_of_lt (Nat.lt_of_lt_of_le (by have := World.block_lt_of_cell? _ _ hx133_0; first | rwa [add_block] at this | exact this) GW128.out)
                            replace hx133_0 := cB HB hx133_0
                            replace hx133_0 := (cell_far (p := ⟨gb128, 4, none⟩) (by first | (rw [add_block]; exact hn133_0) | (show (Addr.add _ _).block ≠ _; rw [add_block]; exact hn133_0) | exact hn133_0) (.bool true)).trans hx133_0
                            clear hn133_0
                            replace p133 := eq_true p133
                            replace q133 := eq_true q133
                            go_wp2
                            go_roundg k2
                            case measure => have := HK1.out; have := HK2.out; omega
                            case rel => exact ⟨(wrap64 (x6_2 + 1)), (rd l0 4), (x129000_2), (x129001_2), (x129002_2), (x129003_2), (true), (x129005_2), (x129006_2), (x129007_2), mF, mF, H', ⟨by have := HK1.out; have := HK2.out; omega⟩, ⟨by (with_reducible repeat (first | apply Kd.R_alloc | apply Kd.R_drewN | apply Kd.R_drew)); exact Kd.R_mono (Kd.R_far (p := ⟨gb128, 4, none⟩) (Kd.R_types HO_4.out BK128.out (by decide)) (fun _ hk => hk.2) (.bool true)) (fun _ hk => trivial)⟩, ⟨by (with_reducible repeat (first | refine blk_drewN ?_ _ | refine blk_drew ?_ | refine blk_alloc ?_ _)); refine blk_put (cs := #[.bool x129000_2, .bool x129001_2, .bool x129002_2, .bool x129003_2, .bool false, .bool x129005_2, .bool x129006_2, .bool x129007_2]) ?_ 4 _ rfl; (with_reducible repeat (first | refine blk_drewN ?_ _ | refine blk_drew ?_ | refine blk_alloc ?_ _)); exact BK128.out⟩, ⟨mB⟩⟩
                          · rw [if_neg c31] at H
                            exact absurd H (by simp)
                      · rw [if_neg c28] at H
                        by_cases c33 : x7_2 = 5
                        · subst c33
                          have H1 : (if x129005_2 = true then (spec_l04Cycles.j2 k2 l0 x4_1 x5_1 x6_2 x129000_2 x129001_2 x129002_2 x129003_2 x129004_2 x129005_2 x129006_2 x129007_2) else (if 5 < (l0.length : Int) then (spec_l04Cycles.l1 k2 l0 x4_1 x5_1 (wrap64 (x6_2 + 1)) (rd l0 5) x129000_2 x129001_2 x129002_2 x129003_2 x129004_2 true x129006_2 x129007_2) else (none))) = some r := by rw [if_pos rfl] at H; exact H
                          clear H
                          have H := H1
                          clear H1
                          by_cases c34 : x129005_2 = true
                          · subst c34
                            have H1 : (spec_l04Cycles.j2 k2 l0 x4_1 x5_1 x6_2 x129000_2 x129001_2 x129002_2 x129003_2 x129004_2 true x129006_2 x129007_2) = some r := by rw [if_pos rfl] at H; exact H
                            clear H
                            have H := H1
                            clear H1
                            have H' := Aside0.mk H
                            clear H
                            have hcz35_0 : wr.cell? ⟨gb128, 0, none⟩ = some (.bool x129000_2) := (blk_cell BK128.out 0).trans rfl
                            have hcz35_1 : wr.cell? ⟨gb128, 1, none⟩ = some (.bool x129001_2) := (blk_cell BK128.out 1).trans rfl
                            have hcz35_2 : wr.cell? ⟨gb128, 2, none⟩ = some (.bool x129002_2) := (blk_cell BK128.out 2).trans rfl
                            have hcz35_3 : wr.cell? ⟨gb128, 3, none⟩ = some (.bool x129003_2) := (blk_cell BK128.out 3).trans rfl
                            have hcz35_4 : wr.cell? ⟨gb128, 4, none⟩ = some (.bool x129004_2) := (blk_cell BK128.out 4).trans rfl
                            have hcz35_5 : wr.cell? ⟨gb128, 5, none⟩ = some (.bool true) := (blk_cell BK128.out 5).trans rfl
                            have hcz35_6 : wr.cell? ⟨gb128, 6, none⟩ = some (.bool x129006_2) := (blk_cell BK128.out 6).trans rfl
                            have hcz35_7 : wr.cell? ⟨gb128, 7, none⟩ = some (.bool x129007_2) := (blk_cell BK128.out 7).trans rfl
                            have hfz35_0 := blk_frozen BK128.out 0
                            have hfz35_1 := blk_frozen BK128.out 1
                            have hfz35_2 := blk_frozen BK128.out 2
                            have hfz35_3 := blk_frozen BK128.out 3
                            have hfz35_4 := blk_frozen BK128.out 4
                            have hfz35_5 := blk_frozen BK128.out 5
                            have hfz35_6 := blk_frozen BK128.out 6
                            have hfz35_7 := blk_frozen BK128.out 7
                            go_wp2
                            go_meet
                            case rel => exact ⟨_, (x6_2), (x129000_2), (x129001_2), (x129002_2), (x129003_2), (x129004_2), (true), (x129006_2), (x129007_2), mF, H', ⟨by have := HK1.out; have := HK2.out; first | omega | exact Nat.le_refl _⟩, ⟨mR HO_4.out⟩, ⟨by (with_reducible repeat (first | refine blk_drewN ?_ _ | refine blk_drew ?_ | refine blk_alloc ?_ _)); exact BK128.out⟩, ⟨mB⟩⟩
                          · replace c34 := Bool.eq_false_iff.mpr c34
                            subst c34
                            have H1 : (if 5 < (l0.length : Int) then (spec_l04Cycles.l1 k2 l0 x4_1 x5_1 (wrap64 (x6_2 + 1)) (rd l0 5) x129000_2 x129001_2 x129002_2 x129003_2 x129004_2 true x129006_2 x129007_2) else (none)) = some r := by rw [if_neg (show ¬ (false = true) by decide)] at H; exact H
                            clear H
                            have H := H1
                            clear H1
                            by_cases c36 : 5 < (l0.length : Int)
                            · rw [if_pos c36] at H
                              have c36b0 : decide (5 < (l0.length : Int)) = true := decide_eq_true c36
                              have c36b1 : decide (5 < l0.length) = true := decide_eq_true (by omega)
                              clear c36
                              have H' := Aside0.mk H
                              clear H
                              have hcz37_0 : wr.cell? ⟨gb128, 0, none⟩ = some (.bool x129000_2) := (blk_cell BK128.out 0).trans rfl
                              have hcz37_1 : wr.cell? ⟨gb128, 1, none⟩ = some (.bool x129001_2) := (blk_cell BK128.out 1).trans rfl
                              have hcz37_2 : wr.cell? ⟨gb128, 2, none⟩ = some (.bool x129002_2) := (blk_cell BK128.out 2).trans rfl
                              have hcz37_3 : wr.cell? ⟨gb128, 3, none⟩ = some (.bool x129003_2) := (blk_cell BK128.out 3).trans rfl
                              have hcz37_4 : wr.cell? ⟨gb128, 4, none⟩ = some (.bool x129004_2) := (blk_cell BK128.out 4).trans rfl
                              have hcz37_5 : wr.cell? ⟨gb128, 5, none⟩ = some (.bool false) := (blk_cell BK128.out 5).trans rfl
                              have hcz37_6 : wr.cell? ⟨gb128, 6, none⟩ = some (.bool x129006_2) := (blk_cell BK128.out 6).trans rfl
                              have hcz37_7 : wr.cell? ⟨gb128, 7, none⟩ = some (.bool x129007_2) := (blk_cell BK128.out 7).trans rfl
                              have hfz37_0 := blk_frozen BK128.out 0
                              have hfz37_1 := blk_frozen BK128.out 1
                              have hfz37_2 := blk_frozen BK128.out 2
                              have hfz37_3 := blk_frozen BK128.out 3
                              have hfz37_4 := blk_frozen BK128.out 4
                              have hfz37_5 := blk_frozen BK128.out 5
                              have hfz37_6 := blk_frozen BK128.out 6
                              have hfz37_7 := blk_frozen BK128.out 7
                              have p134 : 0 ≤ (5 : Int) := (by omega)
                              have q134 : 5 < (l0.length : Int) := of_decide_eq_true mS
                              obtain ⟨ad134, e134, hx134_0⟩ := Kd.at_int HR0.out 5 p134 q134
                              cases e134
                              (try simp only [show (5 : Int).toNat = 5 from rfl, Nat.reduceMul, Nat.reduceEqDiff, Go.Addr.add, ↓reduceIte] at hx134_0)
                              have qi134 : (5 < l0.length) = True := eq_true (by omega)
                              (try rw [show ((5 : Int)).toNat = 5 from rfl] at hx134_0)
                              have hn134_0 : ad134.block ≠ gb128 := Nat.ne_of_lt (Nat.lt_of_lt_of_le (by have := World.block_lt_of_cell? _ _ hx134_0; first | rwa [add_block] at this | exact this) GW128.out)
                              replace hx134_0 := cB HB hx134_0
                              replace hx134_0 := (cell_far (p := ⟨gb128, 5, none⟩) (by first | (rw [add_block]; exact hn134_0) | (show (Addr.add _ _).block ≠ _; rw [add_block]; exact hn134_0) | exact hn134_0) (.bool true)).trans hx134_0
                              clear hn134_0
                              replace p134 := eq_true p134
                              replace q134 := eq_true q134
                              go_wp2
                              go_roundg k2
                              case measure => have := HK1.out; have := HK2.out; omega
                              case rel => exact ⟨(wrap64 (x6_2 + 1)), (rd l0 5), (x129000_2), (x129001_2), (x129002_2), (x129003_2), (x129004_2), (true), (x129006_2), (x129007_2), mF, mF, H', ⟨by have := HK1.out; have := HK2.out; omega⟩, ⟨by (with_reducible repeat (first | apply Kd.R_alloc | apply Kd.R_drewN | apply Kd.R_drew)); exact Kd.R_mono (Kd.R_far (p := ⟨gb128, 5, none⟩) (Kd.R_types HO_4.out BK128.out (by decide)) (fun _ hk => hk.2) (.bool true)) (fun _ hk => trivial)⟩, ⟨by (with_reducible repeat (first | refine blk_drewN ?_ _ | refine blk_drew ?_ | refine blk_alloc ?_ _)); refine blk_put (cs := #[.bool x129000_2, .bool x129001_2, .bool x129002_2, .bool x129003_2, .bool x129004_2, .bool false, .bool x129006_2, .bool x129007_2]) ?_ 5 _ rfl; (with_reducible repeat (first | refine blk_drewN ?_ _ | refine blk_drew ?_ | refine blk_alloc ?_ _)); exact BK128.out⟩, ⟨mB⟩⟩
                            · rw [if_neg c36] at H
                              exact absurd H (by simp)
                        · rw [if_neg c33] at H
                          by_cases c38 : x7_2 = 6
                          · subst c38
                            have H1 : (if x129006_2 = true then (spec_l04Cycles.j2 k2 l0 x4_1 x5_1 x6_2 x129000_2 x129001_2 x129002_2 x129003_2 x129004_2 x129005_2 x129006_2 x129007_2) else (if 6 < (l0.length : Int) then (spec_l04Cycles.l1 k2 l0 x4_1 x5_1 (wrap64 (x6_2 + 1)) (rd l0 6) x129000_2 x129001_2 x129002_2 x129003_2 x129004_2 x129005_2 true x129007_2) else (none))) = some r := by rw [if_pos rfl] at H; exact H
                            clear H
                            have H := H1
                            clear H1
                            by_cases c39 : x129006_2 = true
                            · subst c39
                              have H1 : (spec_l04Cycles.j2 k2 l0 x4_1 x5_1 x6_2 x129000_2 x129001_2 x129002_2 x129003_2 x129004_2 x129005_2 true x129007_2) = some r := by rw [if_pos rfl] at H; exact H
                              clear H
                              have H := H1
                              clear H1
                              have H' := Aside0.mk H
                              clear H
                              have hcz40_0 : wr.cell? ⟨gb128, 0, none⟩ = some (.bool x129000_2) := (blk_cell BK128.out 0).trans rfl
                              have hcz40_1 : wr.cell? ⟨gb128, 1, none⟩ = some (.bool x129001_2) := (blk_cell BK128.out 1).trans rfl
                              have hcz40_2 : wr.cell? ⟨gb128, 2, none⟩ = some (.bool x129002_2) := (blk_cell BK128.out 2).trans rfl
                              have hcz40_3 : wr.cell? ⟨gb128, 3, none⟩ = some (.bool x129003_2) := (blk_cell BK128.out 3).trans rfl
                              have hcz40_4 : wr.cell? ⟨gb128, 4, none⟩ = some (.bool x129004_2) := (blk_cell BK128.out 4).trans rfl
                              have hcz40_5 : wr.cell? ⟨gb128, 5, none⟩ = some (.bool x129005_2) := (blk_cell BK128.out 5).trans rfl
                              have hcz40_6 : wr.cell? ⟨gb128, 6, none⟩ = some (.bool true) := (blk_cell BK128.out 6).trans rfl
                              have hcz40_7 : wr.cell? ⟨gb128, 7, none⟩ = some (.bool x129007_2) := (blk_cell BK128.out 7).trans rfl
                              have hfz40_0 := blk_frozen BK128.out 0
                              have hfz40_1 := blk_frozen BK128.out 1
                              have hfz40_2 := blk_frozen BK128.out 2
                              have hfz40_3 := blk_frozen BK128.out 3
                              have hfz40_4 := blk_frozen BK128.out 4
                              have hfz40_5 := blk_frozen BK128.out 5
                              have hfz40_6 := blk_frozen BK128.out 6
                              have hfz40_7 := blk_frozen BK128.out 7
                              go_wp2
                              go_meet
                              case rel => exact ⟨_, (x6_2), (x129000_2), (x129001_2), (x129002_2), (x129003_2), (x129004_2), (x129005_2), (true), (x129007_2), mF, H', ⟨by have := HK1.out; have := HK2.out; first | omega | exact Nat.le_refl _⟩, ⟨mR HO_4.out⟩, ⟨by (with_reducible repeat (first | refine blk_drewN ?_ _ | refine blk_drew ?_ | refine blk_alloc ?_ _)); exact BK128.out⟩, ⟨mB⟩⟩
                            · replace c39 := Bool.eq_false_iff.mpr c39
                              subst c39
                              have H1 : (if 6 < (l0.length : Int) then (spec_l04Cycles.l1 k2 l0 x4_1 x5_1 (wrap64 (x6_2 + 1)) (rd l0 6) x129000_2 x129001_2 x129002_2 x129003_2 x129004_2 x129005_2 true x129007_2) else (none)) = some r := by rw [if_neg (show ¬ (false = true) by decide)] at H; exact H
                              clear H
                              have H := H1
                              clear H1
                              by_cases c41 : 6 < (l0.length : Int)
                              · rw [if_pos c41] at H
                                have c41b0 : decide (6 < (l0.length : Int)) = true := decide_eq_true c41
                                have c41b1 : decide (6 < l0.length) = true := decide_eq_true (by omega)
                                clear c41
                                have H' := Aside0.mk H
                                clear H
                                have hcz42_0 : wr.cell? ⟨gb128, 0, none⟩ = some (.bool x129000_2) := (blk_cell BK128.out 0).trans rfl
                                have hcz42_1 : wr.cell? ⟨gb128, 1, none⟩ = some (.bool x129001_2) := (blk_cell BK128.out 1).trans rfl
                                have hcz42_2 : wr.cell? ⟨gb128, 2, none⟩ = some (.bool x129002_2) := (blk_cell BK128.out 2).trans rfl
                                have hcz42_3 : wr.cell? ⟨gb128, 3, none⟩ = some (.bool x129003_2) := (blk_cell BK128.out 3).trans rfl
                                have hcz42_4 : wr.cell? ⟨gb128, 4, none⟩ = some (.bool x129004_2) := (blk_cell BK128.out 4).trans rfl
                                have hcz42_5 : wr.cell? ⟨gb128, 5, none⟩ = some (.bool x129005_2) := (blk_cell BK128.out 5).trans rfl
                                have hcz42_6 : wr.cell? ⟨gb128, 6, none⟩ = some (.bool false) := (blk_cell BK128.out 6).trans rfl
                                have hcz42_7 : wr.cell? ⟨gb128, 7, none⟩ = some (.bool x129007_2) := (blk_cell BK128.out 7).trans rfl
                                have hfz42_0 := blk_frozen BK128.out 0
                                have hfz42_1 := blk_frozen BK128.out 1
                                have hfz42_2 := blk_frozen BK128.out 2
                                have hfz42_3 := blk_frozen BK128.out 3
                                have hfz42_4 := blk_frozen BK128.out 4
                                have hfz42_5 := blk_frozen BK128.out 5
                                have hfz42_6 := blk_frozen BK128.out 6
                                have hfz42_7 := blk_frozen BK128.out 7
                                have p135 : 0 ≤ (6 : Int) := (by omega)
                                have q135 : 6 < (l0.length : Int) := of_decide_eq_true mS
                                obtain ⟨ad135, e135, hx135_0⟩ := Kd.at_int HR0.out 6 p135 q135
                                cases e135
                                (try simp only [show (6 : Int).toNat = 6 from rfl, Nat.reduceMul, Nat.reduceEqDiff, Go.Addr.add, ↓reduceIte] at hx135_0)
                                have qi135 : (6 < l0.length) = True := eq_true (by omega)
                                (try rw [show ((6 : Int)).toNat = 6 from rfl] at hx135_0)
                                have hn135_0 : ad135.block ≠ gb128 := Nat.ne_of_lt (Nat.lt_of_lt_of_le (by have := World.block_lt_of_cell? _ _ hx135_0; first | rwa [add_block] at this | exact this) GW128.out)
                                replace hx135_0 := cB HB hx135_0
                                replace hx135_0 := (cell_far (p := ⟨gb128, 6, none⟩) (by first | (rw [add_block]; exact hn135_0) | (show (Addr.add _ _).block ≠ _; rw [add_block]; exact hn135_0) | exact hn135_0) (.bool true)).trans hx135_0
                                clear hn135_0
                                replace p135 := eq_true p135
                                replace q135 := eq_true q135
                                go_wp2
                                go_roundg k2
                                case measure => have := HK1.out; have := HK2.out; omega
                                case rel => exact ⟨(wrap64 (x6_2 + 1)), (rd l0 6), (x129000_2), (x129001_2), (x129002_2), (x129003_2), (x129004_2), (x129005_2), (true), (x129007_2), mF, mF, H', ⟨by have := HK1.out; have := HK2.out; omega⟩, ⟨by (with_reducible repeat (first | apply Kd.R_alloc | apply Kd.R_drewN | apply Kd.R_drew)); exact Kd.R_mono (Kd.R_far (p := ⟨gb128, 6, none⟩) (Kd.R_types HO_4.out BK128.out (by decide)) (fun _ hk => hk.2) (.bool true)) (fun _ hk => trivial)⟩, ⟨by (with_reducible repeat (first | refine blk_drewN ?_ _ | refine blk_drew ?_ | refine blk_alloc ?_ _)); refine blk_put (cs := #[.bool x129000_2, .bool x129001_2, .bool x129002_2, .bool x129003_2, .bool x129004_2, .bool x129005_2, .bool false, .bool x129007_2]) ?_ 6 _ rfl; (with_reducible repeat (first | refine blk_drewN ?_ _ | refine blk_drew ?_ | refine blk_alloc ?_ _)); exact BK128.out⟩, ⟨mB⟩⟩
                              · rw [if_neg c41] at H
                                exact absurd H (by simp)
                          · rw [if_neg c38] at H
                            by_cases c43 : x7_2 = 7
                            · subst c43
                              have H1 : (if x129007_2 = true then (spec_l04Cycles.j2 k2 l0 x4_1 x5_1 x6_2 x129000_2 x129001_2 x129002_2 x129003_2 x129004_2 x129005_2 x129006_2 x129007_2) else (if 7 < (l0.length : Int) then (spec_l04Cycles.l1 k2 l0 x4_1 x5_1 (wrap64 (x6_2 + 1)) (rd l0 7) x129000_2 x129001_2 x129002_2 x129003_2 x129004_2 x129005_2 x129006_2 true) else (none))) = some r := by rw [if_pos rfl] at H; exact H
                              clear H
                              have H := H1
                              clear H1
                              by_cases c44 : x129007_2 = true
                              · subst c44
                                have H1 : (spec_l04Cycles.j2 k2 l0 x4_1 x5_1 x6_2 x129000_2 x129001_2 x129002_2 x129003_2 x129004_2 x129005_2 x129006_2 true) = some r := by rw [if_pos rfl] at H; exact H
                                clear H
                                have H := H1
                                clear H1
                                have H' := Aside0.mk H
                                clear H
                                have hcz45_0 : wr.cell? ⟨gb128, 0, none⟩ = some (.bool x129000_2) := (blk_cell BK128.out 0).trans rfl
                                have hcz45_1 : wr.cell? ⟨gb128, 1, none⟩ = some (.bool x129001_2) := (blk_cell BK128.out 1).trans rfl
                                have hcz45_2 : wr.cell? ⟨gb128, 2, none⟩ = some (.bool x129002_2) := (blk_cell BK128.out 2).trans rfl
                                have hcz45_3 : wr.cell? ⟨gb128, 3, none⟩ = some (.bool x129003_2) := (blk_cell BK128.out 3).trans rfl
                                have hcz45_4 : wr.cell? ⟨gb128, 4, none⟩ = some (.bool x129004_2) := (blk_cell BK128.out 4).trans rfl
                                have hcz45_5 : wr.cell? ⟨gb128, 5, none⟩ = some (.bool x129005_2) := (blk_cell BK128.out 5).trans rfl
                                have hcz45_6 : wr.cell? ⟨gb128, 6, none⟩ = some (.bool x129006_2) := (blk_cell BK128.out 6).trans rfl
                                have hcz45_7 : wr.cell? ⟨gb128, 7, none⟩ = some (.bool true) := (blk_cell BK128.out 7).trans rfl
                                have hfz45_0 := blk_frozen BK128.out 0
                                have hfz45_1 := blk_frozen BK128.out 1
                                have hfz45_2 := blk_frozen BK128.out 2
                                have hfz45_3 := blk_frozen BK128.out 3
                                have hfz45_4 := blk_frozen BK128.out 4
                                have hfz45_5 := blk_frozen BK128.out 5
                                have hfz45_6 := blk_frozen BK128.out 6
                                have hfz45_7 := blk_frozen BK128.out 7
                                go_wp2
                                go_meet
                                case rel => exact ⟨_, (x6_2), (x129000_2), (x129001_2), (x129002_2), (x129003_2), (x129004_2), (x129005_2), (x129006_2), (true), mF, H', ⟨by have := HK1.out; have := HK2.out; first | omega | exact Nat.le_refl _⟩, ⟨mR HO_4.out⟩, ⟨by (with_reducible repeat (first | refine blk_drewN ?_ _ | refine blk_drew ?_ | refine blk_alloc ?_ _)); exact BK128.out⟩, ⟨mB⟩⟩
                              · replace c44 := Bool.eq_false_iff.mpr c44
                                subst c44
                                have H1 : (if 7 < (l0.length : Int) then (spec_l04Cycles.l1 k2 l0 x4_1 x5_1 (wrap64 (x6_2 + 1)) (rd l0 7) x129000_2 x129001_2 x129002_2 x129003_2 x129004_2 x129005_2 x129006_2 true) else (none)) = some r := by rw [if_neg (show ¬ (false = true) by decide)] at H; exact H
                                clear H
                                have H := H1
                                clear H1
                                by_cases c46 : 7 < (l0.length : Int)
                                · rw [if_pos c46] at H
                                  have c46b0 : decide (7 < (l0.length : Int)) = true := decide_eq_true c46
                                  have c46b1 : decide (7 < l0.length) = true := decide_eq_true (by omega)
                                  clear c46
                                  have H' := Aside0.mk H
                                  clear H
                                  have hcz47_0 : wr.cell? ⟨gb128, 0, none⟩ = some (.bool x129000_2) := (blk_cell BK128.out 0).trans rfl
                                  have hcz47_1 : wr.cell? ⟨gb128, 1, none⟩ = some (.bool x129001_2) := (blk_cell BK128.out 1).trans rfl
                                  have hcz47_2 : wr.cell? ⟨gb128, 2, none⟩ = some (.bool x129002_2) := (blk_cell BK128.out 2).trans rfl
                                  have hcz47_3 : wr.cell? ⟨gb128, 3, none⟩ = some (.bool x129003_2) := (blk_cell BK128.out 3).trans rfl
                                  have hcz47_4 : wr.cell? ⟨gb128, 4, none⟩ = some (.bool x129004_2) := (blk_cell BK128.out 4).trans rfl
                                  have hcz47_5 : wr.cell? ⟨gb128, 5, none⟩ = some (.bool x129005_2) := (blk_cell BK128.out 5).trans rfl
                                  have hcz47_6 : wr.cell? ⟨gb128, 6, none⟩ = some (.bool x129006_2) := (blk_cell BK128.out 6).trans rfl
                                  have hcz47_7 : wr.cell? ⟨gb128, 7, none⟩ = some (.bool false) := (blk_cell BK128.out 7).trans rfl
                                  have hfz47_0 := blk_frozen BK128.out 0
                                  have hfz47_1 := blk_frozen BK128.out 1
                                  have hfz47_2 := blk_frozen BK128.out 2
                                  have hfz47_3 := blk_frozen BK128.out 3
                                  have hfz47_4 := blk_frozen BK128.out 4
                                  have hfz47_5 := blk_frozen BK128.out 5
                                  have hfz47_6 := blk_frozen BK128.out 6
                                  have hfz47_7 := blk_frozen BK128.out 7
                                  have p136 : 0 ≤ (7 : Int) := (by omega)
                                  have q136 : 7 < (l0.length : Int) := of_decide_eq_true mS
                                  obtain ⟨ad136, e136, hx136_0⟩ := Kd.at_int HR0.out 7 p136 q136
                                  cases e136
                                  (try simp only [show (7 : Int).toNat = 7 from rfl, Nat.reduceMul, Nat.reduceEqDiff, Go.Addr.add, ↓reduceIte] at hx136_0)
                                  have qi136 : (7 < l0.length) = True := eq_true (by omega)
                                  (try rw [show ((7 : Int)).toNat = 7 from rfl] at hx136_0)
                                  have hn136_0 : ad136.block ≠ gb128 := Nat.ne_of_lt (Nat.lt_of_lt_of_le (by have := World.block_lt_of_cell? _ _ hx136_0; first | rwa [add_block] at this | exact this) GW128.out)
                                  replace hx136_0 := cB HB hx136_0
                                  replace hx136_0 := (cell_far (p := ⟨gb128, 7, none⟩) (by first | (rw [add_block]; exact hn136_0) | (show (Addr.add _ _).block ≠ _; rw [add_block]; exact hn136_0) | exact hn136_0) (.bool true)).trans hx136_0
                                  clear hn136_0
                                  replace p136 := eq_true p136
                                  replace q136 := eq_true q136
                                  go_wp2
                                  go_roundg k2
                                  case measure => have := HK1.out; have := HK2.out; omega
                                  case rel => exact ⟨(wrap64 (x6_2 + 1)), (rd l0 7), (x129000_2), (x129001_2), (x129002_2), (x129003_2), (x129004_2), (x129005_2), (x129006_2), (true), mF, mF, H', ⟨by have := HK1.out; have := HK2.out; omega⟩, ⟨by (with_reducible repeat (first | apply Kd.R_alloc | apply Kd.R_drewN | apply Kd.R_drew)); exact Kd.R_mono (Kd.R_far (p := ⟨gb128, 7, none⟩) (Kd.R_types HO_4.out BK128.out (by decide)) (fun _ hk => hk.2) (.bool true)) (fun _ hk => trivial)⟩, ⟨by (with_reducible repeat (first | refine blk_drewN ?_ _ | refine blk_drew ?_ | refine blk_alloc ?_ _)); refine blk_put (cs := #[.bool x129000_2, .bool x129001_2, .bool x129002_2, .bool x129003_2, .bool x129004_2, .bool x129005_2, .bool x129006_2, .bool false]) ?_ 7 _ rfl; (with_reducible repeat (first | refine blk_drewN ?_ _ | refine blk_drew ?_ | refine blk_alloc ?_ _)); exact BK128.out⟩, ⟨mB⟩⟩
                                · rw [if_neg c46] at H
                                  exact absurd H (by simp)
                            · rw [if_neg c43] at H
                              exact absurd H (by simp)
        case rest =>
          clear HC7
          try clear c1
          try clear p1
          try clear q1
          try clear hx1
          try clear qi1
          try clear c2
          try clear p2
          try clear c3
          try clear c4
          try clear p6
          try clear c8
          try clear c11
          try clear p12
          try clear q12
          try clear hx12
          try clear qi12
          try clear c13
          try clear p13
          try clear q13
          try clear hx13
          try clear qi13
          try clear c14
          try clear c16
          try clear c16b0
          try clear c16b1
          try clear c18
          try clear c19
          try clear c21
          try clear c21b0
          try clear c21b1
          try clear c23
          try clear c24
          try clear c26
          try clear c26b0
          try clear c26b1
          try clear c28
          try clear c29
          try clear c31
          try clear c31b0
          try clear c31b1
          try clear c33
          try clear c34
          try clear c36
          try clear c36b0
          try clear c36b1
          try clear c38
          try clear c39
          try clear c41
          try clear c41b0
          try clear c41b1
          try clear c43
          try clear c44
          try clear c46
          try clear c46b0
          try clear c46b1
          try clear hcz15_0
          try clear hcz15_1
          try clear hcz15_2
          try clear hcz15_3
          try clear hcz15_4
          try clear hcz15_5
          try clear hcz15_6
          try clear hcz15_7
          try clear hcz17_0
          try clear hcz17_1
          try clear hcz17_2
          try clear hcz17_3
          try clear hcz17_4
          try clear hcz17_5
          try clear hcz17_6
          try clear hcz17_7
          try clear hcz20_0
          try clear hcz20_1
          try clear hcz20_2
          try clear hcz20_3
          try clear hcz20_4
          try clear hcz20_5
          try clear hcz20_6
          try clear hcz20_7
          try clear hcz22_0
          try clear hcz22_1
          try clear hcz22_2
          try clear hcz22_3
          try clear hcz22_4
          try clear hcz22_5
          try clear hcz22_6
          try clear hcz22_7
          try clear hcz25_0
          try clear hcz25_1
          try clear hcz25_2
          try clear hcz25_3
          try clear hcz25_4
          try clear hcz25_5
          try clear hcz25_6
          try clear hcz25_7
          try clear hcz27_0
          try clear hcz27_1
          try clear hcz27_2
          try clear hcz27_3
          try clear hcz27_4
          try clear hcz27_5
          try clear hcz27_6
          try clear hcz27_7
          try clear hcz30_0
          try clear hcz30_1
          try clear hcz30_2
          try clear hcz30_3
          try clear hcz30_4
          try clear hcz30_5
          try clear hcz30_6
          try clear hcz30_7
          try clear hcz32_0
          try clear hcz32_1
          try clear hcz32_2
          try clear hcz32_3
          try clear hcz32_4
          try clear hcz32_5
          try clear hcz32_6
          try clear hcz32_7
          try clear hcz35_0
          try clear hcz35_1
          try clear hcz35_2
          try clear hcz35_3
          try clear hcz35_4
          try clear hcz35_5
          try clear hcz35_6
          try clear hcz35_7
          try clear hcz37_0
          try clear hcz37_1
          try clear hcz37_2
          try clear hcz37_3
          try clear hcz37_4
          try clear hcz37_5
          try clear hcz37_6
          try clear hcz37_7
          try clear hcz40_0
          try clear hcz40_1
          try clear hcz40_2
          try clear hcz40_3
          try clear hcz40_4
          try clear hcz40_5
          try clear hcz40_6
          try clear hcz40_7
          try clear hcz42_0
          try clear hcz42_1
          try clear hcz42_2
          try clear hcz42_3
          try clear hcz42_4
          try clear hcz42_5
          try clear hcz42_6
          try clear hcz42_7
          try clear hcz45_0
          try clear hcz45_1
          try clear hcz45_2
          try clear hcz45_3
          try clear hcz45_4
          try clear hcz45_5
          try clear hcz45_6
          try clear hcz45_7
          try clear hcz47_0
          try clear hcz47_1
          try clear hcz47_2
          try clear hcz47_3
          try clear hcz47_4
          try clear hcz47_5
          try clear hcz47_6
          try clear hcz47_7
          try clear hfz12_5
          try clear hfz12_6
          try clear hfz12_7
          try clear hfz15_0
          try clear hfz15_1
          try clear hfz15_2
          try clear hfz15_3
          try clear hfz15_4
          try clear hfz15_5
          try clear hfz15_6
          try clear hfz15_7
          try clear hfz17_0
          try clear hfz17_1
          try clear hfz17_2
          try clear hfz17_3
          try clear hfz17_4
          try clear hfz17_5
          try clear hfz17_6
          try clear hfz17_7
          try clear hfz20_0
          try clear hfz20_1
          try clear hfz20_2
          try clear hfz20_3
          try clear hfz20_4
          try clear hfz20_5
          try clear hfz20_6
          try clear hfz20_7
          try clear hfz22_0
          try clear hfz22_1
          try clear hfz22_2
          try clear hfz22_3
          try clear hfz22_4
          try clear hfz22_5
          try clear hfz22_6
          try clear hfz22_7
          try clear hfz25_0
          try clear hfz25_1
          try clear hfz25_2
          try clear hfz25_3
          try clear hfz25_4
          try clear hfz25_5
          try clear hfz25_6
          try clear hfz25_7
          try clear hfz27_0
          try clear hfz27_1
          try clear hfz27_2
          try clear hfz27_3
          try clear hfz27_4
          try clear hfz27_5
          try clear hfz27_6
          try clear hfz27_7
          try clear hfz30_0
          try clear hfz30_1
          try clear hfz30_2
          try clear hfz30_3
          try clear hfz30_4
          try clear hfz30_5
          try clear hfz30_6
          try clear hfz30_7
          try clear hfz32_0
          try clear hfz32_1
          try clear hfz32_2
          try clear hfz32_3
          try clear hfz32_4
          try clear hfz32_5
          try clear hfz32_6
          try clear hfz32_7
          try clear hfz35_0
          try clear hfz35_1
          try clear hfz35_2
          try clear hfz35_3
          try clear hfz35_4
          try clear hfz35_5
          try clear hfz35_6
          try clear hfz35_7
          try clear hfz37_0
          try clear hfz37_1
          try clear hfz37_2
          try clear hfz37_3
          try clear hfz37_4
          try clear hfz37_5
          try clear hfz37_6
          try clear hfz37_7
          try clear hfz40_0
          try clear hfz40_1
          try clear hfz40_2
          try clear hfz40_3
          try clear hfz40_4
          try clear hfz40_5
          try clear hfz40_6
          try clear hfz40_7
          try clear hfz42_0
          try clear hfz42_1
          try clear hfz42_2
          try clear hfz42_3
          try clear hfz42_4
          try clear hfz42_5
          try clear hfz42_6
          try clear hfz42_7
          try clear hfz45_0
          try clear hfz45_1
          try clear hfz45_2
          try clear hfz45_3
          try clear hfz45_4
          try clear hfz45_5
          try clear hfz45_6
          try clear hfz45_7
          try clear hfz47_0
          try clear hfz47_1
          try clear hfz47_2
          try clear hfz47_3
          try clear hfz47_4
          try clear hfz47_5
          try clear hfz47_6
          try clear hfz47_7
          try clear hx129_0
          try clear hx130_0
          try clear hx131_0
          try clear hx132_0
          try clear hx133_0
          try clear hx134_0
          try clear hx135_0
          try clear hx136_0
          try clear p129
          try clear p130
          try clear p131
          try clear p132
          try clear p133
          try clear p134
          try clear p135
          try clear p136
          try clear q129
          try clear q130
          try clear q131
          try clear q132
          try clear q133
          try clear q134
          try clear q135
          try clear q136
          obtain ⟨kq, x6_6, x129000_6, x129001_6, x129002_6, x129003_6, x129004_6, x129005_6, x129006_6, x129007_6, rfl, HA, HJ6, HO_4, BK128, HB⟩ := hcut
          cases kq with
          | zero => exact absurd HA.out (by simp [spec_l04Cycles.j2])
          | succ kj6 =>
            have H := HA.out
            clear HA
            simp only [spec_l04Cycles.j2] at H
            have H' := Aside0.mk H
            clear H
            obtain ⟨Ao48, co48, eo48⟩ := Kd.R_slice HO_4.out
            subst eo48
            go_wp2
            go_loopg [8] kj6 (fun kq v8 w' => ∃ (x8_3 : Int), v8 = .int .i64 x8_3 ∧ Aside0 (spec_l04Cycles.l2 kq l0 x4_1 x5_1 x6_6 x8_3 x129000_6 x129001_6 x129002_6 x129003_6 x129004_6 x129005_6 x129006_6 x129007_6 = some r) ∧ Aside0 (kq ≤ kj6) ∧ Aside0 (Kd.R (Kd.int .i64) 2 w' w.heap.size (fun _ => True) (.slice Ao48 x4_1.length co48) x4_1) ∧ Aside0 (w'.heap[gb128]? = some (.cells #[.bool x129000_6, .bool x129001_6, .bool x129002_6, .bool x129003_6, .bool x129004_6, .bool x129005_6, .bool x129006_6, .bool x129007_6] 50 (0, 0))) ∧ Aside0 (Below w.heap.size w w'))
            case atStart => exact ⟨((x4_1.length : Int)), mF, H', ⟨Nat.le_refl _⟩, ⟨mR HO_4.out⟩, ⟨by (with_reducible repeat (first | refine blk_drewN ?_ _ | refine blk_drew ?_ | refine blk_alloc ?_ _)); exact BK128.out⟩, ⟨mB⟩⟩
            case round =>
              clear H'
              try clear c1
              try clear p1
              try clear q1
              try clear hx1
              try clear qi1
              try clear c2
              try clear p2
              try clear c3
              try clear c4
              try clear p6
              try clear c8
              try clear c11
              try clear p12
              try clear q12
              try clear hx12
              try clear qi12
              try clear c13
              try clear p13
              try clear q13
              try clear hx13
              try clear qi13
              try clear c14
              try clear c16
              try clear c16b0
              try clear c16b1
              try clear c18
              try clear c19
              try clear c21
              try clear c21b0
              try clear c21b1
              try clear c23
              try clear c24
              try clear c26
              try clear c26b0
              try clear c26b1
              try clear c28
              try clear c29
              try clear c31
              try clear c31b0
              try clear c31b1
              try clear c33
              try clear c34
              try clear c36
              try clear c36b0
              try clear c36b1
              try clear c38
              try clear c39
              try clear c41
              try clear c41b0
              try clear c41b1
              try clear c43
              try clear c44
              try clear c46
              try clear c46b0
              try clear c46b1
              try clear hcz15_0
              try clear hcz15_1
              try clear hcz15_2
              try clear hcz15_3
              try clear hcz15_4
              try clear hcz15_5
              try clear hcz15_6
              try clear hcz15_7
              try clear hcz17_0
              try clear hcz17_1
              try clear hcz17_2
              try clear hcz17_3
              try clear hcz17_4
              try clear hcz17_5
              try clear hcz17_6
              try clear hcz17_7
              try clear hcz20_0
              try clear hcz20_1
              try clear hcz20_2
              try clear hcz20_3
              try clear hcz20_4
              try clear hcz20_5
              try clear hcz20_6
              try clear hcz20_7
              try clear hcz22_0
              try clear hcz22_1
              try clear hcz22_2
              try clear hcz22_3
              try clear hcz22_4
              try clear hcz22_5
              try clear hcz22_6
              try clear hcz22_7
              try clear hcz25_0
              try clear hcz25_1
              try clear hcz25_2
              try clear hcz25_3
              try clear hcz25_4
              try clear hcz25_5
              try clear hcz25_6
              try clear hcz25_7
              try clear hcz27_0
              try clear hcz27_1
              try clear hcz27_2
              try clear hcz27_3
              try clear hcz27_4
              try clear hcz27_5
              try clear hcz27_6
              try clear hcz27_7
              try clear hcz30_0
              try clear hcz30_1
              try clear hcz30_2
              try clear hcz30_3
              try clear hcz30_4
              try clear hcz30_5
              try clear hcz30_6
              try clear hcz30_7
              try clear hcz32_0
              try clear hcz32_1
              try clear hcz32_2
              try clear hcz32_3
              try clear hcz32_4
              try clear hcz32_5
              try clear hcz32_6
              try clear hcz32_7
              try clear hcz35_0
              try clear hcz35_1
              try clear hcz35_2
              try clear hcz35_3
              try clear hcz35_4
              try clear hcz35_5
              try clear hcz35_6
              try clear hcz35_7
              try clear hcz37_0
              try clear hcz37_1
              try clear hcz37_2
              try clear hcz37_3
              try clear hcz37_4
              try clear hcz37_5
              try clear hcz37_6
              try clear hcz37_7
              try clear hcz40_0
              try clear hcz40_1
              try clear hcz40_2
              try clear hcz40_3
              try clear hcz40_4
              try clear hcz40_5
              try clear hcz40_6
              try clear hcz40_7
              try clear hcz42_0
              try clear hcz42_1
              try clear hcz42_2
              try clear hcz42_3
              try clear hcz42_4
              try clear hcz42_5
              try clear hcz42_6
              try clear hcz42_7
              try clear hcz45_0
              try clear hcz45_1
              try clear hcz45_2
              try clear hcz45_3
              try clear hcz45_4
              try clear hcz45_5
              try clear hcz45_6
              try clear hcz45_7
              try clear hcz47_0
              try clear hcz47_1
              try clear hcz47_2
              try clear hcz47_3
              try clear hcz47_4
              try clear hcz47_5
              try clear hcz47_6
              try clear hcz47_7
              try clear hfz12_5
              try clear hfz12_6
              try clear hfz12_7
              try clear hfz15_0
              try clear hfz15_1
              try clear hfz15_2
              try clear hfz15_3
              try clear hfz15_4
              try clear hfz15_5
              try clear hfz15_6
              try clear hfz15_7
              try clear hfz17_0
              try clear hfz17_1
              try clear hfz17_2
              try clear hfz17_3
              try clear hfz17_4
              try clear hfz17_5
              try clear hfz17_6
              try clear hfz17_7
              try clear hfz20_0
              try clear hfz20_1
              try clear hfz20_2
              try clear hfz20_3
              try clear hfz20_4
              try clear hfz20_5
              try clear hfz20_6
              try clear hfz20_7
              try clear hfz22_0
              try clear hfz22_1
              try clear hfz22_2
              try clear hfz22_3
              try clear hfz22_4
              try clear hfz22_5
              try clear hfz22_6
              try clear hfz22_7
              try clear hfz25_0
              try clear hfz25_1
              try clear hfz25_2
              try clear hfz25_3
              try clear hfz25_4
              try clear hfz25_5
              try clear hfz25_6
              try clear hfz25_7
              try clear hfz27_0
              try clear hfz27_1
              try clear hfz27_2
              try clear hfz27_3
              try clear hfz27_4
              try clear hfz27_5
              try clear hfz27_6
              try clear hfz27_7
              try clear hfz30_0
              try clear hfz30_1
              try clear hfz30_2
              try clear hfz30_3
              try clear hfz30_4
              try clear hfz30_5
              try clear hfz30_6
              try clear hfz30_7
              try clear hfz32_0
              try clear hfz32_1
              try clear hfz32_2
              try clear hfz32_3
              try clear hfz32_4
              try clear hfz32_5
              try clear hfz32_6
              try clear hfz32_7
              try clear hfz35_0
              try clear hfz35_1
              try clear hfz35_2
              try clear hfz35_3
              try clear hfz35_4
              try clear hfz35_5
              try clear hfz35_6
              try clear hfz35_7
              try clear hfz37_0
              try clear hfz37_1
              try clear hfz37_2
              try clear hfz37_3
              try clear hfz37_4
              try clear hfz37_5
              try clear hfz37_6
              try clear hfz37_7
              try clear hfz40_0
              try clear hfz40_1
              try clear hfz40_2
              try clear hfz40_3
              try clear hfz40_4
              try clear hfz40_5
              try clear hfz40_6
              try clear hfz40_7
              try clear hfz42_0
              try clear hfz42_1
              try clear hfz42_2
              try clear hfz42_3
              try clear hfz42_4
              try clear hfz42_5
              try clear hfz42_6
              try clear hfz42_7
              try clear hfz45_0
              try clear hfz45_1
              try clear hfz45_2
              try clear hfz45_3
              try clear hfz45_4
              try clear hfz45_5
              try clear hfz45_6
              try clear hfz45_7
              try clear hfz47_0
              try clear hfz47_1
              try clear hfz47_2
              try clear hfz47_3
              try clear hfz47_4
              try clear hfz47_5
              try clear hfz47_6
              try clear hfz47_7
              try clear hx129_0
              try clear hx130_0
              try clear hx131_0
              try clear hx132_0
              try clear hx133_0
              try clear hx134_0
              try clear hx135_0
              try clear hx136_0
              try clear p1
              try clear p12
              try clear p129
              try clear p13
              try clear p130
              try clear p131
              try clear p132
              try clear p133
              try clear p134
              try clear p135
              try clear p136
              try clear p2
              try clear p6
              try clear q1
              try clear q12
              try clear q129
              try clear q13
              try clear q130
              try clear q131
              try clear q132
              try clear q133
              try clear q134
              try clear q135
              try clear q136
              obtain ⟨x8_3, rfl, HA, HK3, HO_4, BK128, HB⟩ := hrel
              cases gk with
              | zero => exact absurd HA.out (by simp [spec_l04Cycles.l2])
              | succ k3 =>
                have H := HA.out
                clear HA
                simp only [spec_l04Cycles.l2] at H
                by_cases c49 : x8_3 > 0
                · rw [if_pos c49] at H
                  have c49b0 : decide (0 < x8_3) = true := decide_eq_true c49
                  clear c49
                  obtain ⟨ji50, hji50⟩ : ∃ j_ : Int, (wrap64 (x8_3 - 1)) = j_ := ⟨_, rfl⟩
                  replace H : (if 0 ≤ (ji50) then (if (ji50) < (x4_1.length : Int) then (if (rd x4_1 (ji50)) < x6_6 then (spec_l04Cycles.l2 k3 l0 x4_1 x5_1 x6_6 ji50 x129000_6 x129001_6 x129002_6 x129003_6 x129004_6 x129005_6 x129006_6 x129007_6) else (if x6_6 > 0 then ((some (([x6_6] : List Int) : List Int)).bind fun y138 => (if 0 ≤ x8_3 then (if x8_3 ≤ (x4_1.length : Int) then ((some (x4_1.drop (x8_3 : Int).toNat : List Int)).bind fun y141 => (if y138.length + y141.length < 17592186044416 then ((some (y138 ++ y141 : List Int)).bind fun y145 => ((spec_l01Own.f (x4_1.take (x8_3 : Int).toNat)).bind fun t152 => (if t152.length + y145.length < 17592186044416 then (spec_l04Cycles.l0 k3 l0 (t152 ++ y145) (wrap64 (x5_1 + 1)) x129000_6 x129001_6 x129002_6 x129003_6 x129004_6 x129005_6 x129006_6 x129007_6) else (none)))) else (none))) else (none)) else (none))) else (spec_l04Cycles.l0 k3 l0 x4_1 (wrap64 (x5_1 + 1)) x129000_6 x129001_6 x129002_6 x129003_6 x129004_6 x129005_6 x129006_6 x129007_6))) else (none)) else (none)) = some r := by first | (rw [hji50] at H; exact H) | (simp only [hji50] at H ⊢; exact H)
                  have hji50w : (IntKind.i64.wrap (x8_3 - 1)) = ji50 := (i64_w _).trans hji50
                  by_cases c51 : 0 ≤ (ji50)
                  · rw [if_pos c51] at H
                    have c51b0 : decide (0 ≤ (ji50)) = true := decide_eq_true c51
                    clear c51
                    by_cases c52 : (ji50) < (x4_1.length : Int)
                    · rw [if_pos c52] at H
                      have c52b0 : decide ((ji50) < (x4_1.length : Int)) = true := decide_eq_true c52
                      clear c52
                      by_cases c53 : (rd x4_1 (ji50)) < x6_6
                      · rw [if_pos c53] at H
                        have c53b0 : decide ((rd x4_1 (ji50)) < x6_6) = true := decide_eq_true c53
                        clear c53
                        have H' := Aside0.mk H
                        clear H
                        have p137 : 0 ≤ ((ji50) : Int) := of_decide_eq_true mS
                        have q137 : (ji50) < (x4_1.length : Int) := of_decide_eq_true mS
                        obtain ⟨ad137, e137, hx137_0⟩ := Kd.at_int (Kd.R_reads' HO_4.out).2.2 (ji50) p137 q137
                        cases e137
                        replace p137 := eq_true p137
                        replace q137 := eq_true q137
                        go_wp2
                        go_roundg k3
                        case measure => have := HK1.out; have := HJ6.out; have := HK3.out; omega
                        case rel => exact ⟨(ji50), (by first | rfl | (simp; done) | (simp only [← hji50] <;> (first | rfl | simp)) | (simp [*]; done)), H', ⟨by have := HK1.out; have := HJ6.out; have := HK3.out; omega⟩, ⟨mR HO_4.out⟩, ⟨by (with_reducible repeat (first | refine blk_drewN ?_ _ | refine blk_drew ?_ | refine blk_alloc ?_ _)); exact BK128.out⟩, ⟨mB⟩⟩
                      · rw [if_neg c53] at H
                        have c53b0 : decide ((rd x4_1 (ji50)) < x6_6) = false := decide_eq_false c53
                        clear c53
                        by_cases c54 : x6_6 > 0
                        · rw [if_pos c54] at H
                          have c54b0 : decide (0 < x6_6) = true := decide_eq_true c54
                          clear c54
                          obtain ⟨y138, hy138⟩ : ∃ y_ : List Int, y_ = (([x6_6] : List Int)) := ⟨_, rfl⟩
                          replace H : (if 0 ≤ x8_3 then (if x8_3 ≤ (x4_1.length : Int) then ((some (x4_1.drop (x8_3 : Int).toNat : List Int)).bind fun y141 => (if y138.length + y141.length < 17592186044416 then ((some (y138 ++ y141 : List Int)).bind fun y145 => ((spec_l01Own.f (x4_1.take (x8_3 : Int).toNat)).bind fun t152 => (if t152.length + y145.length < 17592186044416 then (spec_l04Cycles.l0 k3 l0 (t152 ++ y145) (wrap64 (x5_1 + 1)) x129000_6 x129001_6 x129002_6 x129003_6 x129004_6 x129005_6 x129006_6 x129007_6) else (none)))) else (none))) else (none)) else (none)) = some r := by first | (rw [hy138]; with_reducible exact H) | (have H2_ := (Option.bind_some _ _).symm.trans H; rw [hy138]; with_reducible exact H2_) | (have H2_ := (Option.bind_some _ _).symm.trans H; with_reducible exact H2_) | with_reducible exact H | (rw [hy138]; exact H) | exact H
                          have Ny138 := Aside0.mk hy138
                          clear hy138
                          by_cases c55 : 0 ≤ x8_3
                          · rw [if_pos c55] at H
                            have c55b0 := eq_true c55
                            have c55b1 : decide (0 ≤ x8_3) = true := decide_eq_true c55
                            clear c55
                            by_cases c56 : x8_3 ≤ (x4_1.length : Int)
                            · rw [if_pos c56] at H
                              have c56b0 := eq_true c56
                              have c56b1 : decide (x8_3 ≤ (x4_1.length : Int)) = true := decide_eq_true c56
                              clear c56
                              obtain ⟨y141, hy141⟩ : ∃ y_ : List Int, y_ = (x4_1.drop (x8_3 : Int).toNat) := ⟨_, rfl⟩
                              replace H : (if y138.length + y141.length < 17592186044416 then ((some (y138 ++ y141 : List Int)).bind fun y145 => ((spec_l01Own.f (x4_1.take (x8_3 : Int).toNat)).bind fun t152 => (if t152.length + y145.length < 17592186044416 then (spec_l04Cycles.l0 k3 l0 (t152 ++ y145) (wrap64 (x5_1 + 1)) x129000_6 x129001_6 x129002_6 x129003_6 x129004_6 x129005_6 x129006_6 x129007_6) else (none)))) else (none)) = some r := by first | (rw [hy141]; with_reducible exact H) | (have H2_ := (Option.bind_some _ _).symm.trans H; rw [hy141]; with_reducible exact H2_) | (have H2_ := (Option.bind_some _ _).symm.trans H; with_reducible exact H2_) | with_reducible exact H | (rw [hy141]; exact H) | exact H
                              have Ny141 := Aside0.mk hy141
                              clear hy141
                              by_cases c57 : y138.length + y141.length < 17592186044416
                              · rw [if_pos c57] at H
                                have LMc57 := Aside0.mk c57
                                clear c57
                                obtain ⟨y145, hy145⟩ : ∃ y_ : List Int, y_ = (y138 ++ y141) := ⟨_, rfl⟩
                                replace H : ((spec_l01Own.f (x4_1.take (x8_3 : Int).toNat)).bind fun t152 => (if t152.length + y145.length < 17592186044416 then (spec_l04Cycles.l0 k3 l0 (t152 ++ y145) (wrap64 (x5_1 + 1)) x129000_6 x129001_6 x129002_6 x129003_6 x129004_6 x129005_6 x129006_6 x129007_6) else (none))) = some r := by first | (rw [hy145]; with_reducible exact H) | (have H2_ := (Option.bind_some _ _).symm.trans H; rw [hy145]; with_reducible exact H2_) | (have H2_ := (Option.bind_some _ _).symm.trans H; with_reducible exact H2_) | with_reducible exact H | (rw [hy145]; exact H) | exact H
                                have Ny145 := Aside0.mk hy145
                                clear hy145
                                have c58b0 := eq_true (of_decide_eq_true mS : 0 ≤ x8_3)
                                have c59b0 := eq_true (of_decide_eq_true mS : x8_3 ≤ (x4_1.length : Int))
                                obtain ⟨y148, hy148⟩ : ∃ y_ : List Int, y_ = (x4_1.take (x8_3 : Int).toNat) := ⟨_, rfl⟩
                                replace H : ((spec_l01Own.f y148).bind fun t152 => (if t152.length + y145.length < 17592186044416 then (spec_l04Cycles.l0 k3 l0 (t152 ++ y145) (wrap64 (x5_1 + 1)) x129000_6 x129001_6 x129002_6 x129003_6 x129004_6 x129005_6 x129006_6 x129007_6) else (none))) = some r := by first | (rw [hy148]; with_reducible exact H) | (have H2_ := (Option.bind_some _ _).symm.trans H; rw [hy148]; with_reducible exact H2_) | (have H2_ := (Option.bind_some _ _).symm.trans H; with_reducible exact H2_) | with_reducible exact H | (rw [hy148]; exact H) | exact H
                                have Ny148 := Aside0.mk hy148
                                clear hy148
                                replace H := Option.bind_eq_some_iff.mp H
                                obtain ⟨t152, A600, H⟩ := H
                                replace H : (if t152.length + y145.length < 17592186044416 then (spec_l04Cycles.l0 k3 l0 (t152 ++ y145) (wrap64 (x5_1 + 1)) x129000_6 x129001_6 x129002_6 x129003_6 x129004_6 x129005_6 x129006_6 x129007_6) else (none)) = some r := H
                                have A60 := Aside0.mk A600
                                clear A600
                                by_cases c61 : t152.length + y145.length < 17592186044416
                                · rw [if_pos c61] at H
                                  have LMc61 := Aside0.mk c61
                                  clear c61
                                  obtain ⟨y155, hy155⟩ : ∃ y_ : List Int, y_ = (t152 ++ y145) := ⟨_, rfl⟩
                                  replace H : (spec_l04Cycles.l0 k3 l0 y155 (wrap64 (x5_1 + 1)) x129000_6 x129001_6 x129002_6 x129003_6 x129004_6 x129005_6 x129006_6 x129007_6) = some r := by first | (rw [hy155]; with_reducible exact H) | (have H2_ := (Option.bind_some _ _).symm.trans H; rw [hy155]; with_reducible exact H2_) | (have H2_ := (Option.bind_some _ _).symm.trans H; with_reducible exact H2_) | with_reducible exact H | (rw [hy155]; exact H) | exact H
                                  have Ny155 := Aside0.mk hy155
                                  clear hy155
                                  have H' := Aside0.mk H
                                  clear H
                                  have p137 : 0 ≤ ((ji50) : Int) := of_decide_eq_true mS
                                  have q137 : (ji50) < (x4_1.length : Int) := of_decide_eq_true mS
                                  obtain ⟨ad137, e137, hx137_0⟩ := Kd.at_int (Kd.R_reads' HO_4.out).2.2 (ji50) p137 q137
                                  cases e137
                                  replace p137 := eq_true p137
                                  replace q137 := eq_true q137
                                  go_wp2_with (first | ((with_reducible refine gate_dst (N := 49) rfl ?_); refine Kd.R_lit (Kd.int .i64) _ 2 ?hg (N := 49) ?hd (xs := ([x6_6] : List Int)) (inner := [.int .i64 x6_6]) (ok := fun _ => True) (okp := fun _ => True) ?hr ?hp (fun _ hk => hk) trivial (Below.refl _ _) (Nat.le_refl _) (by simp) ?_; (case hd => rfl); (case hg => rfl); (case hr => first | (go_simp; done) | (go_simp; rfl)); (case hp => exact (Reps.one (show Kd.M (Kd.int .i64) _ _ _ x6_6 [.int .i64 x6_6] from rfl) (Reps.none _ _))); intro v139 w62 ho63 hb hg_ hnew_; clear hg_ hnew_; (first | rw [← Ny138.out] at ho63 | (simp only [Int.reduceToNat] at ho63; rw [← Ny138.out] at ho63)); have n0_ := Aside0.mk (Kd.R_elder' (mR HO_4.out) (Kd.R_base ho63) hb); have n1_ := Aside0.mk (Kd.R_lower (Kd.R_new' ho63 (Kd.R_lt (mR HO_4.out))) (below_size mB)); have n2_ := Aside0.mk (blk_below (g := gb128) (o := .cells #[.bool x129000_6, .bool x129001_6, .bool x129002_6, .bool x129003_6, .bool x129004_6, .bool x129005_6, .bool x129006_6, .bool x129007_6] 50 (0, 0)) (mk BK128.out) hb); have n3_ := Aside0.mk (below_step mB hb); clear HO_4; clear BK128; clear HB; have HO_4 := n0_; have HO140 := n1_; have BK128 := n2_; have HB := n3_; clear n0_ n1_ n2_ n3_; clear hb ho63; have q64 : (x8_3 : Int) ≤ ((x4_1.length : Int) : Int) := of_decide_eq_true mS; obtain ⟨i064, hi064, _, hsz64, _⟩ := info_parts info2; have hroom64 : x4_1.length ≤ co48 := (Kd.R_reads' HO_4.out).2.1; have hC64 : Kd.C (Kd.int .i64) _ (some ad137) x4_1.length x4_1 := (Kd.R_reads' HO_4.out).2.2; have q064 : (0 : Int) ≤ (x8_3 : Int) := of_decide_eq_true mS; have hcut64 := cut_from (P := Try.prog) 22 2 .i64 Try.underlying22 hi064 1 hsz64 (some ad137) x4_1.length co48 x8_3 q064 q64; have hr64 := Kd.C_drop (m := (x8_3 : Int).toNat) (c := co48) hC64 (by omega) hroom64; obtain ⟨A64, hA64⟩ : ∃ A1, A1 = (if co48 = (x8_3 : Int).toNat then (some ad137) else ((some ad137) : Option Addr).map (·.add ((x8_3 : Int).toNat * 1))) := ⟨_, rfl⟩; obtain ⟨c64, hc64⟩ : ∃ c1, c1 = co48 - (x8_3 : Int).toNat := ⟨_, rfl⟩; have hy64 : y141.length = x4_1.length - (x8_3 : Int).toNat := (by rw [Ny141.out, List.length_drop] <;> omega); rw [show (x4_1).drop (x8_3 : Int).toNat = y141 from Ny141.out.symm] at hr64; replace hr64 : Kd.C (Kd.int .i64) _ A64 y141.length y141 := (by rw [hA64]; exact hr64); rw [← hy64, ← hA64, ← hc64] at hcut64; have HR144 := Aside0.mk hr64; have HC144 := Aside0.mk (show y141.length ≤ c64 from by rw [hy64, hc64]; exact Nat.sub_le_sub_right hroom64 _); clear hr64 hC64 hroom64 hi064 hsz64 hc64; have KY64 := Aside0.mk hy64; have KA64 := Aside0.mk hA64; clear hy64 hA64; have KL64 := Aside0.mk (show (x8_3 : Int).toNat ≤ x4_1.length from by omega); replace q64 := eq_true q64) | ((with_reducible refine gate_builtin (b := .append) (xs := #[.tmp 49, .tmp 52]) rfl ?_); at_builtin; refine Kd.R_append_rows (Kd.int .i64) (w0 := w) w.heap.size rfl (.tmp 49) (.tmp 52) 22 2 (.int .i64 0) 8 rfl Try.underlying22 info2 rfl (by decide) (by omega) v139 y138 y141 _ _ _ (fun k_ => some k_ ≠ (.slice (some ad137) x4_1.length co48 : Value).ownBlock) (fun _ => False) rfl rfl ?aO ?aR (fun _ _ h => h) (fun _ h => h.elim) ?aF ?aB ?aS ?aL ?_; (case aR => repeat (first | exact (by repeat (first | (with_reducible exact HR144.out) | (with_reducible refine Kd.C_alloc ?_ _) | (with_reducible refine Kd.C_drewN ?_ _) | (with_reducible refine Kd.C_drew ?_) | exact HR144.out)) | (with_reducible refine Kd.C_alloc ?_ _) | (with_reducible refine Kd.C_drewN ?_ _) | (with_reducible refine Kd.C_drew ?_))); (case aB => exact mB); (case aF => exact (fun k_ hk => Kd.fresh' (Kd.R_lt (mR HO_4.out)) k_ hk)); (case aO => exact (by (with_reducible repeat (first | apply Kd.R_alloc | apply Kd.R_drewN | apply Kd.R_drew)); exact Kd.R_mono HO140.out (fun _ hk => hk.2))); (case aS => exact (below_size mB)); (case aL => have := LMc57.out; omega); intro v146 w65 ho hb hg hat; rw [← Ny145.out] at ho; have n0_ := Aside0.mk (Kd.R_after (ok := (fun _ => True)) (mR HO_4.out) hg hat); have n1_ := Aside0.mk (blk_grown (g := gb128) (o := .cells #[.bool x129000_6, .bool x129001_6, .bool x129002_6, .bool x129003_6, .bool x129004_6, .bool x129005_6, .bool x129006_6, .bool x129007_6] 50 (0, 0)) (mk BK128.out) hg (Kd.R_ne HO140.out BK128.out (by decide))); have n2_ := Aside0.mk (hb); have n3_ := Aside0.mk ((show Kd.C (Kd.int .i64) w65 A64 y141.length y141 from by rw [Ny141.out, KA64.out]; exact Kd.C_drop (m := (x8_3 : Int).toNat) (c := co48) ((Kd.R_reads' (Kd.R_after (ok := (fun _ => True)) (mR HO_4.out) hg hat)).2.2) KL64.out ((Kd.R_reads' (Kd.R_after (ok := (fun _ => True)) (mR HO_4.out) hg hat)).2.1))); have n4_ := Aside0.mk (ho); clear HO_4; clear BK128; clear HB; clear HR144; clear HO140; have HO_4 := n0_; have BK128 := n1_; have HB := n2_; have HR144 := n3_; have HO147 := n4_; clear n0_ n1_ n2_ n3_ n4_; clear ho hb hg hat; have q66 : (x8_3 : Int) ≤ ((x4_1.length : Int) : Int) := of_decide_eq_true mS; obtain ⟨i066, hi066, _, hsz66, _⟩ := info_parts info2; have hroom66 : x4_1.length ≤ co48 := (Kd.R_reads' HO_4.out).2.1; have hC66 : Kd.C (Kd.int .i64) _ (some ad137) x4_1.length x4_1 := (Kd.R_reads' HO_4.out).2.2; have hcut66 := cut_to (P := Try.prog) 22 2 .i64 Try.underlying22 hi066 (some ad137) x4_1.length co48 x8_3 (of_decide_eq_true mS) q66 hroom66; have hr66 := Kd.C_take (m := (x8_3 : Int).toNat) hC66 (by omega); have hy66 : y148.length = (x8_3 : Int).toNat := (by rw [Ny148.out, List.length_take]; omega); rw [← Ny148.out] at hr66; rw [← hy66] at hcut66; have HR151 := Aside0.mk hr66; have HC151 := Aside0.mk (show y148.length ≤ co48 from by omega); clear hr66 hC66 hroom66 hi066 hsz66; have KY66 := Aside0.mk hy66; clear hy66; have KL66 := Aside0.mk (show (x8_3 : Int).toNat ≤ x4_1.length from by omega); replace q66 := eq_true q66) | ((with_reducible refine gate_callee (f := 35) rfl ?_); refine goL (some 57) Try.func35 #[.slice (some ad137) y148.length co48] (h := ?_); (with_reducible refine (spec_l01Own.calls _ _ y148 t152 _ ?side1 ?side2 A60.out).mono ?_); (case side1 => repeat (first | exact (by repeat (first | (with_reducible exact HR151.out) | (with_reducible refine Kd.C_alloc ?_ _) | (with_reducible refine Kd.C_drewN ?_ _) | (with_reducible refine Kd.C_drew ?_) | exact HR151.out)) | (with_reducible refine Kd.C_alloc ?_ _) | (with_reducible refine Kd.C_drewN ?_ _) | (with_reducible refine Kd.C_drew ?_))); (case side2 => exact HC151.out); rintro e w67 ⟨v153, rfl, ho0, hb⟩; refine ⟨_, rfl, ?_⟩; have n0_ := Aside0.mk (Kd.R_elder' (mR HO_4.out) (Kd.R_base ho0) hb); have n1_ := Aside0.mk (Kd.R_elder' (mR HO147.out) (Kd.R_base ho0) hb); have n2_ := Aside0.mk (Kd.R_lower (Kd.R_new' (Kd.R_new' ho0 (Kd.R_lt (mR HO_4.out))) (Kd.R_lt (mR HO147.out))) (below_size mB)); have n3_ := Aside0.mk (blk_below (g := gb128) (o := .cells #[.bool x129000_6, .bool x129001_6, .bool x129002_6, .bool x129003_6, .bool x129004_6, .bool x129005_6, .bool x129006_6, .bool x129007_6] 50 (0, 0)) (mk BK128.out) hb); have n4_ := Aside0.mk (Kd.C_below (by repeat (first | (with_reducible exact HR144.out) | (with_reducible refine Kd.C_alloc ?_ _) | (with_reducible refine Kd.C_drewN ?_ _) | (with_reducible refine Kd.C_drew ?_) | exact HR144.out)) hb); have n5_ := Aside0.mk (Kd.C_below (by repeat (first | (with_reducible exact HR151.out) | (with_reducible refine Kd.C_alloc ?_ _) | (with_reducible refine Kd.C_drewN ?_ _) | (with_reducible refine Kd.C_drew ?_) | exact HR151.out)) hb); have n6_ := Aside0.mk (below_step mB hb); clear HO_4; clear HO147; clear BK128; clear HR144; clear HR151; clear HB; have HO_4 := n0_; have HO147 := n1_; have HO154 := n2_; have BK128 := n3_; have HR144 := n4_; have HR151 := n5_; have HB := n6_; clear n0_ n1_ n2_ n3_ n4_ n5_ n6_; (try clear hb); (try clear hb2); (try clear hk); (try clear hi); (try clear ho0); obtain ⟨Ao69, co69, eo69⟩ := Kd.R_slice HO147.out; subst eo69) | ((with_reducible refine gate_builtin (b := .append) (xs := #[.tmp 57, .tmp 58]) rfl ?_); at_builtin; refine Kd.R_append_rows (Kd.int .i64) (w0 := w) w.heap.size rfl (.tmp 57) (.tmp 58) 22 2 (.int .i64 0) 8 rfl Try.underlying22 info2 rfl (by decide) (by omega) v153 t152 y145 _ _ _ (fun k_ => some k_ ≠ (.slice (some ad137) x4_1.length co48 : Value).ownBlock ∧ some k_ ≠ (.slice Ao69 y145.length co69 : Value).ownBlock) (fun _ => False) rfl rfl ?aO ?aR (fun _ _ h => h) (fun _ h => h.elim) ?aF ?aB ?aS ?aL ?_; (case aR => repeat (first | exact (Kd.R_reads' HO147.out).2.2 | (with_reducible refine Kd.C_alloc ?_ _) | (with_reducible refine Kd.C_drewN ?_ _) | (with_reducible refine Kd.C_drew ?_))); (case aB => exact mB); (case aF => exact (fun k_ hk => ⟨Kd.fresh' (Kd.R_lt (mR HO_4.out)) k_ hk, Kd.fresh' (Kd.R_lt (mR HO147.out)) k_ hk⟩)); (case aO => exact (by (with_reducible repeat (first | apply Kd.R_alloc | apply Kd.R_drewN | apply Kd.R_drew)); exact Kd.R_mono HO154.out (fun _ hk => ⟨hk.1.2, hk.2⟩))); (case aS => exact (below_size mB)); (case aL => have := LMc61.out; omega); intro v156 w68 ho hb hg hat; rw [← Ny155.out] at ho; have n0_ := Aside0.mk (Kd.R_after (ok := (fun k_ => some k_ ≠ (.slice Ao69 y145.length co69 : Value).ownBlock)) (by (with_reducible repeat (first | apply Kd.R_alloc | apply Kd.R_drewN | apply Kd.R_drew)); exact Kd.R_mono HO_4.out (fun _ hk => ⟨hk.1.2, hk.2⟩)) hg hat); have n1_ := Aside0.mk (blk_grown (g := gb128) (o := .cells #[.bool x129000_6, .bool x129001_6, .bool x129002_6, .bool x129003_6, .bool x129004_6, .bool x129005_6, .bool x129006_6, .bool x129007_6] 50 (0, 0)) (mk BK128.out) hg (Kd.R_ne HO154.out BK128.out (by decide))); have n2_ := Aside0.mk (Kd.R_after (ok := (fun k_ => some k_ ≠ (.slice (some ad137) x4_1.length co48 : Value).ownBlock)) (mR HO147.out) hg hat); have n3_ := Aside0.mk (hb); have n4_ := Aside0.mk ((show Kd.C (Kd.int .i64) w68 A64 y141.length y141 from by rw [Ny141.out, KA64.out]; exact Kd.C_drop (m := (x8_3 : Int).toNat) (c := co48) ((Kd.R_reads' (Kd.R_after (ok := (fun k_ => some k_ ≠ (.slice Ao69 y145.length co69 : Value).ownBlock)) (by (with_reducible repeat (first | apply Kd.R_alloc | apply Kd.R_drewN | apply Kd.R_drew)); exact Kd.R_mono HO_4.out (fun _ hk => ⟨hk.1.2, hk.2⟩)) hg hat)).2.2) KL64.out ((Kd.R_reads' (Kd.R_after (ok := (fun k_ => some k_ ≠ (.slice Ao69 y145.length co69 : Value).ownBlock)) (by (with_reducible repeat (first | apply Kd.R_alloc | apply Kd.R_drewN | apply Kd.R_drew)); exact Kd.R_mono HO_4.out (fun _ hk => ⟨hk.1.2, hk.2⟩)) hg hat)).2.1))); have n5_ := Aside0.mk ((show Kd.C (Kd.int .i64) w68 (some ad137) y148.length y148 from by rw [Ny148.out]; exact Kd.C_take (m := (x8_3 : Int).toNat) ((Kd.R_reads' (Kd.R_after (ok := (fun k_ => some k_ ≠ (.slice Ao69 y145.length co69 : Value).ownBlock)) (by (with_reducible repeat (first | apply Kd.R_alloc | apply Kd.R_drewN | apply Kd.R_drew)); exact Kd.R_mono HO_4.out (fun _ hk => ⟨hk.1.2, hk.2⟩)) hg hat)).2.2) KL66.out)); have n6_ := Aside0.mk (ho); clear HO_4; clear BK128; clear HO147; clear HB; clear HR144; clear HR151; clear HO154; have HO_4 := n0_; have BK128 := n1_; have HO147 := n2_; have HB := n3_; have HR144 := n4_; have HR151 := n5_; have HO157 := n6_; clear n0_ n1_ n2_ n3_ n4_ n5_ n6_; clear ho hb hg hat))
                                  go_roundg k3
                                  case measure => have := HK1.out; have := HJ6.out; have := HK3.out; omega
                                  case rel => exact ⟨(y155), (wrap64 (x5_1 + 1)), (x129000_6), (x129001_6), (x129002_6), (x129003_6), (x129004_6), (x129005_6), (x129006_6), (x129007_6), mF, H', ⟨by have := HK1.out; have := HJ6.out; have := HK3.out; omega⟩, ⟨by (with_reducible repeat (first | apply Kd.R_alloc | apply Kd.R_drewN | apply Kd.R_drew)); exact Kd.R_mono HO157.out (fun _ hk => trivial)⟩, ⟨by (with_reducible repeat (first | refine blk_drewN ?_ _ | refine blk_drew ?_ | refine blk_alloc ?_ _)); exact BK128.out⟩, ⟨mB⟩⟩
                                · rw [if_neg c61] at H
                                  exact absurd H (by simp)
                              · rw [if_neg c57] at H
                                exact absurd H (by simp)
                            · rw [if_neg c56] at H
                              exact absurd H (by simp)
                          · rw [if_neg c55] at H
                            exact absurd H (by simp)
                        · rw [if_neg c54] at H
                          have c54b0 : decide (0 < x6_6) = false := decide_eq_false c54
                          clear c54
                          have H' := Aside0.mk H
                          clear H
                          have p137 : 0 ≤ ((ji50) : Int) := of_decide_eq_true mS
                          have q137 : (ji50) < (x4_1.length : Int) := of_decide_eq_true mS
                          obtain ⟨ad137, e137, hx137_0⟩ := Kd.at_int (Kd.R_reads' HO_4.out).2.2 (ji50) p137 q137
                          cases e137
                          replace p137 := eq_true p137
                          replace q137 := eq_true q137
                          go_wp2
                          go_roundg k3
                          case measure => have := HK1.out; have := HJ6.out; have := HK3.out; omega
                          case rel => exact ⟨(x4_1), (wrap64 (x5_1 + 1)), (x129000_6), (x129001_6), (x129002_6), (x129003_6), (x129004_6), (x129005_6), (x129006_6), (x129007_6), mF, H', ⟨by have := HK1.out; have := HJ6.out; have := HK3.out; omega⟩, ⟨mR HO_4.out⟩, ⟨by (with_reducible repeat (first | refine blk_drewN ?_ _ | refine blk_drew ?_ | refine blk_alloc ?_ _)); exact BK128.out⟩, ⟨mB⟩⟩
                    · rw [if_neg c52] at H
                      exact absurd H (by simp)
                  · rw [if_neg c51] at H
                    exact absurd H (by simp)
                · rw [if_neg c49] at H
                  have c49b0 : decide (0 < x8_3) = false := decide_eq_false c49
                  clear c49
                  by_cases c70 : x6_6 > 0
                  · rw [if_pos c70] at H
                    have c70b0 : decide (0 < x6_6) = true := decide_eq_true c70
                    clear c70
                    obtain ⟨y158, hy158⟩ : ∃ y_ : List Int, y_ = (([x6_6] : List Int)) := ⟨_, rfl⟩
                    replace H : (if 0 ≤ x8_3 then (if x8_3 ≤ (x4_1.length : Int) then ((some (x4_1.drop (x8_3 : Int).toNat : List Int)).bind fun y161 => (if y158.length + y161.length < 17592186044416 then ((some (y158 ++ y161 : List Int)).bind fun y165 => ((spec_l01Own.f (x4_1.take (x8_3 : Int).toNat)).bind fun t172 => (if t172.length + y165.length < 17592186044416 then (spec_l04Cycles.l0 k3 l0 (t172 ++ y165) (wrap64 (x5_1 + 1)) x129000_6 x129001_6 x129002_6 x129003_6 x129004_6 x129005_6 x129006_6 x129007_6) else (none)))) else (none))) else (none)) else (none)) = some r := by first | (rw [hy158]; with_reducible exact H) | (have H2_ := (Option.bind_some _ _).symm.trans H; rw [hy158]; with_reducible exact H2_) | (have H2_ := (Option.bind_some _ _).symm.trans H; with_reducible exact H2_) | with_reducible exact H | (rw [hy158]; exact H) | exact H
                    have Ny158 := Aside0.mk hy158
                    clear hy158
                    by_cases c71 : 0 ≤ x8_3
                    · rw [if_pos c71] at H
                      have c71b0 := eq_true c71
                      have c71b1 : decide (0 ≤ x8_3) = true := decide_eq_true c71
                      clear c71
                      by_cases c72 : x8_3 ≤ (x4_1.length : Int)
                      · rw [if_pos c72] at H
                        have c72b0 := eq_true c72
                        have c72b1 : decide (x8_3 ≤ (x4_1.length : Int)) = true := decide_eq_true c72
                        clear c72
                        obtain ⟨y161, hy161⟩ : ∃ y_ : List Int, y_ = (x4_1.drop (x8_3 : Int).toNat) := ⟨_, rfl⟩
                        replace H : (if y158.length + y161.length < 17592186044416 then ((some (y158 ++ y161 : List Int)).bind fun y165 => ((spec_l01Own.f (x4_1.take (x8_3 : Int).toNat)).bind fun t172 => (if t172.length + y165.length < 17592186044416 then (spec_l04Cycles.l0 k3 l0 (t172 ++ y165) (wrap64 (x5_1 + 1)) x129000_6 x129001_6 x129002_6 x129003_6 x129004_6 x129005_6 x129006_6 x129007_6) else (none)))) else (none)) = some r := by first | (rw [hy161]; with_reducible exact H) | (have H2_ := (Option.bind_some _ _).symm.trans H; rw [hy161]; with_reducible exact H2_) | (have H2_ := (Option.bind_some _ _).symm.trans H; with_reducible exact H2_) | with_reducible exact H | (rw [hy161]; exact H) | exact H
                        have Ny161 := Aside0.mk hy161
                        clear hy161
                        by_cases c73 : y158.length + y161.length < 17592186044416
                        · rw [if_pos c73] at H
                          have LMc73 := Aside0.mk c73
                          clear c73
                          obtain ⟨y165, hy165⟩ : ∃ y_ : List Int, y_ = (y158 ++ y161) := ⟨_, rfl⟩
                          replace H : ((spec_l01Own.f (x4_1.take (x8_3 : Int).toNat)).bind fun t172 => (if t172.length + y165.length < 17592186044416 then (spec_l04Cycles.l0 k3 l0 (t172 ++ y165) (wrap64 (x5_1 + 1)) x129000_6 x129001_6 x129002_6 x129003_6 x129004_6 x129005_6 x129006_6 x129007_6) else (none))) = some r := by first | (rw [hy165]; with_reducible exact H) | (have H2_ := (Option.bind_some _ _).symm.trans H; rw [hy165]; with_reducible exact H2_) | (have H2_ := (Option.bind_some _ _).symm.trans H; with_reducible exact H2_) | with_reducible exact H | (rw [hy165]; exact H) | exact H
                          have Ny165 := Aside0.mk hy165
                          clear hy165
                          have c74b0 := eq_true (of_decide_eq_true mS : 0 ≤ x8_3)
                          have c75b0 := eq_true (of_decide_eq_true mS : x8_3 ≤ (x4_1.length : Int))
                          obtain ⟨y168, hy168⟩ : ∃ y_ : List Int, y_ = (x4_1.take (x8_3 : Int).toNat) := ⟨_, rfl⟩
                          replace H : ((spec_l01Own.f y168).bind fun t172 => (if t172.length + y165.length < 17592186044416 then (spec_l04Cycles.l0 k3 l0 (t172 ++ y165) (wrap64 (x5_1 + 1)) x129000_6 x129001_6 x129002_6 x129003_6 x129004_6 x129005_6 x129006_6 x129007_6) else (none))) = some r := by first | (rw [hy168]; with_reducible exact H) | (have H2_ := (Option.bind_some _ _).symm.trans H; rw [hy168]; with_reducible exact H2_) | (have H2_ := (Option.bind_some _ _).symm.trans H; with_reducible exact H2_) | with_reducible exact H | (rw [hy168]; exact H) | exact H
                          have Ny168 := Aside0.mk hy168
                          clear hy168
                          replace H := Option.bind_eq_some_iff.mp H
                          obtain ⟨t172, A760, H⟩ := H
                          replace H : (if t172.length + y165.length < 17592186044416 then (spec_l04Cycles.l0 k3 l0 (t172 ++ y165) (wrap64 (x5_1 + 1)) x129000_6 x129001_6 x129002_6 x129003_6 x129004_6 x129005_6 x129006_6 x129007_6) else (none)) = some r := H
                          have A76 := Aside0.mk A760
                          clear A760
                          by_cases c77 : t172.length + y165.length < 17592186044416
                          · rw [if_pos c77] at H
                            have LMc77 := Aside0.mk c77
                            clear c77
                            obtain ⟨y175, hy175⟩ : ∃ y_ : List Int, y_ = (t172 ++ y165) := ⟨_, rfl⟩
                            replace H : (spec_l04Cycles.l0 k3 l0 y175 (wrap64 (x5_1 + 1)) x129000_6 x129001_6 x129002_6 x129003_6 x129004_6 x129005_6 x129006_6 x129007_6) = some r := by first | (rw [hy175]; with_reducible exact H) | (have H2_ := (Option.bind_some _ _).symm.trans H; rw [hy175]; with_reducible exact H2_) | (have H2_ := (Option.bind_some _ _).symm.trans H; with_reducible exact H2_) | with_reducible exact H | (rw [hy175]; exact H) | exact H
                            have Ny175 := Aside0.mk hy175
                            clear hy175
                            have H' := Aside0.mk H
                            clear H
                            go_wp2_with (first | ((with_reducible refine gate_dst (N := 49) rfl ?_); refine Kd.R_lit (Kd.int .i64) _ 2 ?hg (N := 49) ?hd (xs := ([x6_6] : List Int)) (inner := [.int .i64 x6_6]) (ok := fun _ => True) (okp := fun _ => True) ?hr ?hp (fun _ hk => hk) trivial (Below.refl _ _) (Nat.le_refl _) (by simp) ?_; (case hd => rfl); (case hg => rfl); (case hr => first | (go_simp; done) | (go_simp; rfl)); (case hp => exact (Reps.one (show Kd.M (Kd.int .i64) _ _ _ x6_6 [.int .i64 x6_6] from rfl) (Reps.none _ _))); intro v159 w78 ho79 hb hg_ hnew_; clear hg_ hnew_; (first | rw [← Ny158.out] at ho79 | (simp only [Int.reduceToNat] at ho79; rw [← Ny158.out] at ho79)); have n0_ := Aside0.mk (Kd.R_elder' (mR HO_4.out) (Kd.R_base ho79) hb); have n1_ := Aside0.mk (Kd.R_lower (Kd.R_new' ho79 (Kd.R_lt (mR HO_4.out))) (below_size mB)); have n2_ := Aside0.mk (blk_below (g := gb128) (o := .cells #[.bool x129000_6, .bool x129001_6, .bool x129002_6, .bool x129003_6, .bool x129004_6, .bool x129005_6, .bool x129006_6, .bool x129007_6] 50 (0, 0)) (mk BK128.out) hb); have n3_ := Aside0.mk (below_step mB hb); clear HO_4; clear BK128; clear HB; have HO_4 := n0_; have HO160 := n1_; have BK128 := n2_; have HB := n3_; clear n0_ n1_ n2_ n3_; clear hb ho79; have q80 : (x8_3 : Int) ≤ ((x4_1.length : Int) : Int) := of_decide_eq_true mS; obtain ⟨i080, hi080, _, hsz80, _⟩ := info_parts info2; have hroom80 : x4_1.length ≤ co48 := (Kd.R_reads' HO_4.out).2.1; have hC80 : Kd.C (Kd.int .i64) _ Ao48 x4_1.length x4_1 := (Kd.R_reads' HO_4.out).2.2; have q080 : (0 : Int) ≤ (x8_3 : Int) := of_decide_eq_true mS; have hcut80 := cut_from (P := Try.prog) 22 2 .i64 Try.underlying22 hi080 1 hsz80 Ao48 x4_1.length co48 x8_3 q080 q80; have hr80 := Kd.C_drop (m := (x8_3 : Int).toNat) (c := co48) hC80 (by omega) hroom80; obtain ⟨A80, hA80⟩ : ∃ A1, A1 = (if co48 = (x8_3 : Int).toNat then Ao48 else (Ao48 : Option Addr).map (·.add ((x8_3 : Int).toNat * 1))) := ⟨_, rfl⟩; obtain ⟨c80, hc80⟩ : ∃ c1, c1 = co48 - (x8_3 : Int).toNat := ⟨_, rfl⟩; have hy80 : y161.length = x4_1.length - (x8_3 : Int).toNat := (by rw [Ny161.out, List.length_drop] <;> omega); rw [show (x4_1).drop (x8_3 : Int).toNat = y161 from Ny161.out.symm] at hr80; replace hr80 : Kd.C (Kd.int .i64) _ A80 y161.length y161 := (by rw [hA80]; exact hr80); rw [← hy80, ← hA80, ← hc80] at hcut80; have HR164 := Aside0.mk hr80; have HC164 := Aside0.mk (show y161.length ≤ c80 from by rw [hy80, hc80]; exact Nat.sub_le_sub_right hroom80 _); clear hr80 hC80 hroom80 hi080 hsz80 hc80; have KY80 := Aside0.mk hy80; have KA80 := Aside0.mk hA80; clear hy80 hA80; have KL80 := Aside0.mk (show (x8_3 : Int).toNat ≤ x4_1.length from by omega); replace q80 := eq_true q80) | ((with_reducible refine gate_builtin (b := .append) (xs := #[.tmp 49, .tmp 52]) rfl ?_); at_builtin; refine Kd.R_append_rows (Kd.int .i64) (w0 := w) w.heap.size rfl (.tmp 49) (.tmp 52) 22 2 (.int .i64 0) 8 rfl Try.underlying22 info2 rfl (by decide) (by omega) v159 y158 y161 _ _ _ (fun k_ => some k_ ≠ (.slice Ao48 x4_1.length co48 : Value).ownBlock) (fun _ => False) rfl rfl ?aO ?aR (fun _ _ h => h) (fun _ h => h.elim) ?aF ?aB ?aS ?aL ?_; (case aR => repeat (first | exact (by repeat (first | (with_reducible exact HR164.out) | (with_reducible refine Kd.C_alloc ?_ _) | (with_reducible refine Kd.C_drewN ?_ _) | (with_reducible refine Kd.C_drew ?_) | exact HR164.out)) | (with_reducible refine Kd.C_alloc ?_ _) | (with_reducible refine Kd.C_drewN ?_ _) | (with_reducible refine Kd.C_drew ?_))); (case aB => exact mB); (case aF => exact (fun k_ hk => Kd.fresh' (Kd.R_lt (mR HO_4.out)) k_ hk)); (case aO => exact (by (with_reducible repeat (first | apply Kd.R_alloc | apply Kd.R_drewN | apply Kd.R_drew)); exact Kd.R_mono HO160.out (fun _ hk => hk.2))); (case aS => exact (below_size mB)); (case aL => have := LMc73.out; omega); intro v166 w81 ho hb hg hat; rw [← Ny165.out] at ho; have n0_ := Aside0.mk (Kd.R_after (ok := (fun _ => True)) (mR HO_4.out) hg hat); have n1_ := Aside0.mk (blk_grown (g := gb128) (o := .cells #[.bool x129000_6, .bool x129001_6, .bool x129002_6, .bool x129003_6, .bool x129004_6, .bool x129005_6, .bool x129006_6, .bool x129007_6] 50 (0, 0)) (mk BK128.out) hg (Kd.R_ne HO160.out BK128.out (by decide))); have n2_ := Aside0.mk (hb); have n3_ := Aside0.mk ((show Kd.C (Kd.int .i64) w81 A80 y161.length y161 from by rw [Ny161.out, KA80.out]; exact Kd.C_drop (m := (x8_3 : Int).toNat) (c := co48) ((Kd.R_reads' (Kd.R_after (ok := (fun _ => True)) (mR HO_4.out) hg hat)).2.2) KL80.out ((Kd.R_reads' (Kd.R_after (ok := (fun _ => True)) (mR HO_4.out) hg hat)).2.1))); have n4_ := Aside0.mk (ho); clear HO_4; clear BK128; clear HB; clear HR164; clear HO160; have HO_4 := n0_; have BK128 := n1_; have HB := n2_; have HR164 := n3_; have HO167 := n4_; clear n0_ n1_ n2_ n3_ n4_; clear ho hb hg hat; have q82 : (x8_3 : Int) ≤ ((x4_1.length : Int) : Int) := of_decide_eq_true mS; obtain ⟨i082, hi082, _, hsz82, _⟩ := info_parts info2; have hroom82 : x4_1.length ≤ co48 := (Kd.R_reads' HO_4.out).2.1; have hC82 : Kd.C (Kd.int .i64) _ Ao48 x4_1.length x4_1 := (Kd.R_reads' HO_4.out).2.2; have hcut82 := cut_to (P := Try.prog) 22 2 .i64 Try.underlying22 hi082 Ao48 x4_1.length co48 x8_3 (of_decide_eq_true mS) q82 hroom82; have hr82 := Kd.C_take (m := (x8_3 : Int).toNat) hC82 (by omega); have hy82 : y168.length = (x8_3 : Int).toNat := (by rw [Ny168.out, List.length_take]; omega); rw [← Ny168.out] at hr82; rw [← hy82] at hcut82; have HR171 := Aside0.mk hr82; have HC171 := Aside0.mk (show y168.length ≤ co48 from by omega); clear hr82 hC82 hroom82 hi082 hsz82; have KY82 := Aside0.mk hy82; clear hy82; have KL82 := Aside0.mk (show (x8_3 : Int).toNat ≤ x4_1.length from by omega); replace q82 := eq_true q82) | ((with_reducible refine gate_callee (f := 35) rfl ?_); refine goL (some 57) Try.func35 #[.slice Ao48 y168.length co48] (h := ?_); (with_reducible refine (spec_l01Own.calls _ _ y168 t172 _ ?side1 ?side2 A76.out).mono ?_); (case side1 => repeat (first | exact (by repeat (first | (with_reducible exact HR171.out) | (with_reducible refine Kd.C_alloc ?_ _) | (with_reducible refine Kd.C_drewN ?_ _) | (with_reducible refine Kd.C_drew ?_) | exact HR171.out)) | (with_reducible refine Kd.C_alloc ?_ _) | (with_reducible refine Kd.C_drewN ?_ _) | (with_reducible refine Kd.C_drew ?_))); (case side2 => exact HC171.out); rintro e w83 ⟨v173, rfl, ho0, hb⟩; refine ⟨_, rfl, ?_⟩; have n0_ := Aside0.mk (Kd.R_elder' (mR HO_4.out) (Kd.R_base ho0) hb); have n1_ := Aside0.mk (Kd.R_elder' (mR HO167.out) (Kd.R_base ho0) hb); have n2_ := Aside0.mk (Kd.R_lower (Kd.R_new' (Kd.R_new' ho0 (Kd.R_lt (mR HO_4.out))) (Kd.R_lt (mR HO167.out))) (below_size mB)); have n3_ := Aside0.mk (blk_below (g := gb128) (o := .cells #[.bool x129000_6, .bool x129001_6, .bool x129002_6, .bool x129003_6, .bool x129004_6, .bool x129005_6, .bool x129006_6, .bool x129007_6] 50 (0, 0)) (mk BK128.out) hb); have n4_ := Aside0.mk (Kd.C_below (by repeat (first | (with_reducible exact HR164.out) | (with_reducible refine Kd.C_alloc ?_ _) | (with_reducible refine Kd.C_drewN ?_ _) | (with_reducible refine Kd.C_drew ?_) | exact HR164.out)) hb); have n5_ := Aside0.mk (Kd.C_below (by repeat (first | (with_reducible exact HR171.out) | (with_reducible refine Kd.C_alloc ?_ _) | (with_reducible refine Kd.C_drewN ?_ _) | (with_reducible refine Kd.C_drew ?_) | exact HR171.out)) hb); have n6_ := Aside0.mk (below_step mB hb); clear HO_4; clear HO167; clear BK128; clear HR164; clear HR171; clear HB; have HO_4 := n0_; have HO167 := n1_; have HO174 := n2_; have BK128 := n3_; have HR164 := n4_; have HR171 := n5_; have HB := n6_; clear n0_ n1_ n2_ n3_ n4_ n5_ n6_; (try clear hb); (try clear hb2); (try clear hk); (try clear hi); (try clear ho0); obtain ⟨Ao85, co85, eo85⟩ := Kd.R_slice HO167.out; subst eo85) | ((with_reducible refine gate_builtin (b := .append) (xs := #[.tmp 57, .tmp 58]) rfl ?_); at_builtin; refine Kd.R_append_rows (Kd.int .i64) (w0 := w) w.heap.size rfl (.tmp 57) (.tmp 58) 22 2 (.int .i64 0) 8 rfl Try.underlying22 info2 rfl (by decide) (by omega) v173 t172 y165 _ _ _ (fun k_ => some k_ ≠ (.slice Ao48 x4_1.length co48 : Value).ownBlock ∧ some k_ ≠ (.slice Ao85 y165.length co85 : Value).ownBlock) (fun _ => False) rfl rfl ?aO ?aR (fun _ _ h => h) (fun _ h => h.elim) ?aF ?aB ?aS ?aL ?_; (case aR => repeat (first | exact (Kd.R_reads' HO167.out).2.2 | (with_reducible refine Kd.C_alloc ?_ _) | (with_reducible refine Kd.C_drewN ?_ _) | (with_reducible refine Kd.C_drew ?_))); (case aB => exact mB); (case aF => exact (fun k_ hk => ⟨Kd.fresh' (Kd.R_lt (mR HO_4.out)) k_ hk, Kd.fresh' (Kd.R_lt (mR HO167.out)) k_ hk⟩)); (case aO => exact (by (with_reducible repeat (first | apply Kd.R_alloc | apply Kd.R_drewN | apply Kd.R_drew)); exact Kd.R_mono HO174.out (fun _ hk => ⟨hk.1.2, hk.2⟩))); (case aS => exact (below_size mB)); (case aL => have := LMc77.out; omega); intro v176 w84 ho hb hg hat; rw [← Ny175.out] at ho; have n0_ := Aside0.mk (Kd.R_after (ok := (fun k_ => some k_ ≠ (.slice Ao85 y165.length co85 : Value).ownBlock)) (by (with_reducible repeat (first | apply Kd.R_alloc | apply Kd.R_drewN | apply Kd.R_drew)); exact Kd.R_mono HO_4.out (fun _ hk => ⟨hk.1.2, hk.2⟩)) hg hat); have n1_ := Aside0.mk (blk_grown (g := gb128) (o := .cells #[.bool x129000_6, .bool x129001_6, .bool x129002_6, .bool x129003_6, .bool x129004_6, .bool x129005_6, .bool x129006_6, .bool x129007_6] 50 (0, 0)) (mk BK128.out) hg (Kd.R_ne HO174.out BK128.out (by decide))); have n2_ := Aside0.mk (Kd.R_after (ok := (fun k_ => some k_ ≠ (.slice Ao48 x4_1.length co48 : Value).ownBlock)) (mR HO167.out) hg hat); have n3_ := Aside0.mk (hb); have n4_ := Aside0.mk ((show Kd.C (Kd.int .i64) w84 A80 y161.length y161 from by rw [Ny161.out, KA80.out]; exact Kd.C_drop (m := (x8_3 : Int).toNat) (c := co48) ((Kd.R_reads' (Kd.R_after (ok := (fun k_ => some k_ ≠ (.slice Ao85 y165.length co85 : Value).ownBlock)) (by (with_reducible repeat (first | apply Kd.R_alloc | apply Kd.R_drewN | apply Kd.R_drew)); exact Kd.R_mono HO_4.out (fun _ hk => ⟨hk.1.2, hk.2⟩)) hg hat)).2.2) KL80.out ((Kd.R_reads' (Kd.R_after (ok := (fun k_ => some k_ ≠ (.slice Ao85 y165.length co85 : Value).ownBlock)) (by (with_reducible repeat (first | apply Kd.R_alloc | apply Kd.R_drewN | apply Kd.R_drew)); exact Kd.R_mono HO_4.out (fun _ hk => ⟨hk.1.2, hk.2⟩)) hg hat)).2.1))); have n5_ := Aside0.mk ((show Kd.C (Kd.int .i64) w84 Ao48 y168.length y168 from by rw [Ny168.out]; exact Kd.C_take (m := (x8_3 : Int).toNat) ((Kd.R_reads' (Kd.R_after (ok := (fun k_ => some k_ ≠ (.slice Ao85 y165.length co85 : Value).ownBlock)) (by (with_reducible repeat (first | apply Kd.R_alloc | apply Kd.R_drewN | apply Kd.R_drew)); exact Kd.R_mono HO_4.out (fun _ hk => ⟨hk.1.2, hk.2⟩)) hg hat)).2.2) KL82.out)); have n6_ := Aside0.mk (ho); clear HO_4; clear BK128; clear HO167; clear HB; clear HR164; clear HR171; clear HO174; have HO_4 := n0_; have BK128 := n1_; have HO167 := n2_; have HB := n3_; have HR164 := n4_; have HR171 := n5_; have HO177 := n6_; clear n0_ n1_ n2_ n3_ n4_ n5_ n6_; clear ho hb hg hat))
                            go_roundg k3
                            case measure => have := HK1.out; have := HJ6.out; have := HK3.out; omega
                            case rel => exact ⟨(y175), (wrap64 (x5_1 + 1)), (x129000_6), (x129001_6), (x129002_6), (x129003_6), (x129004_6), (x129005_6), (x129006_6), (x129007_6), mF, H', ⟨by have := HK1.out; have := HJ6.out; have := HK3.out; omega⟩, ⟨by (with_reducible repeat (first | apply Kd.R_alloc | apply Kd.R_drewN | apply Kd.R_drew)); exact Kd.R_mono HO177.out (fun _ hk => trivial)⟩, ⟨by (with_reducible repeat (first | refine blk_drewN ?_ _ | refine blk_drew ?_ | refine blk_alloc ?_ _)); exact BK128.out⟩, ⟨mB⟩⟩
                          · rw [if_neg c77] at H
                            exact absurd H (by simp)
                        · rw [if_neg c73] at H
                          exact absurd H (by simp)
                      · rw [if_neg c72] at H
                        exact absurd H (by simp)
                    · rw [if_neg c71] at H
                      exact absurd H (by simp)
                  · rw [if_neg c70] at H
                    have c70b0 : decide (0 < x6_6) = false := decide_eq_false c70
                    clear c70
                    have H' := Aside0.mk H
                    clear H
                    go_wp2
                    go_roundg k3
                    case measure => have := HK1.out; have := HJ6.out; have := HK3.out; omega
                    case rel => exact ⟨(x4_1), (wrap64 (x5_1 + 1)), (x129000_6), (x129001_6), (x129002_6), (x129003_6), (x129004_6), (x129005_6), (x129006_6), (x129007_6), mF, H', ⟨by have := HK1.out; have := HJ6.out; have := HK3.out; omega⟩, ⟨mR HO_4.out⟩, ⟨by (with_reducible repeat (first | refine blk_drewN ?_ _ | refine blk_drew ?_ | refine blk_alloc ?_ _)); exact BK128.out⟩, ⟨mB⟩⟩
      · rw [if_neg c6] at H
        have c6b0 : decide (x5_1 < (l0.length : Int)) = false := decide_eq_false c6
        clear c6
        obtain rfl := Option.some.inj H
        go_wp2
        go_ret
        exact ⟨_, mE, mR HO_4.out, mB⟩

end Go.Proofs.Ytpegpdcdcfcgdaa.EFnExactCountingSeries
