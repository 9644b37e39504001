/- The functions that the law uses, as plain functions, and that the code comes to what they say. -/
import Derived.Test.YtpeihdjefpnoaaaEFnExactFreeNumberx0
import Derived.Test.YtpeihdjefpnoaaaEFnExactFreeNumberx1
namespace Go.Proofs.Ytpeihdjefpnoaaa.EFnExactFreeNumber
open Go.RowKit Go.Proofs.YtpeihdjefpnoaaaW.PrintWords Go.Proofs.YtpeihdjefpnoaaaW.PrintLast Go.Proofs.YtpeihdjefpnoaaaW.PrintMore Go.Proofs.YtpeihdjefpnoaaaX
attribute [local go_sem] max2_int min2_int max_two min_two max_three min_three max_four min_four   -- for this text's walks alone
set_option linter.unusedVariables false
set_option linter.unusedSimpArgs false

/-! ### spec_l01Even: function 47 -/
def spec_l01Even.f (a0_0 : Int) (a0_1 : Int) (l0_2 : List (S66)) : Option (Bool) := if (l0_2.length : Int) = 0 then (some true) else (if 0 < (l0_2.length : Int) then ((spec_l01Sum.f ((rd_T66 l0_2 0).f0.f0) ((rd_T66 l0_2 0).f0.f1) ((rd_T66 l0_2 0).f0.f2)).bind fun t128 => ((spec_l01Degree.f a0_0 a0_1 l0_2).bind fun t129 => (some (t128 == t129)))) else (none))
def spec_l01Even.T1 : Bool × List (List Nat × List Nat) := (true, [([], []), ([0], [0]), ([1], [1]), ([2], [2]), ([3], [3]), ([4], [4]), ([5, 4], [4, 5]), ([6, 4], [4, 6]), ([7, 4], [4, 7]), ([8, 4], [4, 8]), ([9, 4, 4], [4, 9]), ([4], [4]), ([11, 10, 4], [4, 11]), ([10, 12, 4], [4, 10, 12]), ([4, 13], [4, 13]), ([14, 12, 0, 1, 2, 3, 4, 5, 6, 7, 8, 9, 10, 11, 12, 13, 14], [14])])
def spec_l01Even.B1 : List Nat := [0, 1, 3, 7, 15, 31, 63, 127, 255, 511, 1023, 31, 4095, 8191, 16383, 32767]
theorem spec_l01Even.tab1 : rtab .any (opsOf Try.f47 1) = spec_l01Even.T1 := by kernel_rfl
theorem spec_l01Even.bits1 : waitsOk spec_l01Even.T1.2 spec_l01Even.B1 = true := by kernel_rfl
set_option maxHeartbeats 8000000 in
set_option maxRecDepth 100000 in
theorem spec_l01Even.calls (a0_0 : Int) (a0_1 : Int) (A0_2 : Option Addr) (c0_2 : Nat) (l0_2 : List (S66)) (r : Bool) (w : World) (hr0_2 : Kd.C k66 w A0_2 l0_2.length l0_2) (hc0_2 : l0_2.length ≤ c0_2) (h : spec_l01Even.f a0_0 a0_1 l0_2 = some r) :
    Calls Try.prog 47 #[.agg #[.int .i64 a0_0, .int .i64 a0_1, .slice A0_2 l0_2.length c0_2]] w fun e w' => e = .returned (.bool r) ∧ Below w.heap.size w w' := by
  have hu44 := Try.underlying44
  have hu64 := Try.underlying64
  have HR0_2 := Aside0.mk hr0_2
  have HC0_2 := Aside0.mk hc0_2
  clear hr0_2 hc0_2
  have HB := Aside0.mk (Below.refl w.heap.size w)
  have H : (if (l0_2.length : Int) = 0 then (some true) else (if 0 < (l0_2.length : Int) then ((spec_l01Sum.f ((rd_T66 l0_2 0).f0.f0) ((rd_T66 l0_2 0).f0.f1) ((rd_T66 l0_2 0).f0.f2)).bind fun t128 => ((spec_l01Degree.f a0_0 a0_1 l0_2).bind fun t129 => (some (t128 == t129)))) else (none))) = some r := h
  clear h
  by_cases c2 : (l0_2.length : Int) = 0
  · rw [if_pos c2] at H
    have c2b0 : ((l0_2.length : Int) == 0) = true := beq_iff_eq.mpr c2
    have c2b1 : ((l0_2.length : Int) != 0) = false := bne_eq_false_iff_eq.mpr c2
    clear c2
    obtain rfl := Option.some.inj H
    go_enter Try.func47, Try.ntmps47
    try go_wp2_with (first | ((with_reducible refine gate_dst (N := 1) rfl ?_); refine box_event ?hg (N := 1) ?hd (cs := #[.int .i64 a0_0, .int .i64 a0_1, .slice A0_2 l0_2.length c0_2]) (t := 44) ?hr ?_; (case hd => rfl); (case hg => rfl); (case hr => first | (go_simp; done) | (go_simp; rfl)); intro gb126 hg w3 hbox hb; have n0_ := Aside0.mk (below_step mB hb); have n1_ := Aside0.mk (hbox); have n2_ := Aside0.mk ((mG : w.heap.size ≤ gb126)); have n3_ := Aside0.mk ((mG : w.heap.size ≤ gb126)); clear HB; have HB := n0_; have BK126 := n1_; have GW126 := n2_; have GE126 := n3_; clear n0_ n1_ n2_ n3_; clear hb hbox hg))
    have n0_ := Aside0.mk (blk_drew BK126.out)
    have n1_ := Aside0.mk (below_drew1 HB.out)
    clear BK126
    clear HB
    have BK126 := n0_
    have HB := n1_
    clear n0_ n1_
    refine start_ (n := 16) (S := fun w' => w'.cell? ⟨gb126, 0, none⟩ = some (.int .i64 a0_0) ∧ w'.cell? ⟨gb126, 1, none⟩ = some (.int .i64 a0_1) ∧ w'.cell? ⟨gb126, 2, none⟩ = some (.slice A0_2 l0_2.length c0_2)) (ds := []) #[false, false, false, false, false, false, false, false, false, false, false, false, false, false, false, false] (by kernel_rfl) rfl rfl ⟨(blk_cell BK126.out 0).trans rfl, (blk_cell BK126.out 1).trans rfl, (blk_cell BK126.out 2).trans rfl⟩ (fun hHeld => ?_); refine with_tabW spec_l01Even.tab1 spec_l01Even.bits1 (fun HT_ HW_ => ?_)
    generalize w3.drew = w4 at BK126 HB hHeld ⊢
    refine pu 0 3 HT_ (h := ?_)
    refine ta 1 4 HT_ HW_ hHeld (hy := by rintro w' ⟨s0, s1, s2⟩; go_simp; with_reducible rfl) (h := ?_)
    refine pu 2 5 HT_ (h := ?_)
    refine pu 3 6 HT_ (h := ?_)
    refine pu 4 7 HT_ (h := ?_)
    refine pv 5 8 HT_ (h := ?_)
    refine pv 6 9 HT_ (h := ?_)
    refine pv 7 10 HT_ (h := ?_)
    refine pv 8 11 HT_ (h := ?_)
    refine pv 9 12 HT_ (h := ?_)
    refine pv 10 13 HT_ (h := ?_)
    refine pv 11 14 HT_ (h := ?_)
    refine pv 12 15 HT_ (h := ?_)
    refine pv 13 16 HT_ (h := ?_)
    refine pu 14 17 HT_ (h := ?_)
    refine pu 15 2 HT_ (h := ?_)
    refine done_ (done_of HT_.out (by kernel_rfl)) ?_
    try go_wp2
    go_ret
    exact ⟨mE, mB⟩
  · rw [if_neg c2] at H
    have c2b0 : ((l0_2.length : Int) == 0) = false := beq_eq_false_iff_ne.mpr c2
    have c2b1 : ((l0_2.length : Int) != 0) = true := bne_iff_ne.mpr c2
    have c2b2 : ¬ (l0_2 = []) := fun h_ => c2 (by rw [h_]; rfl)
    by_cases c5 : 0 < (l0_2.length : Int)
    · rw [if_pos c5] at H
      have c5b0 : decide (0 < (l0_2.length : Int)) = true := decide_eq_true c5
      have c5b1 : decide (0 < l0_2.length) = true := decide_eq_true (by omega)
      clear c5
      replace H := Option.bind_eq_some_iff.mp H
      obtain ⟨t128, A60, H⟩ := H
      replace H : ((spec_l01Degree.f a0_0 a0_1 l0_2).bind fun t129 => (some (t128 == t129))) = some r := H
      have A6 := Aside0.mk A60
      clear A60
      replace H := Option.bind_eq_some_iff.mp H
      obtain ⟨t129, A70, H⟩ := H
      replace H : (some (t128 == t129)) = some r := H
      have A7 := Aside0.mk A70
      clear A70
      obtain rfl := Option.some.inj H
      go_enter Try.func47, Try.ntmps47
      try go_wp2_with (first | ((with_reducible refine gate_dst (N := 1) rfl ?_); refine box_event ?hg (N := 1) ?hd (cs := #[.int .i64 a0_0, .int .i64 a0_1, .slice A0_2 l0_2.length c0_2]) (t := 44) ?hr ?_; (case hd => rfl); (case hg => rfl); (case hr => first | (go_simp; done) | (go_simp; rfl)); intro gb126 hg w8 hbox hb; have n0_ := Aside0.mk (below_step mB hb); have n1_ := Aside0.mk (hbox); have n2_ := Aside0.mk ((mG : w.heap.size ≤ gb126)); have n3_ := Aside0.mk ((mG : w.heap.size ≤ gb126)); clear HB; have HB := n0_; have BK126 := n1_; have GW126 := n2_; have GE126 := n3_; clear n0_ n1_ n2_ n3_; clear hb hbox hg))
      have n0_ := Aside0.mk (blk_drew BK126.out)
      have n1_ := Aside0.mk (below_drew1 HB.out)
      clear BK126
      clear HB
      have BK126 := n0_
      have HB := n1_
      clear n0_ n1_
      have p127 : 0 ≤ (0 : Int) := (by omega)
      have q127 : 0 < (l0_2.length : Int) := of_decide_eq_true mS
      obtain ⟨ad127, e127, hx127_0, hx127_1, hx127_2, hx127_3⟩ := at_T66 HR0_2.out 0 p127 q127
      have hw127_3 := hx127_3
      (try rw [show ((0 : Int)).toNat = 0 from rfl] at hw127_3)
      (try rw [show 0 * 4 = 0 from rfl] at hw127_3)
      (try rw [Addr.add_zero'] at hw127_3)
      have hw127_2 := hx127_2
      (try rw [show ((0 : Int)).toNat = 0 from rfl] at hw127_2)
      (try rw [show 0 * 4 = 0 from rfl] at hw127_2)
      (try rw [Addr.add_zero'] at hw127_2)
      have hw127_1 := hx127_1
      (try rw [show ((0 : Int)).toNat = 0 from rfl] at hw127_1)
      (try rw [show 0 * 4 = 0 from rfl] at hw127_1)
      (try rw [Addr.add_zero'] at hw127_1)
      have hw127_0 := hx127_0
      (try rw [show ((0 : Int)).toNat = 0 from rfl] at hw127_0)
      (try rw [show 0 * 4 = 0 from rfl] at hw127_0)
      (try rw [Addr.add_zero'] at hw127_0)
      cases e127
      have qi127 : (0 < l0_2.length) = True := eq_true (by omega)
      (try rw [show ((0 : Int)).toNat = 0 from rfl] at hx127_0)
      (try rw [show 0 * 4 = 0 from rfl] at hx127_0)
      (try rw [Addr.add_zero'] at hx127_0)
      (try rw [show ((0 : Int)).toNat = 0 from rfl] at hx127_1)
      (try rw [show 0 * 4 = 0 from rfl] at hx127_1)
      (try rw [Addr.add_zero'] at hx127_1)
      (try rw [show ((0 : Int)).toNat = 0 from rfl] at hx127_2)
      (try rw [show 0 * 4 = 0 from rfl] at hx127_2)
      (try rw [Addr.add_zero'] at hx127_2)
      (try rw [show ((0 : Int)).toNat = 0 from rfl] at hx127_3)
      (try rw [show 0 * 4 = 0 from rfl] at hx127_3)
      (try rw [Addr.add_zero'] at hx127_3)
      replace hx127_0 := cB HB hx127_0
      replace hx127_1 := cB HB hx127_1
      replace hx127_2 := cB HB hx127_2
      replace hx127_3 := cB HB hx127_3
      replace p127 := eq_true p127
      replace q127 := eq_true q127
      refine start_ (n := 16) (S := fun w' => w'.cell? ⟨gb126, 0, none⟩ = some (.int .i64 a0_0) ∧ w'.cell? ⟨gb126, 1, none⟩ = some (.int .i64 a0_1) ∧ w'.cell? ⟨gb126, 2, none⟩ = some (.slice (some ad127) l0_2.length c0_2) ∧ w'.cell? ad127 = some (.int .u8 ((rd_T66 l0_2 0).f0.f0)) ∧ w'.cell? ⟨ad127.block, ad127.off + 1, none⟩ = some (.int .u8 ((rd_T66 l0_2 0).f0.f1)) ∧ w'.cell? ⟨ad127.block, ad127.off + 2, none⟩ = some (.int .u8 ((rd_T66 l0_2 0).f0.f2)) ∧ w'.cell? ⟨ad127.block, ad127.off + 3, none⟩ = some (.int .i64 ((rd_T66 l0_2 0).f1))) (ds := []) #[false, false, false, false, false, false, false, false, false, false, false, false, false, false, false, false] (by kernel_rfl) rfl rfl ⟨(blk_cell BK126.out 0).trans rfl, (blk_cell BK126.out 1).trans rfl, (blk_cell BK126.out 2).trans rfl, (cD HB hw127_0), (cD HB hw127_1), (cD HB hw127_2), (cD HB hw127_3)⟩ (fun hHeld => ?_); refine with_tabW spec_l01Even.tab1 spec_l01Even.bits1 (fun HT_ HW_ => ?_)
      generalize w8.drew = w9 at BK126 HB hx127_0 hx127_1 hx127_2 hx127_3 hHeld ⊢
      refine pu 0 3 HT_ (h := ?_)
      refine ta 1 4 HT_ HW_ hHeld (hy := by rintro w' ⟨s0, s1, s2, s3, s4, s5, s6⟩; go_simp; with_reducible rfl) (h := ?_)
      refine pu 2 5 HT_ (h := ?_)
      refine pu 3 6 HT_ (h := ?_)
      refine pu 4 7 HT_ (h := ?_)
      refine pu 5 8 HT_ (h := ?_)
      refine ta 6 9 HT_ HW_ hHeld (hy := by rintro w' ⟨s0, s1, s2, s3, s4, s5, s6⟩; go_simp; with_reducible rfl) (h := ?_)
      refine pu 7 10 HT_ (h := ?_)
      refine pu 8 11 HT_ (h := ?_)
      refine ta 9 12 HT_ HW_ hHeld (hy := by rintro w' ⟨s0, s1, s2, s3, s4, s5, s6⟩; go_simp; with_reducible rfl) (h := ?_)
      refine ta 11 14 HT_ HW_ hHeld (hy := by rintro w' ⟨s0, s1, s2, s3, s4, s5, s6⟩; go_simp; with_reducible rfl) (h := ?_)
      refine one_ (i := 10) (N := some 13) #[true, true, true, true, true, true, true, true, true, true, true, true, false, false, false, false] rfl rfl (one_of HT_.out (by kernel_rfl)) (by decide) (fun K hK => ?_)
      refine go_ Try.func42 #[.agg #[.int .u8 ((rd_T66 l0_2 0).f0.f0), .int .u8 ((rd_T66 l0_2 0).f0.f1), .int .u8 ((rd_T66 l0_2 0).f0.f2)]] (h := ?_)
      with_reducible refine (spec_l01Sum.calls ((rd_T66 l0_2 0).f0.f0) ((rd_T66 l0_2 0).f0.f1) ((rd_T66 l0_2 0).f0.f2) t128 _ A6.out).mono ?_
      rintro e w10 ⟨rfl, hb⟩
      refine ⟨_, rfl, ?_⟩
      have n0_ := Aside0.mk (blk_below (g := gb126) (o := .cells #[.int .i64 a0_0, .int .i64 a0_1, .slice (some ad127) l0_2.length c0_2] 44 (0, 0)) (mk BK126.out) hb)
      have n1_ := Aside0.mk (below_step mB hb)
      clear BK126
      clear HB
      have BK126 := n0_
      have HB := n1_
      clear n0_ n1_
      (try clear hb)
      (try clear hb2)
      (try clear hk)
      (try clear hi)
      refine hK.out _ _ ⟨(blk_cell BK126.out 0).trans rfl, (blk_cell BK126.out 1).trans rfl, (blk_cell BK126.out 2).trans rfl, (cD HB hw127_0), (cD HB hw127_1), (cD HB hw127_2), (cD HB hw127_3)⟩ (fun hHeld => ?_)
      clear hK K
      refine nm (h := ?_)
      refine one_ (i := 12) (N := some 15) #[true, true, true, true, true, true, true, true, true, true, true, true, true, false, false, false] rfl rfl (one_of HT_.out (by kernel_rfl)) (by decide) (fun K hK => ?_)
      refine go_ Try.func34 #[.agg #[.int .i64 a0_0, .int .i64 a0_1, .slice (some ad127) l0_2.length c0_2]] (h := ?_)
      with_reducible refine (spec_l01Degree.calls a0_0 a0_1 _ _ l0_2 t129 _ ?side1 ?side2 A7.out).mono ?_
      (case side1 => exact mC (Kd.C_below HR0_2.out HB.out))
      (case side2 => exact HC0_2.out)
      rintro e w11 ⟨rfl, hb⟩
      refine ⟨_, rfl, ?_⟩
      have n0_ := Aside0.mk (blk_below (g := gb126) (o := .cells #[.int .i64 a0_0, .int .i64 a0_1, .slice (some ad127) l0_2.length c0_2] 44 (0, 0)) (mk BK126.out) hb)
      have n1_ := Aside0.mk (below_step mB hb)
      clear BK126
      clear HB
      have BK126 := n0_
      have HB := n1_
      clear n0_ n1_
      (try clear hb)
      (try clear hb2)
      (try clear hk)
      (try clear hi)
      refine hK.out _ _ ⟨(blk_cell BK126.out 0).trans rfl, (blk_cell BK126.out 1).trans rfl, (blk_cell BK126.out 2).trans rfl, (cD HB hw127_0), (cD HB hw127_1), (cD HB hw127_2), (cD HB hw127_3)⟩ (fun hHeld => ?_)
      clear hK K
      refine nm (h := ?_)
      refine pu 13 16 HT_ (h := ?_)
      refine pu 14 17 HT_ (h := ?_)
      refine pu 15 2 HT_ (h := ?_)
      refine done_ (done_of HT_.out (by kernel_rfl)) ?_
      try go_wp2
      go_ret
      exact ⟨mE, mB⟩
    · rw [if_neg c5] at H
      exact absurd H (by simp)

end Go.Proofs.Ytpeihdjefpnoaaa.EFnExactFreeNumber
