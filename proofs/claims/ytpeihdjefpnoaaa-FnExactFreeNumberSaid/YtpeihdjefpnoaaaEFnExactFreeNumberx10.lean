/- The functions that the law uses, as plain functions, and that the code comes to what they say. -/
import Derived.Test.YtpeihdjefpnoaaaEFnExactFreeNumberx0
import Derived.Test.YtpeihdjefpnoaaaEFnExactFreeNumberx9
namespace Go.Proofs.Ytpeihdjefpnoaaa.EFnExactFreeNumber
open Go.RowKit Go.Proofs.YtpeihdjefpnoaaaW.PrintWords Go.Proofs.YtpeihdjefpnoaaaW.PrintLast Go.Proofs.YtpeihdjefpnoaaaW.PrintMore Go.Proofs.YtpeihdjefpnoaaaX
attribute [local go_sem] max2_int min2_int max_two min_two max_three min_three max_four min_four   -- for this text's walks alone
set_option linter.unusedVariables false
set_option linter.unusedSimpArgs false

/-! ### impl_isList: function 41 -/
def impl_isList.l0 : Nat → List (S44) → List (S44) → Int → Int → Option (Bool)
  | 0, _, _, _, _ => none
  | k + 1, x0, x5, x6, x7 => if x7 < x6 then (if 0 ≤ x7 then (if x7 < (x5.length : Int) then (if 0 < (x0.length : Int) then ((impl_alike.f ((rd_T44 x5 x7).f0) ((rd_T44 x5 x7).f1) ((rd_T44 x5 x7).f2) ((rd_T44 x0 0).f0) ((rd_T44 x0 0).f1) ((rd_T44 x0 0).f2)).bind fun t243 => (if t243 = true then ((impl_homogeneous.f ((rd_T44 x5 x7).f0) ((rd_T44 x5 x7).f1) ((rd_T44 x5 x7).f2)).bind fun t244 => (if t244 = true then ((impl_degree.f ((rd_T44 x5 x7).f0) ((rd_T44 x5 x7).f1) ((rd_T44 x5 x7).f2)).bind fun t245 => (if t245 < 1 then (some false) else (impl_isList.l0 k x0 x5 x6 (wrap64 (x7 + 1))))) else (some false))) else (some false))) else (none)) else (none)) else (none)) else (some (decide ((x0.length : Int) ≤ 8)))
def impl_isList.f (k : Nat) (l0 : List (S44)) : Option (Bool) := impl_isList.l0 k l0 l0 (l0.length : Int) 0
theorem impl_isList.mono_l : ∀ k, (∀ y0 y1 y2 y3, LeO (impl_isList.l0 k y0 y1 y2 y3) (impl_isList.l0 (k + 1) y0 y1 y2 y3))
  | 0 => fun _ _ _ _ r h => by simp [impl_isList.l0] at h
  | k + 1 => by
    have ih0 := impl_isList.mono_l k
    · intro y0 y1 y2 y3
      unfold impl_isList.l0
      repeat' first
      | (with_reducible exact ih0 _ _ _ _)
      | (with_reducible exact LeO.refl _)
      | (with_reducible exact LeO.none _)
      | (with_reducible refine LeO.ite ?_ ?_)
      | (with_reducible refine LeO.bind ?_ (fun _ => ?_))
      | exact ih0 _ _ _ _
      | exact LeO.none _
      | refine LeO.ite ?_ ?_
      | refine LeO.bind ?_ (fun _ => ?_)
theorem impl_isList.mono : ∀ a0 k, LeO (impl_isList.f k a0) (impl_isList.f (k + 1) a0) := by
  intro a0 k
  have ih0 := impl_isList.mono_l k
  unfold impl_isList.f
  repeat' first
      | (with_reducible exact ih0 _ _ _ _)
      | (with_reducible exact LeO.refl _)
      | (with_reducible exact LeO.none _)
      | (with_reducible refine LeO.ite ?_ ?_)
      | (with_reducible refine LeO.bind ?_ (fun _ => ?_))
      | exact ih0 _ _ _ _
      | exact LeO.none _
      | refine LeO.ite ?_ ?_
      | refine LeO.bind ?_ (fun _ => ?_)
def impl_isList.T4 : Bool × List (List Nat × List Nat) := (true, [([], []), ([], []), ([1], [1]), ([2], [2]), ([0, 3], [0, 3]), ([4], [4]), ([5, 4], [5]), ([6], [6]), ([7, 6, 6], [6, 7]), ([8, 6], [6, 8]), ([6, 9], [6, 9]), ([10, 8], [10]), ([11], [11]), ([12, 11, 11], [11, 12]), ([13, 11], [11, 13]), ([11, 14], [11, 14])])
def impl_isList.B4 : List Nat := [0, 0, 2, 6, 15, 31, 63, 127, 255, 511, 1023, 2047, 4095, 8191, 16383, 32767]
theorem impl_isList.tab4 : rtab .any (opsOf Try.f41 4) = impl_isList.T4 := by kernel_rfl
theorem impl_isList.bits4 : waitsOk impl_isList.T4.2 impl_isList.B4 = true := by kernel_rfl
set_option maxHeartbeats 8000000 in
set_option maxRecDepth 100000 in
theorem impl_isList.calls (k : Nat) (A0 : Option Addr) (c0 : Nat) (l0 : List (S44)) (r : Bool) (w : World) (hr0 : Kd.C k44 w A0 l0.length l0) (hc0 : l0.length ≤ c0) (h : impl_isList.f k l0 = some r) :
    Calls Try.prog 41 #[.slice A0 l0.length c0] w fun e w' => e = .returned (.bool r) ∧ Below w.heap.size w w' := by
  have hu44 := Try.underlying44
  have HR0 := Aside0.mk hr0
  have HC0 := Aside0.mk hc0
  clear hr0 hc0
  have HB := Aside0.mk (Below.refl w.heap.size w)
  have H : (impl_isList.l0 k l0 l0 (l0.length : Int) 0) = some r := h
  clear h
  have H' := Aside0.mk H
  clear H
  go_enter Try.func41, Try.ntmps41
  go_wp2
  go_loopg [7] k (fun kq v7 w' => ∃ (x7_1 : Int), v7 = .int .i64 x7_1 ∧ Aside0 (impl_isList.l0 kq l0 l0 (l0.length : Int) x7_1 = some r) ∧ Aside0 (kq ≤ k) ∧ Aside0 (Below w.heap.size w w'))
  case atStart => exact ⟨(0), mF, H', ⟨Nat.le_refl _⟩, ⟨mB⟩⟩
  case round =>
    clear H'
    obtain ⟨x7_1, rfl, HA, HK1, HB⟩ := hrel
    cases gk with
    | zero => exact absurd HA.out (by simp [impl_isList.l0])
    | succ k1 =>
      have H := HA.out
      clear HA
      simp only [impl_isList.l0] at H
      by_cases c2 : x7_1 < (l0.length : Int)
      · rw [if_pos c2] at H
        have c2b0 : decide (x7_1 < (l0.length : Int)) = true := decide_eq_true c2
        clear c2
        by_cases c3 : 0 ≤ x7_1
        · rw [if_pos c3] at H
          have c3b0 : decide (0 ≤ x7_1) = true := decide_eq_true c3
          clear c3
          by_cases c4 : x7_1 < (l0.length : Int)
          · rw [if_pos c4] at H
            have c4b0 : decide (x7_1 < (l0.length : Int)) = true := decide_eq_true c4
            clear c4
            by_cases c5 : 0 < (l0.length : Int)
            · rw [if_pos c5] at H
              have c5b0 : decide (0 < (l0.length : Int)) = true := decide_eq_true c5
              have c5b1 : decide (0 < l0.length) = true := decide_eq_true (by omega)
              clear c5
              replace H := Option.bind_eq_some_iff.mp H
              obtain ⟨t243, A60, H⟩ := H
              replace H : (if t243 = true then ((impl_homogeneous.f ((rd_T44 l0 x7_1).f0) ((rd_T44 l0 x7_1).f1) ((rd_T44 l0 x7_1).f2)).bind fun t244 => (if t244 = true then ((impl_degree.f ((rd_T44 l0 x7_1).f0) ((rd_T44 l0 x7_1).f1) ((rd_T44 l0 x7_1).f2)).bind fun t245 => (if t245 < 1 then (some false) else (impl_isList.l0 k1 l0 l0 (l0.length : Int) (wrap64 (x7_1 + 1))))) else (some false))) else (some false)) = some r := H
              have A6 := Aside0.mk A60
              clear A60
              by_cases c7 : t243 = true
              · subst c7
                have H1 : ((impl_homogeneous.f ((rd_T44 l0 x7_1).f0) ((rd_T44 l0 x7_1).f1) ((rd_T44 l0 x7_1).f2)).bind fun t244 => (if t244 = true then ((impl_degree.f ((rd_T44 l0 x7_1).f0) ((rd_T44 l0 x7_1).f1) ((rd_T44 l0 x7_1).f2)).bind fun t245 => (if t245 < 1 then (some false) else (impl_isList.l0 k1 l0 l0 (l0.length : Int) (wrap64 (x7_1 + 1))))) else (some false))) = some r := by rw [if_pos rfl] at H; exact H
                clear H
                have H := H1
                clear H1
                replace H := Option.bind_eq_some_iff.mp H
                obtain ⟨t244, A80, H⟩ := H
                replace H : (if t244 = true then ((impl_degree.f ((rd_T44 l0 x7_1).f0) ((rd_T44 l0 x7_1).f1) ((rd_T44 l0 x7_1).f2)).bind fun t245 => (if t245 < 1 then (some false) else (impl_isList.l0 k1 l0 l0 (l0.length : Int) (wrap64 (x7_1 + 1))))) else (some false)) = some r := H
                have A8 := Aside0.mk A80
                clear A80
                by_cases c9 : t244 = true
                · subst c9
                  have H1 : ((impl_degree.f ((rd_T44 l0 x7_1).f0) ((rd_T44 l0 x7_1).f1) ((rd_T44 l0 x7_1).f2)).bind fun t245 => (if t245 < 1 then (some false) else (impl_isList.l0 k1 l0 l0 (l0.length : Int) (wrap64 (x7_1 + 1))))) = some r := by rw [if_pos rfl] at H; exact H
                  clear H
                  have H := H1
                  clear H1
                  replace H := Option.bind_eq_some_iff.mp H
                  obtain ⟨t245, A100, H⟩ := H
                  replace H : (if t245 < 1 then (some false) else (impl_isList.l0 k1 l0 l0 (l0.length : Int) (wrap64 (x7_1 + 1)))) = some r := H
                  have A10 := Aside0.mk A100
                  clear A100
                  by_cases c11 : t245 < 1
                  · rw [if_pos c11] at H
                    have c11b0 : decide (t245 < 1) = true := decide_eq_true c11
                    clear c11
                    obtain rfl := Option.some.inj H
                    have p240 : 0 ≤ (x7_1 : Int) := of_decide_eq_true mS
                    have q240 : x7_1 < (l0.length : Int) := of_decide_eq_true mS
                    obtain ⟨ad240, A240_2, c240_2, e240, hx240_0, hx240_1, hx240_2, hl240_2, hi240_2⟩ := at_T44 HR0.out x7_1 p240 q240
                    cases e240
                    replace hx240_0 := cB HB hx240_0
                    replace hx240_1 := cB HB hx240_1
                    replace hx240_2 := cB HB hx240_2
                    have HR240_2 := Aside0.mk hi240_2
                    have HC240_2 := Aside0.mk hl240_2
                    clear hi240_2 hl240_2
                    replace p240 := eq_true p240
                    replace q240 := eq_true q240
                    try go_wp2_with (first | ((with_reducible refine gate_dst (N := 4) rfl ?_); refine box_event ?hg (N := 4) ?hd (cs := #[.int .i64 0, .int .i64 0, .slice none 0 0]) (t := 44) ?hr ?_; (case hd => rfl); (case hg => rfl); (case hr => first | (go_simp; done) | (go_simp; rfl)); intro gb241 hg w12 hbox hb; have n0_ := Aside0.mk (below_step mB hb); have n1_ := Aside0.mk (hbox); have n2_ := Aside0.mk ((mG : w.heap.size ≤ gb241)); have n3_ := Aside0.mk ((mG : w.heap.size ≤ gb241)); clear HB; have HB := n0_; have BK241 := n1_; have GW241 := n2_; have GE241 := n3_; clear n0_ n1_ n2_ n3_; clear hb hbox hg; have hcz13_0 : w12.cell? ⟨gb241, 0, none⟩ = some (.int .i64 0) := (blk_cell BK241.out 0).trans rfl; have hcz13_1 : w12.cell? ⟨gb241, 1, none⟩ = some (.int .i64 0) := (blk_cell BK241.out 1).trans rfl; have hcz13_2 : w12.cell? ⟨gb241, 2, none⟩ = some (.slice none 0 0) := (blk_cell BK241.out 2).trans rfl; have hfz13_0 := blk_frozen BK241.out 0; have hfz13_1 := blk_frozen BK241.out 1; have hfz13_2 := blk_frozen BK241.out 2))
                    have n0_ : Aside0 ((((w12.setCell ⟨gb241, 0, none⟩ (.int .i64 ((rd_T44 l0 x7_1).f0))).setCell ⟨gb241, 1, none⟩ (.int .i64 ((rd_T44 l0 x7_1).f1))).setCell ⟨gb241, 2, none⟩ (.slice A240_2 ((rd_T44 l0 x7_1).f2).length c240_2)).heap[gb241]? = some (.cells #[.int .i64 ((rd_T44 l0 x7_1).f0), .int .i64 ((rd_T44 l0 x7_1).f1), .slice A240_2 ((rd_T44 l0 x7_1).f2).length c240_2] 44 (0, 0))) := ⟨by (with_reducible repeat (first | refine blk_drewN ?_ _ | refine blk_drew ?_ | refine blk_alloc ?_ _)); refine blk_put (cs := #[.int .i64 ((rd_T44 l0 x7_1).f0), .int .i64 ((rd_T44 l0 x7_1).f1), .slice none 0 0]) ?_ 2 _ rfl; (with_reducible repeat (first | refine blk_drewN ?_ _ | refine blk_drew ?_ | refine blk_alloc ?_ _)); refine blk_put (cs := #[.int .i64 ((rd_T44 l0 x7_1).f0), .int .i64 0, .slice none 0 0]) ?_ 1 _ rfl; (with_reducible repeat (first | refine blk_drewN ?_ _ | refine blk_drew ?_ | refine blk_alloc ?_ _)); refine blk_put (cs := #[.int .i64 0, .int .i64 0, .slice none 0 0]) ?_ 0 _ rfl; (with_reducible repeat (first | refine blk_drewN ?_ _ | refine blk_drew ?_ | refine blk_alloc ?_ _)); exact BK241.out⟩
                    have n1_ : Aside0 (Below w.heap.size w (((w12.setCell ⟨gb241, 0, none⟩ (.int .i64 ((rd_T44 l0 x7_1).f0))).setCell ⟨gb241, 1, none⟩ (.int .i64 ((rd_T44 l0 x7_1).f1))).setCell ⟨gb241, 2, none⟩ (.slice A240_2 ((rd_T44 l0 x7_1).f2).length c240_2))) := ⟨mB⟩
                    (try clear BK241)
                    (try clear HB)
                    generalize (((w12.setCell ⟨gb241, 0, none⟩ (.int .i64 ((rd_T44 l0 x7_1).f0))).setCell ⟨gb241, 1, none⟩ (.int .i64 ((rd_T44 l0 x7_1).f1))).setCell ⟨gb241, 2, none⟩ (.slice A240_2 ((rd_T44 l0 x7_1).f2).length c240_2)) = w14 at n0_ n1_ ⊢
                    have BK241 := n0_
                    have HB := n1_
                    clear n0_ n1_
                    have n0_ := Aside0.mk (blk_drew BK241.out)
                    have n1_ := Aside0.mk (below_drew1 HB.out)
                    clear BK241
                    clear HB
                    have BK241 := n0_
                    have HB := n1_
                    clear n0_ n1_
                    have p242 : 0 ≤ (0 : Int) := (by omega)
                    have q242 : 0 < (l0.length : Int) := of_decide_eq_true mS
                    obtain ⟨ad242, A242_2, c242_2, e242, hx242_0, hx242_1, hx242_2, hl242_2, hi242_2⟩ := at_T44 HR0.out 0 p242 q242
                    have hw242_2 := hx242_2
                    (try rw [show ((0 : Int)).toNat = 0 from rfl] at hw242_2)
                    (try rw [show 0 * 3 = 0 from rfl] at hw242_2)
                    (try rw [Addr.add_zero'] at hw242_2)
                    have hw242_1 := hx242_1
                    (try rw [show ((0 : Int)).toNat = 0 from rfl] at hw242_1)
                    (try rw [show 0 * 3 = 0 from rfl] at hw242_1)
                    (try rw [Addr.add_zero'] at hw242_1)
                    have hw242_0 := hx242_0
                    (try rw [show ((0 : Int)).toNat = 0 from rfl] at hw242_0)
                    (try rw [show 0 * 3 = 0 from rfl] at hw242_0)
                    (try rw [Addr.add_zero'] at hw242_0)
                    obtain rfl : ad240 = ad242 := (by injection e242)
                    have qi242 : (0 < l0.length) = True := eq_true (by omega)
                    (try rw [show ((0 : Int)).toNat = 0 from rfl] at hx242_0)
                    (try rw [show 0 * 3 = 0 from rfl] at hx242_0)
                    (try rw [Addr.add_zero'] at hx242_0)
                    (try rw [show ((0 : Int)).toNat = 0 from rfl] at hx242_1)
                    (try rw [show 0 * 3 = 0 from rfl] at hx242_1)
                    (try rw [Addr.add_zero'] at hx242_1)
                    (try rw [show ((0 : Int)).toNat = 0 from rfl] at hx242_2)
                    (try rw [show 0 * 3 = 0 from rfl] at hx242_2)
                    (try rw [Addr.add_zero'] at hx242_2)
                    replace hx242_0 := cB HB hx242_0
                    replace hx242_1 := cB HB hx242_1
                    replace hx242_2 := cB HB hx242_2
                    have HR242_2 := Aside0.mk hi242_2
                    have HC242_2 := Aside0.mk hl242_2
                    clear hi242_2 hl242_2
                    replace p242 := eq_true p242
                    replace q242 := eq_true q242
                    refine start_ (n := 16) (S := fun w' => w'.cell? ⟨gb241, 0, none⟩ = some (.int .i64 ((rd_T44 l0 x7_1).f0)) ∧ w'.cell? ⟨gb241, 1, none⟩ = some (.int .i64 ((rd_T44 l0 x7_1).f1)) ∧ w'.cell? ⟨gb241, 2, none⟩ = some (.slice A240_2 ((rd_T44 l0 x7_1).f2).length c240_2) ∧ w'.cell? ad240 = some (.int .i64 ((rd_T44 l0 0).f0)) ∧ w'.cell? ⟨ad240.block, ad240.off + 1, none⟩ = some (.int .i64 ((rd_T44 l0 0).f1)) ∧ w'.cell? ⟨ad240.block, ad240.off + 2, none⟩ = some (.slice A242_2 ((rd_T44 l0 0).f2).length c242_2)) (ds := []) #[false, false, false, false, false, false, false, false, false, false, false, false, false, false, false, false] (by kernel_rfl) rfl rfl ⟨(blk_cell BK241.out 0).trans rfl, (blk_cell BK241.out 1).trans rfl, (blk_cell BK241.out 2).trans rfl, (cD HB hw242_0), (cD HB hw242_1), (cD HB hw242_2)⟩ (fun hHeld => ?_); refine with_tabW impl_isList.tab4 impl_isList.bits4 (fun HT_ HW_ => ?_)
                    generalize w14.drew = w15 at BK241 HB HR242_2 hx242_0 hx242_1 hx242_2 hHeld ⊢
                    refine pu 1 12 HT_ (h := ?_)
                    refine pu 2 13 HT_ (h := ?_)
                    refine ta 0 11 HT_ HW_ hHeld (hy := by rintro w' ⟨s0, s1, s2, s3, s4, s5⟩; go_simp; with_reducible rfl) (h := ?_)
                    refine ta 3 14 HT_ HW_ hHeld (hy := by rintro w' ⟨s0, s1, s2, s3, s4, s5⟩; go_simp; with_reducible rfl) (h := ?_)
                    refine one_ (i := 4) (N := some 15) #[true, true, true, true, true, false, false, false, false, false, false, false, false, false, false, false] rfl rfl (one_of HT_.out (by kernel_rfl)) (by decide) (fun K hK => ?_)
                    refine go_ Try.func49 #[.agg #[.int .i64 ((rd_T44 l0 x7_1).f0), .int .i64 ((rd_T44 l0 x7_1).f1), .slice A240_2 ((rd_T44 l0 x7_1).f2).length c240_2], .agg #[.int .i64 ((rd_T44 l0 0).f0), .int .i64 ((rd_T44 l0 0).f1), .slice A242_2 ((rd_T44 l0 0).f2).length c242_2]] (h := ?_)
                    with_reducible refine (impl_alike.calls ((rd_T44 l0 x7_1).f0) ((rd_T44 l0 x7_1).f1) _ _ ((rd_T44 l0 x7_1).f2) ((rd_T44 l0 0).f0) ((rd_T44 l0 0).f1) _ _ ((rd_T44 l0 0).f2) true _ ?side1 ?side2 ?side3 ?side4 A6.out).mono ?_
                    (case side1 => exact mC (Kd.C_below HR240_2.out HB.out))
                    (case side2 => exact HC240_2.out)
                    (case side3 => exact mC (Kd.C_below HR242_2.out HB.out))
                    (case side4 => exact HC242_2.out)
                    rintro e w16 ⟨rfl, hb⟩
                    refine ⟨_, rfl, ?_⟩
                    have n0_ := Aside0.mk (blk_below (g := gb241) (o := .cells #[.int .i64 ((rd_T44 l0 x7_1).f0), .int .i64 ((rd_T44 l0 x7_1).f1), .slice A240_2 ((rd_T44 l0 x7_1).f2).length c240_2] 44 (0, 0)) (mk BK241.out) hb)
                    have n1_ := Aside0.mk (below_step mB hb)
                    clear BK241
                    clear HB
                    have BK241 := n0_
                    have HB := n1_
                    clear n0_ n1_
                    (try clear hb)
                    (try clear hb2)
                    (try clear hk)
                    (try clear hi)
                    refine hK.out _ _ ⟨(blk_cell BK241.out 0).trans rfl, (blk_cell BK241.out 1).trans rfl, (blk_cell BK241.out 2).trans rfl, (cD HB hw242_0), (cD HB hw242_1), (cD HB hw242_2)⟩ (fun hHeld => ?_)
                    clear hK K
                    refine nm (h := ?_)
                    refine pu 5 16 HT_ (h := ?_)
                    refine pu 6 17 HT_ (h := ?_)
                    refine ta 7 18 HT_ HW_ hHeld (hy := by rintro w' ⟨s0, s1, s2, s3, s4, s5⟩; go_simp; with_reducible rfl) (h := ?_)
                    refine one_ (i := 8) (N := some 19) #[true, true, true, true, true, true, true, true, true, false, false, false, false, false, false, false] rfl rfl (one_of HT_.out (by kernel_rfl)) (by decide) (fun K hK => ?_)
                    refine go_ Try.func50 #[.agg #[.int .i64 ((rd_T44 l0 x7_1).f0), .int .i64 ((rd_T44 l0 x7_1).f1), .slice A240_2 ((rd_T44 l0 x7_1).f2).length c240_2]] (h := ?_)
                    with_reducible refine (impl_homogeneous.calls ((rd_T44 l0 x7_1).f0) ((rd_T44 l0 x7_1).f1) _ _ ((rd_T44 l0 x7_1).f2) true _ ?side1 ?side2 A8.out).mono ?_
                    (case side1 => exact mC (Kd.C_below HR240_2.out HB.out))
                    (case side2 => exact HC240_2.out)
                    rintro e w17 ⟨rfl, hb⟩
                    refine ⟨_, rfl, ?_⟩
                    have n0_ := Aside0.mk (blk_below (g := gb241) (o := .cells #[.int .i64 ((rd_T44 l0 x7_1).f0), .int .i64 ((rd_T44 l0 x7_1).f1), .slice A240_2 ((rd_T44 l0 x7_1).f2).length c240_2] 44 (0, 0)) (mk BK241.out) hb)
                    have n1_ := Aside0.mk (below_step mB hb)
                    clear BK241
                    clear HB
                    have BK241 := n0_
                    have HB := n1_
                    clear n0_ n1_
                    (try clear hb)
                    (try clear hb2)
                    (try clear hk)
                    (try clear hi)
                    refine hK.out _ _ ⟨(blk_cell BK241.out 0).trans rfl, (blk_cell BK241.out 1).trans rfl, (blk_cell BK241.out 2).trans rfl, (cD HB hw242_0), (cD HB hw242_1), (cD HB hw242_2)⟩ (fun hHeld => ?_)
                    clear hK K
                    refine nm (h := ?_)
                    refine pu 9 20 HT_ (h := ?_)
                    refine pu 10 21 HT_ (h := ?_)
                    refine pu 11 22 HT_ (h := ?_)
                    refine ta 12 23 HT_ HW_ hHeld (hy := by rintro w' ⟨s0, s1, s2, s3, s4, s5⟩; go_simp; with_reducible rfl) (h := ?_)
                    refine one_ (i := 13) (N := some 24) #[true, true, true, true, true, true, true, true, true, true, true, true, true, true, false, false] rfl rfl (one_of HT_.out (by kernel_rfl)) (by decide) (fun K hK => ?_)
                    refine go_ Try.func37 #[.agg #[.int .i64 ((rd_T44 l0 x7_1).f0), .int .i64 ((rd_T44 l0 x7_1).f1), .slice A240_2 ((rd_T44 l0 x7_1).f2).length c240_2]] (h := ?_)
                    with_reducible refine (impl_degree.calls ((rd_T44 l0 x7_1).f0) ((rd_T44 l0 x7_1).f1) _ _ ((rd_T44 l0 x7_1).f2) t245 _ ?side1 ?side2 A10.out).mono ?_
                    (case side1 => exact mC (Kd.C_below HR240_2.out HB.out))
                    (case side2 => exact HC240_2.out)
                    rintro e w18 ⟨rfl, hb⟩
                    refine ⟨_, rfl, ?_⟩
                    have n0_ := Aside0.mk (blk_below (g := gb241) (o := .cells #[.int .i64 ((rd_T44 l0 x7_1).f0), .int .i64 ((rd_T44 l0 x7_1).f1), .slice A240_2 ((rd_T44 l0 x7_1).f2).length c240_2] 44 (0, 0)) (mk BK241.out) hb)
                    have n1_ := Aside0.mk (below_step mB hb)
                    clear BK241
                    clear HB
                    have BK241 := n0_
                    have HB := n1_
                    clear n0_ n1_
                    (try clear hb)
                    (try clear hb2)
                    (try clear hk)
                    (try clear hi)
                    refine hK.out _ _ ⟨(blk_cell BK241.out 0).trans rfl, (blk_cell BK241.out 1).trans rfl, (blk_cell BK241.out 2).trans rfl, (cD HB hw242_0), (cD HB hw242_1), (cD HB hw242_2)⟩ (fun hHeld => ?_)
                    clear hK K
                    refine nm (h := ?_)
                    refine pu 14 25 HT_ (h := ?_)
                    refine pu 15 26 HT_ (h := ?_)
                    refine done_ (done_of HT_.out (by kernel_rfl)) ?_
                    try go_wp2
                    go_ret
                    exact ⟨mE, mB⟩
                  · rw [if_neg c11] at H
                    have c11b0 : decide (t245 < 1) = false := decide_eq_false c11
                    clear c11
                    have H' := Aside0.mk H
                    clear H
                    have p240 : 0 ≤ (x7_1 : Int) := of_decide_eq_true mS
                    have q240 : x7_1 < (l0.length : Int) := of_decide_eq_true mS
                    obtain ⟨ad240, A240_2, c240_2, e240, hx240_0, hx240_1, hx240_2, hl240_2, hi240_2⟩ := at_T44 HR0.out x7_1 p240 q240
                    cases e240
                    replace hx240_0 := cB HB hx240_0
                    replace hx240_1 := cB HB hx240_1
                    replace hx240_2 := cB HB hx240_2
                    have HR240_2 := Aside0.mk hi240_2
                    have HC240_2 := Aside0.mk hl240_2
                    clear hi240_2 hl240_2
                    replace p240 := eq_true p240
                    replace q240 := eq_true q240
                    try go_wp2_with (first | ((with_reducible refine gate_dst (N := 4) rfl ?_); refine box_event ?hg (N := 4) ?hd (cs := #[.int .i64 0, .int .i64 0, .slice none 0 0]) (t := 44) ?hr ?_; (case hd => rfl); (case hg => rfl); (case hr => first | (go_simp; done) | (go_simp; rfl)); intro gb241 hg w19 hbox hb; have n0_ := Aside0.mk (below_step mB hb); have n1_ := Aside0.mk (hbox); have n2_ := Aside0.mk ((mG : w.heap.size ≤ gb241)); have n3_ := Aside0.mk ((mG : w.heap.size ≤ gb241)); clear HB; have HB := n0_; have BK241 := n1_; have GW241 := n2_; have GE241 := n3_; clear n0_ n1_ n2_ n3_; clear hb hbox hg; have hcz20_0 : w19.cell? ⟨gb241, 0, none⟩ = some (.int .i64 0) := (blk_cell BK241.out 0).trans rfl; have hcz20_1 : w19.cell? ⟨gb241, 1, none⟩ = some (.int .i64 0) := (blk_cell BK241.out 1).trans rfl; have hcz20_2 : w19.cell? ⟨gb241, 2, none⟩ = some (.slice none 0 0) := (blk_cell BK241.out 2).trans rfl; have hfz20_0 := blk_frozen BK241.out 0; have hfz20_1 := blk_frozen BK241.out 1; have hfz20_2 := blk_frozen BK241.out 2))
                    have n0_ : Aside0 ((((w19.setCell ⟨gb241, 0, none⟩ (.int .i64 ((rd_T44 l0 x7_1).f0))).setCell ⟨gb241, 1, none⟩ (.int .i64 ((rd_T44 l0 x7_1).f1))).setCell ⟨gb241, 2, none⟩ (.slice A240_2 ((rd_T44 l0 x7_1).f2).length c240_2)).heap[gb241]? = some (.cells #[.int .i64 ((rd_T44 l0 x7_1).f0), .int .i64 ((rd_T44 l0 x7_1).f1), .slice A240_2 ((rd_T44 l0 x7_1).f2).length c240_2] 44 (0, 0))) := ⟨by (with_reducible repeat (first | refine blk_drewN ?_ _ | refine blk_drew ?_ | refine blk_alloc ?_ _)); refine blk_put (cs := #[.int .i64 ((rd_T44 l0 x7_1).f0), .int .i64 ((rd_T44 l0 x7_1).f1), .slice none 0 0]) ?_ 2 _ rfl; (with_reducible repeat (first | refine blk_drewN ?_ _ | refine blk_drew ?_ | refine blk_alloc ?_ _)); refine blk_put (cs := #[.int .i64 ((rd_T44 l0 x7_1).f0), .int .i64 0, .slice none 0 0]) ?_ 1 _ rfl; (with_reducible repeat (first | refine blk_drewN ?_ _ | refine blk_drew ?_ | refine blk_alloc ?_ _)); refine blk_put (cs := #[.int .i64 0, .int .i64 0, .slice none 0 0]) ?_ 0 _ rfl; (with_reducible repeat (first | refine blk_drewN ?_ _ | refine blk_drew ?_ | refine blk_alloc ?_ _)); exact BK241.out⟩
                    have n1_ : Aside0 (Below w.heap.size w (((w19.setCell ⟨gb241, 0, none⟩ (.int .i64 ((rd_T44 l0 x7_1).f0))).setCell ⟨gb241, 1, none⟩ (.int .i64 ((rd_T44 l0 x7_1).f1))).setCell ⟨gb241, 2, none⟩ (.slice A240_2 ((rd_T44 l0 x7_1).f2).length c240_2))) := ⟨mB⟩
                    (try clear BK241)
                    (try clear HB)
                    generalize (((w19.setCell ⟨gb241, 0, none⟩ (.int .i64 ((rd_T44 l0 x7_1).f0))).setCell ⟨gb241, 1, none⟩ (.int .i64 ((rd_T44 l0 x7_1).f1))).setCell ⟨gb241, 2, none⟩ (.slice A240_2 ((rd_T44 l0 x7_1).f2).length c240_2)) = w21 at n0_ n1_ ⊢
                    have BK241 := n0_
                    have HB := n1_
                    clear n0_ n1_
                    have n0_ := Aside0.mk (blk_drew BK241.out)
                    have n1_ := Aside0.mk (below_drew1 HB.out)
                    clear BK241
                    clear HB
                    have BK241 := n0_
                    have HB := n1_
                    clear n0_ n1_
                    have p242 : 0 ≤ (0 : Int) := (by omega)
                    have q242 : 0 < (l0.length : Int) := of_decide_eq_true mS
                    obtain ⟨ad242, A242_2, c242_2, e242, hx242_0, hx242_1, hx242_2, hl242_2, hi242_2⟩ := at_T44 HR0.out 0 p242 q242
                    have hw242_2 := hx242_2
                    (try rw [show ((0 : Int)).toNat = 0 from rfl] at hw242_2)
                    (try rw [show 0 * 3 = 0 from rfl] at hw242_2)
                    (try rw [Addr.add_zero'] at hw242_2)
                    have hw242_1 := hx242_1
                    (try rw [show ((0 : Int)).toNat = 0 from rfl] at hw242_1)
                    (try rw [show 0 * 3 = 0 from rfl] at hw242_1)
                    (try rw [Addr.add_zero'] at hw242_1)
                    have hw242_0 := hx242_0
                    (try rw [show ((0 : Int)).toNat = 0 from rfl] at hw242_0)
                    (try rw [show 0 * 3 = 0 from rfl] at hw242_0)
                    (try rw [Addr.add_zero'] at hw242_0)
                    obtain rfl : ad240 = ad242 := (by injection e242)
                    have qi242 : (0 < l0.length) = True := eq_true (by omega)
                    (try rw [show ((0 : Int)).toNat = 0 from rfl] at hx242_0)
                    (try rw [show 0 * 3 = 0 from rfl] at hx242_0)
                    (try rw [Addr.add_zero'] at hx242_0)
                    (try rw [show ((0 : Int)).toNat = 0 from rfl] at hx242_1)
                    (try rw [show 0 * 3 = 0 from rfl] at hx242_1)
                    (try rw [Addr.add_zero'] at hx242_1)
                    (try rw [show ((0 : Int)).toNat = 0 from rfl] at hx242_2)
                    (try rw [show 0 * 3 = 0 from rfl] at hx242_2)
                    (try rw [Addr.add_zero'] at hx242_2)
                    replace hx242_0 := cB HB hx242_0
                    replace hx242_1 := cB HB hx242_1
                    replace hx242_2 := cB HB hx242_2
                    have HR242_2 := Aside0.mk hi242_2
                    have HC242_2 := Aside0.mk hl242_2
                    clear hi242_2 hl242_2
                    replace p242 := eq_true p242
                    replace q242 := eq_true q242
                    refine start_ (n := 16) (S := fun w' => w'.cell? ⟨gb241, 0, none⟩ = some (.int .i64 ((rd_T44 l0 x7_1).f0)) ∧ w'.cell? ⟨gb241, 1, none⟩ = some (.int .i64 ((rd_T44 l0 x7_1).f1)) ∧ w'.cell? ⟨gb241, 2, none⟩ = some (.slice A240_2 ((rd_T44 l0 x7_1).f2).length c240_2) ∧ w'.cell? ad240 = some (.int .i64 ((rd_T44 l0 0).f0)) ∧ w'.cell? ⟨ad240.block, ad240.off + 1, none⟩ = some (.int .i64 ((rd_T44 l0 0).f1)) ∧ w'.cell? ⟨ad240.block, ad240.off + 2, none⟩ = some (.slice A242_2 ((rd_T44 l0 0).f2).length c242_2)) (ds := []) #[false, false, false, false, false, false, false, false, false, false, false, false, false, false, false, false] (by kernel_rfl) rfl rfl ⟨(blk_cell BK241.out 0).trans rfl, (blk_cell BK241.out 1).trans rfl, (blk_cell BK241.out 2).trans rfl, (cD HB hw242_0), (cD HB hw242_1), (cD HB hw242_2)⟩ (fun hHeld => ?_); refine with_tabW impl_isList.tab4 impl_isList.bits4 (fun HT_ HW_ => ?_)
                    generalize w21.drew = w22 at BK241 HB HR242_2 hx242_0 hx242_1 hx242_2 hHeld ⊢
                    refine pu 1 12 HT_ (h := ?_)
                    refine pu 2 13 HT_ (h := ?_)
                    refine ta 0 11 HT_ HW_ hHeld (hy := by rintro w' ⟨s0, s1, s2, s3, s4, s5⟩; go_simp; with_reducible rfl) (h := ?_)
                    refine ta 3 14 HT_ HW_ hHeld (hy := by rintro w' ⟨s0, s1, s2, s3, s4, s5⟩; go_simp; with_reducible rfl) (h := ?_)
                    refine one_ (i := 4) (N := some 15) #[true, true, true, true, true, false, false, false, false, false, false, false, false, false, false, false] rfl rfl (one_of HT_.out (by kernel_rfl)) (by decide) (fun K hK => ?_)
                    refine go_ Try.func49 #[.agg #[.int .i64 ((rd_T44 l0 x7_1).f0), .int .i64 ((rd_T44 l0 x7_1).f1), .slice A240_2 ((rd_T44 l0 x7_1).f2).length c240_2], .agg #[.int .i64 ((rd_T44 l0 0).f0), .int .i64 ((rd_T44 l0 0).f1), .slice A242_2 ((rd_T44 l0 0).f2).length c242_2]] (h := ?_)
                    with_reducible refine (impl_alike.calls ((rd_T44 l0 x7_1).f0) ((rd_T44 l0 x7_1).f1) _ _ ((rd_T44 l0 x7_1).f2) ((rd_T44 l0 0).f0) ((rd_T44 l0 0).f1) _ _ ((rd_T44 l0 0).f2) true _ ?side1 ?side2 ?side3 ?side4 A6.out).mono ?_
                    (case side1 => exact mC (Kd.C_below HR240_2.out HB.out))
                    (case side2 => exact HC240_2.out)
                    (case side3 => exact mC (Kd.C_below HR242_2.out HB.out))
                    (case side4 => exact HC242_2.out)
                    rintro e w23 ⟨rfl, hb⟩
                    refine ⟨_, rfl, ?_⟩
                    have n0_ := Aside0.mk (blk_below (g := gb241) (o := .cells #[.int .i64 ((rd_T44 l0 x7_1).f0), .int .i64 ((rd_T44 l0 x7_1).f1), .slice A240_2 ((rd_T44 l0 x7_1).f2).length c240_2] 44 (0, 0)) (mk BK241.out) hb)
                    have n1_ := Aside0.mk (below_step mB hb)
                    clear BK241
                    clear HB
                    have BK241 := n0_
                    have HB := n1_
                    clear n0_ n1_
                    (try clear hb)
                    (try clear hb2)
                    (try clear hk)
                    (try clear hi)
                    refine hK.out _ _ ⟨(blk_cell BK241.out 0).trans rfl, (blk_cell BK241.out 1).trans rfl, (blk_cell BK241.out 2).trans rfl, (cD HB hw242_0), (cD HB hw242_1), (cD HB hw242_2)⟩ (fun hHeld => ?_)
                    clear hK K
                    refine nm (h := ?_)
                    refine pu 5 16 HT_ (h := ?_)
                    refine pu 6 17 HT_ (h := ?_)
                    refine ta 7 18 HT_ HW_ hHeld (hy := by rintro w' ⟨s0, s1, s2, s3, s4, s5⟩; go_simp; with_reducible rfl) (h := ?_)
                    refine one_ (i := 8) (N := some 19) #[true, true, true, true, true, true, true, true, true, false, false, false, false, false, false, false] rfl rfl (one_of HT_.out (by kernel_rfl)) (by decide) (fun K hK => ?_)
                    refine go_ Try.func50 #[.agg #[.int .i64 ((rd_T44 l0 x7_1).f0), .int .i64 ((rd_T44 l0 x7_1).f1), .slice A240_2 ((rd_T44 l0 x7_1).f2).length c240_2]] (h := ?_)
                    with_reducible refine (impl_homogeneous.calls ((rd_T44 l0 x7_1).f0) ((rd_T44 l0 x7_1).f1) _ _ ((rd_T44 l0 x7_1).f2) true _ ?side1 ?side2 A8.out).mono ?_
                    (case side1 => exact mC (Kd.C_below HR240_2.out HB.out))
                    (case side2 => exact HC240_2.out)
                    rintro e w24 ⟨rfl, hb⟩
                    refine ⟨_, rfl, ?_⟩
                    have n0_ := Aside0.mk (blk_below (g := gb241) (o := .cells #[.int .i64 ((rd_T44 l0 x7_1).f0), .int .i64 ((rd_T44 l0 x7_1).f1), .slice A240_2 ((rd_T44 l0 x7_1).f2).length c240_2] 44 (0, 0)) (mk BK241.out) hb)
                    have n1_ := Aside0.mk (below_step mB hb)
                    clear BK241
                    clear HB
                    have BK241 := n0_
                    have HB := n1_
                    clear n0_ n1_
                    (try clear hb)
                    (try clear hb2)
                    (try clear hk)
                    (try clear hi)
                    refine hK.out _ _ ⟨(blk_cell BK241.out 0).trans rfl, (blk_cell BK241.out 1).trans rfl, (blk_cell BK241.out 2).trans rfl, (cD HB hw242_0), (cD HB hw242_1), (cD HB hw242_2)⟩ (fun hHeld => ?_)
                    clear hK K
                    refine nm (h := ?_)
                    refine pu 9 20 HT_ (h := ?_)
                    refine pu 10 21 HT_ (h := ?_)
                    refine pu 11 22 HT_ (h := ?_)
                    refine ta 12 23 HT_ HW_ hHeld (hy := by rintro w' ⟨s0, s1, s2, s3, s4, s5⟩; go_simp; with_reducible rfl) (h := ?_)
                    refine one_ (i := 13) (N := some 24) #[true, true, true, true, true, true, true, true, true, true, true, true, true, true, false, false] rfl rfl (one_of HT_.out (by kernel_rfl)) (by decide) (fun K hK => ?_)
                    refine go_ Try.func37 #[.agg #[.int .i64 ((rd_T44 l0 x7_1).f0), .int .i64 ((rd_T44 l0 x7_1).f1), .slice A240_2 ((rd_T44 l0 x7_1).f2).length c240_2]] (h := ?_)
                    with_reducible refine (impl_degree.calls ((rd_T44 l0 x7_1).f0) ((rd_T44 l0 x7_1).f1) _ _ ((rd_T44 l0 x7_1).f2) t245 _ ?side1 ?side2 A10.out).mono ?_
                    (case side1 => exact mC (Kd.C_below HR240_2.out HB.out))
                    (case side2 => exact HC240_2.out)
                    rintro e w25 ⟨rfl, hb⟩
                    refine ⟨_, rfl, ?_⟩
                    have n0_ := Aside0.mk (blk_below (g := gb241) (o := .cells #[.int .i64 ((rd_T44 l0 x7_1).f0), .int .i64 ((rd_T44 l0 x7_1).f1), .slice A240_2 ((rd_T44 l0 x7_1).f2).length c240_2] 44 (0, 0)) (mk BK241.out) hb)
                    have n1_ := Aside0.mk (below_step mB hb)
                    clear BK241
                    clear HB
                    have BK241 := n0_
                    have HB := n1_
                    clear n0_ n1_
                    (try clear hb)
                    (try clear hb2)
                    (try clear hk)
                    (try clear hi)
                    refine hK.out _ _ ⟨(blk_cell BK241.out 0).trans rfl, (blk_cell BK241.out 1).trans rfl, (blk_cell BK241.out 2).trans rfl, (cD HB hw242_0), (cD HB hw242_1), (cD HB hw242_2)⟩ (fun hHeld => ?_)
                    clear hK K
                    refine nm (h := ?_)
                    refine pu 14 25 HT_ (h := ?_)
                    refine pu 15 26 HT_ (h := ?_)
                    refine done_ (done_of HT_.out (by kernel_rfl)) ?_
                    try go_wp2
                    go_roundg k1
                    case measure => have := HK1.out; omega
                    case rel => exact ⟨(wrap64 (x7_1 + 1)), mF, H', ⟨by have := HK1.out; omega⟩, ⟨mB⟩⟩
                · replace c9 := Bool.eq_false_iff.mpr c9
                  subst c9
                  have H1 : (some false) = some r := by rw [if_neg (show ¬ (false = true) by decide)] at H; exact H
                  clear H
                  have H := H1
                  clear H1
                  obtain rfl := Option.some.inj H
                  have p240 : 0 ≤ (x7_1 : Int) := of_decide_eq_true mS
                  have q240 : x7_1 < (l0.length : Int) := of_decide_eq_true mS
                  obtain ⟨ad240, A240_2, c240_2, e240, hx240_0, hx240_1, hx240_2, hl240_2, hi240_2⟩ := at_T44 HR0.out x7_1 p240 q240
                  cases e240
                  replace hx240_0 := cB HB hx240_0
                  replace hx240_1 := cB HB hx240_1
                  replace hx240_2 := cB HB hx240_2
                  have HR240_2 := Aside0.mk hi240_2
                  have HC240_2 := Aside0.mk hl240_2
                  clear hi240_2 hl240_2
                  replace p240 := eq_true p240
                  replace q240 := eq_true q240
                  try go_wp2_with (first | ((with_reducible refine gate_dst (N := 4) rfl ?_); refine box_event ?hg (N := 4) ?hd (cs := #[.int .i64 0, .int .i64 0, .slice none 0 0]) (t := 44) ?hr ?_; (case hd => rfl); (case hg => rfl); (case hr => first | (go_simp; done) | (go_simp; rfl)); intro gb241 hg w26 hbox hb; have n0_ := Aside0.mk (below_step mB hb); have n1_ := Aside0.mk (hbox); have n2_ := Aside0.mk ((mG : w.heap.size ≤ gb241)); have n3_ := Aside0.mk ((mG : w.heap.size ≤ gb241)); clear HB; have HB := n0_; have BK241 := n1_; have GW241 := n2_; have GE241 := n3_; clear n0_ n1_ n2_ n3_; clear hb hbox hg; have hcz27_0 : w26.cell? ⟨gb241, 0, none⟩ = some (.int .i64 0) := (blk_cell BK241.out 0).trans rfl; have hcz27_1 : w26.cell? ⟨gb241, 1, none⟩ = some (.int .i64 0) := (blk_cell BK241.out 1).trans rfl; have hcz27_2 : w26.cell? ⟨gb241, 2, none⟩ = some (.slice none 0 0) := (blk_cell BK241.out 2).trans rfl; have hfz27_0 := blk_frozen BK241.out 0; have hfz27_1 := blk_frozen BK241.out 1; have hfz27_2 := blk_frozen BK241.out 2))
                  have n0_ : Aside0 ((((w26.setCell ⟨gb241, 0, none⟩ (.int .i64 ((rd_T44 l0 x7_1).f0))).setCell ⟨gb241, 1, none⟩ (.int .i64 ((rd_T44 l0 x7_1).f1))).setCell ⟨gb241, 2, none⟩ (.slice A240_2 ((rd_T44 l0 x7_1).f2).length c240_2)).heap[gb241]? = some (.cells #[.int .i64 ((rd_T44 l0 x7_1).f0), .int .i64 ((rd_T44 l0 x7_1).f1), .slice A240_2 ((rd_T44 l0 x7_1).f2).length c240_2] 44 (0, 0))) := ⟨by (with_reducible repeat (first | refine blk_drewN ?_ _ | refine blk_drew ?_ | refine blk_alloc ?_ _)); refine blk_put (cs := #[.int .i64 ((rd_T44 l0 x7_1).f0), .int .i64 ((rd_T44 l0 x7_1).f1), .slice none 0 0]) ?_ 2 _ rfl; (with_reducible repeat (first | refine blk_drewN ?_ _ | refine blk_drew ?_ | refine blk_alloc ?_ _)); refine blk_put (cs := #[.int .i64 ((rd_T44 l0 x7_1).f0), .int .i64 0, .slice none 0 0]) ?_ 1 _ rfl; (with_reducible repeat (first | refine blk_drewN ?_ _ | refine blk_drew ?_ | refine blk_alloc ?_ _)); refine blk_put (cs := #[.int .i64 0, .int .i64 0, .slice none 0 0]) ?_ 0 _ rfl; (with_reducible repeat (first | refine blk_drewN ?_ _ | refine blk_drew ?_ | refine blk_alloc ?_ _)); exact BK241.out⟩
                  have n1_ : Aside0 (Below w.heap.size w (((w26.setCell ⟨gb241, 0, none⟩ (.int .i64 ((rd_T44 l0 x7_1).f0))).setCell ⟨gb241, 1, none⟩ (.int .i64 ((rd_T44 l0 x7_1).f1))).setCell ⟨gb241, 2, none⟩ (.slice A240_2 ((rd_T44 l0 x7_1).f2).length c240_2))) := ⟨mB⟩
                  (try clear BK241)
                  (try clear HB)
                  generalize (((w26.setCell ⟨gb241, 0, none⟩ (.int .i64 ((rd_T44 l0 x7_1).f0))).setCell ⟨gb241, 1, none⟩ (.int .i64 ((rd_T44 l0 x7_1).f1))).setCell ⟨gb241, 2, none⟩ (.slice A240_2 ((rd_T44 l0 x7_1).f2).length c240_2)) = w28 at n0_ n1_ ⊢
                  have BK241 := n0_
                  have HB := n1_
                  clear n0_ n1_
                  have n0_ := Aside0.mk (blk_drew BK241.out)
                  have n1_ := Aside0.mk (below_drew1 HB.out)
                  clear BK241
                  clear HB
                  have BK241 := n0_
                  have HB := n1_
                  clear n0_ n1_
                  have p242 : 0 ≤ (0 : Int) := (by omega)
                  have q242 : 0 < (l0.length : Int) := of_decide_eq_true mS
                  obtain ⟨ad242, A242_2, c242_2, e242, hx242_0, hx242_1, hx242_2, hl242_2, hi242_2⟩ := at_T44 HR0.out 0 p242 q242
                  have hw242_2 := hx242_2
                  (try rw [show ((0 : Int)).toNat = 0 from rfl] at hw242_2)
                  (try rw [show 0 * 3 = 0 from rfl] at hw242_2)
                  (try rw [Addr.add_zero'] at hw242_2)
                  have hw242_1 := hx242_1
                  (try rw [show ((0 : Int)).toNat = 0 from rfl] at hw242_1)
                  (try rw [show 0 * 3 = 0 from rfl] at hw242_1)
                  (try rw [Addr.add_zero'] at hw242_1)
                  have hw242_0 := hx242_0
                  (try rw [show ((0 : Int)).toNat = 0 from rfl] at hw242_0)
                  (try rw [show 0 * 3 = 0 from rfl] at hw242_0)
                  (try rw [Addr.add_zero'] at hw242_0)
                  obtain rfl : ad240 = ad242 := (by injection e242)
                  have qi242 : (0 < l0.length) = True := eq_true (by omega)
                  (try rw [show ((0 : Int)).toNat = 0 from rfl] at hx242_0)
                  (try rw [show 0 * 3 = 0 from rfl] at hx242_0)
                  (try rw [Addr.add_zero'] at hx242_0)
                  (try rw [show ((0 : Int)).toNat = 0 from rfl] at hx242_1)
                  (try rw [show 0 * 3 = 0 from rfl] at hx242_1)
                  (try rw [Addr.add_zero'] at hx242_1)
                  (try rw [show ((0 : Int)).toNat = 0 from rfl] at hx242_2)
                  (try rw [show 0 * 3 = 0 from rfl] at hx242_2)
                  (try rw [Addr.add_zero'] at hx242_2)
                  replace hx242_0 := cB HB hx242_0
                  replace hx242_1 := cB HB hx242_1
                  replace hx242_2 := cB HB hx242_2
                  have HR242_2 := Aside0.mk hi242_2
                  have HC242_2 := Aside0.mk hl242_2
                  clear hi242_2 hl242_2
                  replace p242 := eq_true p242
                  replace q242 := eq_true q242
                  refine start_ (n := 16) (S := fun w' => w'.cell? ⟨gb241, 0, none⟩ = some (.int .i64 ((rd_T44 l0 x7_1).f0)) ∧ w'.cell? ⟨gb241, 1, none⟩ = some (.int .i64 ((rd_T44 l0 x7_1).f1)) ∧ w'.cell? ⟨gb241, 2, none⟩ = some (.slice A240_2 ((rd_T44 l0 x7_1).f2).length c240_2) ∧ w'.cell? ad240 = some (.int .i64 ((rd_T44 l0 0).f0)) ∧ w'.cell? ⟨ad240.block, ad240.off + 1, none⟩ = some (.int .i64 ((rd_T44 l0 0).f1)) ∧ w'.cell? ⟨ad240.block, ad240.off + 2, none⟩ = some (.slice A242_2 ((rd_T44 l0 0).f2).length c242_2)) (ds := []) #[false, false, false, false, false, false, false, false, false, false, false, false, false, false, false, false] (by kernel_rfl) rfl rfl ⟨(blk_cell BK241.out 0).trans rfl, (blk_cell BK241.out 1).trans rfl, (blk_cell BK241.out 2).trans rfl, (cD HB hw242_0), (cD HB hw242_1), (cD HB hw242_2)⟩ (fun hHeld => ?_); refine with_tabW impl_isList.tab4 impl_isList.bits4 (fun HT_ HW_ => ?_)
                  generalize w28.drew = w29 at BK241 HB HR242_2 hx242_0 hx242_1 hx242_2 hHeld ⊢
                  refine pu 1 12 HT_ (h := ?_)
                  refine pu 2 13 HT_ (h := ?_)
                  refine ta 0 11 HT_ HW_ hHeld (hy := by rintro w' ⟨s0, s1, s2, s3, s4, s5⟩; go_simp; with_reducible rfl) (h := ?_)
                  refine ta 3 14 HT_ HW_ hHeld (hy := by rintro w' ⟨s0, s1, s2, s3, s4, s5⟩; go_simp; with_reducible rfl) (h := ?_)
                  refine one_ (i := 4) (N := some 15) #[true, true, true, true, true, false, false, false, false, false, false, false, false, false, false, false] rfl rfl (one_of HT_.out (by kernel_rfl)) (by decide) (fun K hK => ?_)
                  refine go_ Try.func49 #[.agg #[.int .i64 ((rd_T44 l0 x7_1).f0), .int .i64 ((rd_T44 l0 x7_1).f1), .slice A240_2 ((rd_T44 l0 x7_1).f2).length c240_2], .agg #[.int .i64 ((rd_T44 l0 0).f0), .int .i64 ((rd_T44 l0 0).f1), .slice A242_2 ((rd_T44 l0 0).f2).length c242_2]] (h := ?_)
                  with_reducible refine (impl_alike.calls ((rd_T44 l0 x7_1).f0) ((rd_T44 l0 x7_1).f1) _ _ ((rd_T44 l0 x7_1).f2) ((rd_T44 l0 0).f0) ((rd_T44 l0 0).f1) _ _ ((rd_T44 l0 0).f2) true _ ?side1 ?side2 ?side3 ?side4 A6.out).mono ?_
                  (case side1 => exact mC (Kd.C_below HR240_2.out HB.out))
                  (case side2 => exact HC240_2.out)
                  (case side3 => exact mC (Kd.C_below HR242_2.out HB.out))
                  (case side4 => exact HC242_2.out)
                  rintro e w30 ⟨rfl, hb⟩
                  refine ⟨_, rfl, ?_⟩
                  have n0_ := Aside0.mk (blk_below (g := gb241) (o := .cells #[.int .i64 ((rd_T44 l0 x7_1).f0), .int .i64 ((rd_T44 l0 x7_1).f1), .slice A240_2 ((rd_T44 l0 x7_1).f2).length c240_2] 44 (0, 0)) (mk BK241.out) hb)
                  have n1_ := Aside0.mk (below_step mB hb)
                  clear BK241
                  clear HB
                  have BK241 := n0_
                  have HB := n1_
                  clear n0_ n1_
                  (try clear hb)
                  (try clear hb2)
                  (try clear hk)
                  (try clear hi)
                  refine hK.out _ _ ⟨(blk_cell BK241.out 0).trans rfl, (blk_cell BK241.out 1).trans rfl, (blk_cell BK241.out 2).trans rfl, (cD HB hw242_0), (cD HB hw242_1), (cD HB hw242_2)⟩ (fun hHeld => ?_)
                  clear hK K
                  refine nm (h := ?_)
                  refine pu 5 16 HT_ (h := ?_)
                  refine pu 6 17 HT_ (h := ?_)
                  refine ta 7 18 HT_ HW_ hHeld (hy := by rintro w' ⟨s0, s1, s2, s3, s4, s5⟩; go_simp; with_reducible rfl) (h := ?_)
                  refine one_ (i := 8) (N := some 19) #[true, true, true, true, true, true, true, true, true, false, false, false, false, false, false, false] rfl rfl (one_of HT_.out (by kernel_rfl)) (by decide) (fun K hK => ?_)
                  refine go_ Try.func50 #[.agg #[.int .i64 ((rd_T44 l0 x7_1).f0), .int .i64 ((rd_T44 l0 x7_1).f1), .slice A240_2 ((rd_T44 l0 x7_1).f2).length c240_2]] (h := ?_)
                  with_reducible refine (impl_homogeneous.calls ((rd_T44 l0 x7_1).f0) ((rd_T44 l0 x7_1).f1) _ _ ((rd_T44 l0 x7_1).f2) false _ ?side1 ?side2 A8.out).mono ?_
                  (case side1 => exact mC (Kd.C_below HR240_2.out HB.out))
                  (case side2 => exact HC240_2.out)
                  rintro e w31 ⟨rfl, hb⟩
                  refine ⟨_, rfl, ?_⟩
                  have n0_ := Aside0.mk (blk_below (g := gb241) (o := .cells #[.int .i64 ((rd_T44 l0 x7_1).f0), .int .i64 ((rd_T44 l0 x7_1).f1), .slice A240_2 ((rd_T44 l0 x7_1).f2).length c240_2] 44 (0, 0)) (mk BK241.out) hb)
                  have n1_ := Aside0.mk (below_step mB hb)
                  clear BK241
                  clear HB
                  have BK241 := n0_
                  have HB := n1_
                  clear n0_ n1_
                  (try clear hb)
                  (try clear hb2)
                  (try clear hk)
                  (try clear hi)
                  refine hK.out _ _ ⟨(blk_cell BK241.out 0).trans rfl, (blk_cell BK241.out 1).trans rfl, (blk_cell BK241.out 2).trans rfl, (cD HB hw242_0), (cD HB hw242_1), (cD HB hw242_2)⟩ (fun hHeld => ?_)
                  clear hK K
                  refine nm (h := ?_)
                  refine pu 9 20 HT_ (h := ?_)
                  refine pu 10 21 HT_ (h := ?_)
                  refine pu 11 22 HT_ (h := ?_)
                  refine pv 12 23 HT_ (h := ?_)
                  refine pv 13 24 HT_ (h := ?_)
                  refine pv 14 25 HT_ (h := ?_)
                  refine pu 15 26 HT_ (h := ?_)
                  refine done_ (done_of HT_.out (by kernel_rfl)) ?_
                  try go_wp2
                  go_ret
                  exact ⟨mE, mB⟩
              · replace c7 := Bool.eq_false_iff.mpr c7
                subst c7
                have H1 : (some false) = some r := by rw [if_neg (show ¬ (false = true) by decide)] at H; exact H
                clear H
                have H := H1
                clear H1
                obtain rfl := Option.some.inj H
                have p240 : 0 ≤ (x7_1 : Int) := of_decide_eq_true mS
                have q240 : x7_1 < (l0.length : Int) := of_decide_eq_true mS
                obtain ⟨ad240, A240_2, c240_2, e240, hx240_0, hx240_1, hx240_2, hl240_2, hi240_2⟩ := at_T44 HR0.out x7_1 p240 q240
                cases e240
                replace hx240_0 := cB HB hx240_0
                replace hx240_1 := cB HB hx240_1
                replace hx240_2 := cB HB hx240_2
                have HR240_2 := Aside0.mk hi240_2
                have HC240_2 := Aside0.mk hl240_2
                clear hi240_2 hl240_2
                replace p240 := eq_true p240
                replace q240 := eq_true q240
                try go_wp2_with (first | ((with_reducible refine gate_dst (N := 4) rfl ?_); refine box_event ?hg (N := 4) ?hd (cs := #[.int .i64 0, .int .i64 0, .slice none 0 0]) (t := 44) ?hr ?_; (case hd => rfl); (case hg => rfl); (case hr => first | (go_simp; done) | (go_simp; rfl)); intro gb241 hg w32 hbox hb; have n0_ := Aside0.mk (below_step mB hb); have n1_ := Aside0.mk (hbox); have n2_ := Aside0.mk ((mG : w.heap.size ≤ gb241)); have n3_ := Aside0.mk ((mG : w.heap.size ≤ gb241)); clear HB; have HB := n0_; have BK241 := n1_; have GW241 := n2_; have GE241 := n3_; clear n0_ n1_ n2_ n3_; clear hb hbox hg; have hcz33_0 : w32.cell? ⟨gb241, 0, none⟩ = some (.int .i64 0) := (blk_cell BK241.out 0).trans rfl; have hcz33_1 : w32.cell? ⟨gb241, 1, none⟩ = some (.int .i64 0) := (blk_cell BK241.out 1).trans rfl; have hcz33_2 : w32.cell? ⟨gb241, 2, none⟩ = some (.slice none 0 0) := (blk_cell BK241.out 2).trans rfl; have hfz33_0 := blk_frozen BK241.out 0; have hfz33_1 := blk_frozen BK241.out 1; have hfz33_2 := blk_frozen BK241.out 2))
                have n0_ : Aside0 ((((w32.setCell ⟨gb241, 0, none⟩ (.int .i64 ((rd_T44 l0 x7_1).f0))).setCell ⟨gb241, 1, none⟩ (.int .i64 ((rd_T44 l0 x7_1).f1))).setCell ⟨gb241, 2, none⟩ (.slice A240_2 ((rd_T44 l0 x7_1).f2).length c240_2)).heap[gb241]? = some (.cells #[.int .i64 ((rd_T44 l0 x7_1).f0), .int .i64 ((rd_T44 l0 x7_1).f1), .slice A240_2 ((rd_T44 l0 x7_1).f2).length c240_2] 44 (0, 0))) := ⟨by (with_reducible repeat (first | refine blk_drewN ?_ _ | refine blk_drew ?_ | refine blk_alloc ?_ _)); refine blk_put (cs := #[.int .i64 ((rd_T44 l0 x7_1).f0), .int .i64 ((rd_T44 l0 x7_1).f1), .slice none 0 0]) ?_ 2 _ rfl; (with_reducible repeat (first | refine blk_drewN ?_ _ | refine blk_drew ?_ | refine blk_alloc ?_ _)); refine blk_put (cs := #[.int .i64 ((rd_T44 l0 x7_1).f0), .int .i64 0, .slice none 0 0]) ?_ 1 _ rfl; (with_reducible repeat (first | refine blk_drewN ?_ _ | refine blk_drew ?_ | refine blk_alloc ?_ _)); refine blk_put (cs := #[.int .i64 0, .int .i64 0, .slice none 0 0]) ?_ 0 _ rfl; (with_reducible repeat (first | refine blk_drewN ?_ _ | refine blk_drew ?_ | refine blk_alloc ?_ _)); exact BK241.out⟩
                have n1_ : Aside0 (Below w.heap.size w (((w32.setCell ⟨gb241, 0, none⟩ (.int .i64 ((rd_T44 l0 x7_1).f0))).setCell ⟨gb241, 1, none⟩ (.int .i64 ((rd_T44 l0 x7_1).f1))).setCell ⟨gb241, 2, none⟩ (.slice A240_2 ((rd_T44 l0 x7_1).f2).length c240_2))) := ⟨mB⟩
                (try clear BK241)
                (try clear HB)
                generalize (((w32.setCell ⟨gb241, 0, none⟩ (.int .i64 ((rd_T44 l0 x7_1).f0))).setCell ⟨gb241, 1, none⟩ (.int .i64 ((rd_T44 l0 x7_1).f1))).setCell ⟨gb241, 2, none⟩ (.slice A240_2 ((rd_T44 l0 x7_1).f2).length c240_2)) = w34 at n0_ n1_ ⊢
                have BK241 := n0_
                have HB := n1_
                clear n0_ n1_
                have n0_ := Aside0.mk (blk_drew BK241.out)
                have n1_ := Aside0.mk (below_drew1 HB.out)
                clear BK241
                clear HB
                have BK241 := n0_
                have HB := n1_
                clear n0_ n1_
                have p242 : 0 ≤ (0 : Int) := (by omega)
                have q242 : 0 < (l0.length : Int) := of_decide_eq_true mS
                obtain ⟨ad242, A242_2, c242_2, e242, hx242_0, hx242_1, hx242_2, hl242_2, hi242_2⟩ := at_T44 HR0.out 0 p242 q242
                have hw242_2 := hx242_2
                (try rw [show ((0 : Int)).toNat = 0 from rfl] at hw242_2)
                (try rw [show 0 * 3 = 0 from rfl] at hw242_2)
                (try rw [Addr.add_zero'] at hw242_2)
                have hw242_1 := hx242_1
                (try rw [show ((0 : Int)).toNat = 0 from rfl] at hw242_1)
                (try rw [show 0 * 3 = 0 from rfl] at hw242_1)
                (try rw [Addr.add_zero'] at hw242_1)
                have hw242_0 := hx242_0
                (try rw [show ((0 : Int)).toNat = 0 from rfl] at hw242_0)
                (try rw [show 0 * 3 = 0 from rfl] at hw242_0)
                (try rw [Addr.add_zero'] at hw242_0)
                obtain rfl : ad240 = ad242 := (by injection e242)
                have qi242 : (0 < l0.length) = True := eq_true (by omega)
                (try rw [show ((0 : Int)).toNat = 0 from rfl] at hx242_0)
                (try rw [show 0 * 3 = 0 from rfl] at hx242_0)
                (try rw [Addr.add_zero'] at hx242_0)
                (try rw [show ((0 : Int)).toNat = 0 from rfl] at hx242_1)
                (try rw [show 0 * 3 = 0 from rfl] at hx242_1)
                (try rw [Addr.add_zero'] at hx242_1)
                (try rw [show ((0 : Int)).toNat = 0 from rfl] at hx242_2)
                (try rw [show 0 * 3 = 0 from rfl] at hx242_2)
                (try rw [Addr.add_zero'] at hx242_2)
                replace hx242_0 := cB HB hx242_0
                replace hx242_1 := cB HB hx242_1
                replace hx242_2 := cB HB hx242_2
                have HR242_2 := Aside0.mk hi242_2
                have HC242_2 := Aside0.mk hl242_2
                clear hi242_2 hl242_2
                replace p242 := eq_true p242
                replace q242 := eq_true q242
                refine start_ (n := 16) (S := fun w' => w'.cell? ⟨gb241, 0, none⟩ = some (.int .i64 ((rd_T44 l0 x7_1).f0)) ∧ w'.cell? ⟨gb241, 1, none⟩ = some (.int .i64 ((rd_T44 l0 x7_1).f1)) ∧ w'.cell? ⟨gb241, 2, none⟩ = some (.slice A240_2 ((rd_T44 l0 x7_1).f2).length c240_2) ∧ w'.cell? ad240 = some (.int .i64 ((rd_T44 l0 0).f0)) ∧ w'.cell? ⟨ad240.block, ad240.off + 1, none⟩ = some (.int .i64 ((rd_T44 l0 0).f1)) ∧ w'.cell? ⟨ad240.block, ad240.off + 2, none⟩ = some (.slice A242_2 ((rd_T44 l0 0).f2).length c242_2)) (ds := []) #[false, false, false, false, false, false, false, false, false, false, false, false, false, false, false, false] (by kernel_rfl) rfl rfl ⟨(blk_cell BK241.out 0).trans rfl, (blk_cell BK241.out 1).trans rfl, (blk_cell BK241.out 2).trans rfl, (cD HB hw242_0), (cD HB hw242_1), (cD HB hw242_2)⟩ (fun hHeld => ?_); refine with_tabW impl_isList.tab4 impl_isList.bits4 (fun HT_ HW_ => ?_)
                generalize w34.drew = w35 at BK241 HB HR242_2 hx242_0 hx242_1 hx242_2 hHeld ⊢
                refine pu 1 12 HT_ (h := ?_)
                refine pu 2 13 HT_ (h := ?_)
                refine ta 0 11 HT_ HW_ hHeld (hy := by rintro w' ⟨s0, s1, s2, s3, s4, s5⟩; go_simp; with_reducible rfl) (h := ?_)
                refine ta 3 14 HT_ HW_ hHeld (hy := by rintro w' ⟨s0, s1, s2, s3, s4, s5⟩; go_simp; with_reducible rfl) (h := ?_)
                refine one_ (i := 4) (N := some 15) #[true, true, true, true, true, false, false, false, false, false, false, false, false, false, false, false] rfl rfl (one_of HT_.out (by kernel_rfl)) (by decide) (fun K hK => ?_)
                refine go_ Try.func49 #[.agg #[.int .i64 ((rd_T44 l0 x7_1).f0), .int .i64 ((rd_T44 l0 x7_1).f1), .slice A240_2 ((rd_T44 l0 x7_1).f2).length c240_2], .agg #[.int .i64 ((rd_T44 l0 0).f0), .int .i64 ((rd_T44 l0 0).f1), .slice A242_2 ((rd_T44 l0 0).f2).length c242_2]] (h := ?_)
                with_reducible refine (impl_alike.calls ((rd_T44 l0 x7_1).f0) ((rd_T44 l0 x7_1).f1) _ _ ((rd_T44 l0 x7_1).f2) ((rd_T44 l0 0).f0) ((rd_T44 l0 0).f1) _ _ ((rd_T44 l0 0).f2) false _ ?side1 ?side2 ?side3 ?side4 A6.out).mono ?_
                (case side1 => exact mC (Kd.C_below HR240_2.out HB.out))
                (case side2 => exact HC240_2.out)
                (case side3 => exact mC (Kd.C_below HR242_2.out HB.out))
                (case side4 => exact HC242_2.out)
                rintro e w36 ⟨rfl, hb⟩
                refine ⟨_, rfl, ?_⟩
                have n0_ := Aside0.mk (blk_below (g := gb241) (o := .cells #[.int .i64 ((rd_T44 l0 x7_1).f0), .int .i64 ((rd_T44 l0 x7_1).f1), .slice A240_2 ((rd_T44 l0 x7_1).f2).length c240_2] 44 (0, 0)) (mk BK241.out) hb)
                have n1_ := Aside0.mk (below_step mB hb)
                clear BK241
                clear HB
                have BK241 := n0_
                have HB := n1_
                clear n0_ n1_
                (try clear hb)
                (try clear hb2)
                (try clear hk)
                (try clear hi)
                refine hK.out _ _ ⟨(blk_cell BK241.out 0).trans rfl, (blk_cell BK241.out 1).trans rfl, (blk_cell BK241.out 2).trans rfl, (cD HB hw242_0), (cD HB hw242_1), (cD HB hw242_2)⟩ (fun hHeld => ?_)
                clear hK K
                refine nm (h := ?_)
                refine pu 5 16 HT_ (h := ?_)
                refine pu 6 17 HT_ (h := ?_)
                refine pv 7 18 HT_ (h := ?_)
                refine pv 8 19 HT_ (h := ?_)
                refine pv 9 20 HT_ (h := ?_)
                refine pu 10 21 HT_ (h := ?_)
                refine pu 11 22 HT_ (h := ?_)
                refine pv 12 23 HT_ (h := ?_)
                refine pv 13 24 HT_ (h := ?_)
                refine pv 14 25 HT_ (h := ?_)
                refine pu 15 26 HT_ (h := ?_)
                refine done_ (done_of HT_.out (by kernel_rfl)) ?_
                try go_wp2
                go_ret
                exact ⟨mE, mB⟩
            · rw [if_neg c5] at H
              exact absurd H (by simp)
          · rw [if_neg c4] at H
            exact absurd H (by simp)
        · rw [if_neg c3] at H
          exact absurd H (by simp)
      · rw [if_neg c2] at H
        have c2b0 : decide (x7_1 < (l0.length : Int)) = false := decide_eq_false c2
        clear c2
        obtain rfl := Option.some.inj H
        go_wp2
        go_ret
        exact ⟨mE, mB⟩

end Go.Proofs.Ytpeihdjefpnoaaa.EFnExactFreeNumber
