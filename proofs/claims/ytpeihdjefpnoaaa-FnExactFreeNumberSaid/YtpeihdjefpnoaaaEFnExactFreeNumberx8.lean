/- The functions that the law uses, as plain functions, and that the code comes to what they say. -/
import Derived.Test.YtpeihdjefpnoaaaEFnExactFreeNumberx0
import Derived.Test.YtpeihdjefpnoaaaEFnExactFreeNumberx7
namespace Go.Proofs.Ytpeihdjefpnoaaa.EFnExactFreeNumber
open Go.RowKit Go.Proofs.YtpeihdjefpnoaaaW.PrintWords Go.Proofs.YtpeihdjefpnoaaaW.PrintLast Go.Proofs.YtpeihdjefpnoaaaW.PrintMore Go.Proofs.YtpeihdjefpnoaaaX
attribute [local go_sem] max2_int min2_int max_two min_two max_three min_three max_four min_four   -- for this text's walks alone
set_option linter.unusedVariables false
set_option linter.unusedSimpArgs false

/-! ### impl_IsPoly: function 48 -/
mutual
def impl_IsPoly.j0 : Nat → Bool → Int → Int → List (S66) → Option (Bool)
  | 0, _, _, _, _ => none
  | k + 1, x15, x219000, x219001, x219002 => if x15 = true then (some false) else (impl_IsPoly.l0 k x219002 (x219002.length : Int) 0 x219000 x219001 x219002)
def impl_IsPoly.l0 : Nat → List (S66) → Int → Int → Int → Int → List (S66) → Option (Bool)
  | 0, _, _, _, _, _, _ => none
  | k + 1, x17, x18, x19, x219000, x219001, x219002 => if x19 < x18 then (if 0 ≤ x19 then (if x19 < (x17.length : Int) then ((impl_Exps_degree.f ((rd_T66 x17 x19).f0.f0) ((rd_T66 x17 x19).f0.f1) ((rd_T66 x17 x19).f0.f2)).bind fun t223 => (if t223 > 12 then (impl_IsPoly.j2 k x17 x18 x19 true x219000 x219001 x219002 ((rd_T66 x17 x19).f0.f0) ((rd_T66 x17 x19).f0.f1) ((rd_T66 x17 x19).f0.f2) ((rd_T66 x17 x19).f1)) else (if ((rd_T66 x17 x19).f1) < 1 then (impl_IsPoly.j2 k x17 x18 x19 true x219000 x219001 x219002 ((rd_T66 x17 x19).f0.f0) ((rd_T66 x17 x19).f0.f1) ((rd_T66 x17 x19).f0.f2) ((rd_T66 x17 x19).f1)) else (if ((rd_T66 x17 x19).f1) ≥ x219000 then (impl_IsPoly.j2 k x17 x18 x19 true x219000 x219001 x219002 ((rd_T66 x17 x19).f0.f0) ((rd_T66 x17 x19).f0.f1) ((rd_T66 x17 x19).f0.f2) ((rd_T66 x17 x19).f1)) else (if x19 > 0 then (if 0 ≤ (wrap64 (x19 - 1)) then (if (wrap64 (x19 - 1)) < (x219002.length : Int) then ((impl_compareExps.f ((rd_T66 x219002 (wrap64 (x19 - 1))).f0.f0) ((rd_T66 x219002 (wrap64 (x19 - 1))).f0.f1) ((rd_T66 x219002 (wrap64 (x19 - 1))).f0.f2) ((rd_T66 x17 x19).f0.f0) ((rd_T66 x17 x19).f0.f1) ((rd_T66 x17 x19).f0.f2)).bind fun t225 => (impl_IsPoly.j2 k x17 x18 x19 (decide (t225 ≥ 0)) x219000 x219001 x219002 ((rd_T66 x17 x19).f0.f0) ((rd_T66 x17 x19).f0.f1) ((rd_T66 x17 x19).f0.f2) ((rd_T66 x17 x19).f1))) else (none)) else (none)) else (impl_IsPoly.j2 k x17 x18 x19 false x219000 x219001 x219002 ((rd_T66 x17 x19).f0.f0) ((rd_T66 x17 x19).f0.f1) ((rd_T66 x17 x19).f0.f2) ((rd_T66 x17 x19).f1))))))) else (none)) else (none)) else (some true)
def impl_IsPoly.j2 : Nat → List (S66) → Int → Int → Bool → Int → Int → List (S66) → Int → Int → Int → Int → Option (Bool)
  | 0, _, _, _, _, _, _, _, _, _, _, _ => none
  | k + 1, x17, x18, x19, x56, x219000, x219001, x219002, x223000, x223001, x223002, x223003 => if x56 = true then (some false) else (impl_IsPoly.l1 k x219001 x17 x18 x19 x219000 x219001 x219002 x223000 x223001 x223002 x223003)
def impl_IsPoly.l1 : Nat → Int → List (S66) → Int → Int → Int → Int → List (S66) → Int → Int → Int → Int → Option (Bool)
  | 0, _, _, _, _, _, _, _, _, _, _, _ => none
  | k + 1, x5, x17, x18, x19, x219000, x219001, x219002, x223000, x223001, x223002, x223003 => if x5 < 3 then (if x5 = 0 then (if x223000 = 0 then (impl_IsPoly.l1 k (0 + 1) x17 x18 x19 x219000 x219001 x219002 x223000 x223001 x223002 x223003) else (some false)) else (if x5 = 1 then (if x223001 = 0 then (impl_IsPoly.l1 k (1 + 1) x17 x18 x19 x219000 x219001 x219002 x223000 x223001 x223002 x223003) else (some false)) else (if x5 = 2 then (if x223002 = 0 then (impl_IsPoly.l1 k (2 + 1) x17 x18 x19 x219000 x219001 x219002 x223000 x223001 x223002 x223003) else (some false)) else (none)))) else (impl_IsPoly.l0 k x17 x18 (wrap64 (x19 + 1)) x219000 x219001 x219002)
end
def impl_IsPoly.f (k : Nat) (a0_0 : Int) (a0_1 : Int) (l0_2 : List (S66)) : Option (Bool) := (impl_isPrime.f a0_0).bind fun t219 => (if t219 = true then ((impl_isVars.f a0_1).bind fun t220 => (impl_IsPoly.j0 k (!t220) a0_0 a0_1 l0_2)) else (impl_IsPoly.j0 k true a0_0 a0_1 l0_2))
theorem impl_IsPoly.mono_l : ∀ k, (∀ y0 y1 y2 y3, LeO (impl_IsPoly.j0 k y0 y1 y2 y3) (impl_IsPoly.j0 (k + 1) y0 y1 y2 y3)) ∧ (∀ y0 y1 y2 y3 y4 y5, LeO (impl_IsPoly.l0 k y0 y1 y2 y3 y4 y5) (impl_IsPoly.l0 (k + 1) y0 y1 y2 y3 y4 y5)) ∧ (∀ y0 y1 y2 y3 y4 y5 y6 y7 y8 y9 y10, LeO (impl_IsPoly.j2 k y0 y1 y2 y3 y4 y5 y6 y7 y8 y9 y10) (impl_IsPoly.j2 (k + 1) y0 y1 y2 y3 y4 y5 y6 y7 y8 y9 y10)) ∧ (∀ y0 y1 y2 y3 y4 y5 y6 y7 y8 y9 y10, LeO (impl_IsPoly.l1 k y0 y1 y2 y3 y4 y5 y6 y7 y8 y9 y10) (impl_IsPoly.l1 (k + 1) y0 y1 y2 y3 y4 y5 y6 y7 y8 y9 y10))
  | 0 => ⟨fun _ _ _ _ r h => by simp [impl_IsPoly.j0] at h, fun _ _ _ _ _ _ r h => by simp [impl_IsPoly.l0] at h, fun _ _ _ _ _ _ _ _ _ _ _ r h => by simp [impl_IsPoly.j2] at h, fun _ _ _ _ _ _ _ _ _ _ _ r h => by simp [impl_IsPoly.l1] at h⟩
  | k + 1 => by
    obtain ⟨ih0, ih1, ih2, ih3⟩ := impl_IsPoly.mono_l k
    refine ⟨?_, ?_, ?_, ?_⟩
    · intro y0 y1 y2 y3
      unfold impl_IsPoly.j0
      repeat' first
      | (with_reducible exact ih0 _ _ _ _)
      | (with_reducible exact ih1 _ _ _ _ _ _)
      | (with_reducible exact ih2 _ _ _ _ _ _ _ _ _ _ _)
      | (with_reducible exact ih3 _ _ _ _ _ _ _ _ _ _ _)
      | (with_reducible exact LeO.refl _)
      | (with_reducible exact LeO.none _)
      | (with_reducible refine LeO.ite ?_ ?_)
      | (with_reducible refine LeO.bind ?_ (fun _ => ?_))
      | exact ih0 _ _ _ _
      | exact ih1 _ _ _ _ _ _
      | exact ih2 _ _ _ _ _ _ _ _ _ _ _
      | exact ih3 _ _ _ _ _ _ _ _ _ _ _
      | exact LeO.none _
      | refine LeO.ite ?_ ?_
      | refine LeO.bind ?_ (fun _ => ?_)
    · intro y0 y1 y2 y3 y4 y5
      unfold impl_IsPoly.l0
      repeat' first
      | (with_reducible exact ih0 _ _ _ _)
      | (with_reducible exact ih1 _ _ _ _ _ _)
      | (with_reducible exact ih2 _ _ _ _ _ _ _ _ _ _ _)
      | (with_reducible exact ih3 _ _ _ _ _ _ _ _ _ _ _)
      | (with_reducible exact LeO.refl _)
      | (with_reducible exact LeO.none _)
      | (with_reducible refine LeO.ite ?_ ?_)
      | (with_reducible refine LeO.bind ?_ (fun _ => ?_))
      | exact ih0 _ _ _ _
      | exact ih1 _ _ _ _ _ _
      | exact ih2 _ _ _ _ _ _ _ _ _ _ _
      | exact ih3 _ _ _ _ _ _ _ _ _ _ _
      | exact LeO.none _
      | refine LeO.ite ?_ ?_
      | refine LeO.bind ?_ (fun _ => ?_)
    · intro y0 y1 y2 y3 y4 y5 y6 y7 y8 y9 y10
      unfold impl_IsPoly.j2
      repeat' first
      | (with_reducible exact ih0 _ _ _ _)
      | (with_reducible exact ih1 _ _ _ _ _ _)
      | (with_reducible exact ih2 _ _ _ _ _ _ _ _ _ _ _)
      | (with_reducible exact ih3 _ _ _ _ _ _ _ _ _ _ _)
      | (with_reducible exact LeO.refl _)
      | (with_reducible exact LeO.none _)
      | (with_reducible refine LeO.ite ?_ ?_)
      | (with_reducible refine LeO.bind ?_ (fun _ => ?_))
      | exact ih0 _ _ _ _
      | exact ih1 _ _ _ _ _ _
      | exact ih2 _ _ _ _ _ _ _ _ _ _ _
      | exact ih3 _ _ _ _ _ _ _ _ _ _ _
      | exact LeO.none _
      | refine LeO.ite ?_ ?_
      | refine LeO.bind ?_ (fun _ => ?_)
    · intro y0 y1 y2 y3 y4 y5 y6 y7 y8 y9 y10
      unfold impl_IsPoly.l1
      repeat' first
      | (with_reducible exact ih0 _ _ _ _)
      | (with_reducible exact ih1 _ _ _ _ _ _)
      | (with_reducible exact ih2 _ _ _ _ _ _ _ _ _ _ _)
      | (with_reducible exact ih3 _ _ _ _ _ _ _ _ _ _ _)
      | (with_reducible exact LeO.refl _)
      | (with_reducible exact LeO.none _)
      | (with_reducible refine LeO.ite ?_ ?_)
      | (with_reducible refine LeO.bind ?_ (fun _ => ?_))
      | exact ih0 _ _ _ _
      | exact ih1 _ _ _ _ _ _
      | exact ih2 _ _ _ _ _ _ _ _ _ _ _
      | exact ih3 _ _ _ _ _ _ _ _ _ _ _
      | exact LeO.none _
      | refine LeO.ite ?_ ?_
      | refine LeO.bind ?_ (fun _ => ?_)
theorem impl_IsPoly.mono : ∀ a0 a1 a2 k, LeO (impl_IsPoly.f k a0 a1 a2) (impl_IsPoly.f (k + 1) a0 a1 a2) := by
  intro a0 a1 a2 k
  obtain ⟨ih0, ih1, ih2, ih3⟩ := impl_IsPoly.mono_l k
  unfold impl_IsPoly.f
  repeat' first
      | (with_reducible exact ih0 _ _ _ _)
      | (with_reducible exact ih1 _ _ _ _ _ _)
      | (with_reducible exact ih2 _ _ _ _ _ _ _ _ _ _ _)
      | (with_reducible exact ih3 _ _ _ _ _ _ _ _ _ _ _)
      | (with_reducible exact LeO.refl _)
      | (with_reducible exact LeO.none _)
      | (with_reducible refine LeO.ite ?_ ?_)
      | (with_reducible refine LeO.bind ?_ (fun _ => ?_))
      | exact ih0 _ _ _ _
      | exact ih1 _ _ _ _ _ _
      | exact ih2 _ _ _ _ _ _ _ _ _ _ _
      | exact ih3 _ _ _ _ _ _ _ _ _ _ _
      | exact LeO.none _
      | refine LeO.ite ?_ ?_
      | refine LeO.bind ?_ (fun _ => ?_)
def impl_IsPoly.T6 : Bool × List (List Nat × List Nat) := (true, [([], []), ([0], [0]), ([1], [1]), ([2], [2]), ([3, 2], [3]), ([4], [4]), ([5, 4], [4, 5]), ([6, 4], [4, 6]), ([4, 7], [4, 7]), ([8, 4], [8]), ([9], [9]), ([10, 9], [9, 10]), ([9], [9]), ([12, 9], [9, 12]), ([11, 13, 9], [9, 11, 13]), ([9, 14], [9, 14]), ([15, 9], [15]), ([16], [16]), ([17, 16], [16, 17]), ([18, 16, 16], [16, 18]), ([19], [19]), ([20, 19], [19, 20]), ([19], [19]), ([22, 19], [19, 22]), ([21, 23, 19], [19, 21, 23]), ([24, 19], [19, 24]), ([25, 19], [19, 25]), ([19], [19]), ([27, 19], [19, 27]), ([26, 28, 19, 19], [19, 26, 28]), ([29, 19], [19, 29]), ([19, 30, 16], [16, 19, 30]), ([16, 31], [16, 31])])
def impl_IsPoly.B6 : List Nat := [0, 1, 3, 7, 15, 31, 63, 127, 255, 511, 1023, 2047, 1023, 5119, 16383, 32767, 65535, 131071, 262143, 524287, 1048575, 2097151, 1048575, 5242879, 16777215, 33554431, 67108863, 1048575, 135266303, 536870911, 1073741823, 2147483647, 4294967295]
theorem impl_IsPoly.tab6 : rtab .any (opsOf Try.f48 6) = impl_IsPoly.T6 := by kernel_rfl
theorem impl_IsPoly.bits6 : waitsOk impl_IsPoly.T6.2 impl_IsPoly.B6 = true := by kernel_rfl
set_option maxHeartbeats 8000000 in
set_option maxRecDepth 100000 in
theorem impl_IsPoly.calls (k : Nat) (a0_0 : Int) (a0_1 : Int) (A0_2 : Option Addr) (c0_2 : Nat) (l0_2 : List (S66)) (r : Bool) (w : World) (hr0_2 : Kd.C k66 w A0_2 l0_2.length l0_2) (hc0_2 : l0_2.length ≤ c0_2) (h : impl_IsPoly.f k a0_0 a0_1 l0_2 = some r) :
    Calls Try.prog 48 #[.agg #[.int .i64 a0_0, .int .i64 a0_1, .slice A0_2 l0_2.length c0_2]] w fun e w' => e = .returned (.bool r) ∧ Below w.heap.size w w' := by
  have hu44 := Try.underlying44
  have hu66 := Try.underlying66
  have hu64 := Try.underlying64
  have HR0_2 := Aside0.mk hr0_2
  have HC0_2 := Aside0.mk hc0_2
  clear hr0_2 hc0_2
  have HB := Aside0.mk (Below.refl w.heap.size w)
  have H : ((impl_isPrime.f a0_0).bind fun t219 => (if t219 = true then ((impl_isVars.f a0_1).bind fun t220 => (impl_IsPoly.j0 k (!t220) a0_0 a0_1 l0_2)) else (impl_IsPoly.j0 k true a0_0 a0_1 l0_2))) = some r := h
  clear h
  have HC2 := Aside0.mk H
  clear H
  go_enter Try.func48, Try.ntmps48
  go_upto_region 1 with (first | ((with_reducible refine gate_dst (N := 1) rfl ?_); refine box_event ?hg (N := 1) ?hd (cs := #[.int .i64 a0_0, .int .i64 a0_1, .slice A0_2 l0_2.length c0_2]) (t := 44) ?hr ?_; (case hd => rfl); (case hg => rfl); (case hr => first | (go_simp; done) | (go_simp; rfl)); intro gb218 hg w3 hbox hb; have n0_ := Aside0.mk (below_step mB hb); have n1_ := Aside0.mk (hbox); have n2_ := Aside0.mk ((mG : w.heap.size ≤ gb218)); have n3_ := Aside0.mk ((mG : w.heap.size ≤ gb218)); clear HB; have HB := n0_; have BK218 := n1_; have GW218 := n2_; have GE218 := n3_; clear n0_ n1_ n2_ n3_; clear hb hbox hg))
  (try simp only [Act.put, List.setIfInBounds_toArray, List.set_cons_zero, List.set_cons_succ])
  go_cut [15] (fun v15 wc => ∃ (kq : Nat) (x15_1 : Bool), v15 = .bool x15_1 ∧ Aside0 (impl_IsPoly.j0 kq x15_1 a0_0 a0_1 l0_2 = some r) ∧ Aside0 (kq ≤ k) ∧ Aside0 (wc.heap[gb218]? = some (.cells #[.int .i64 a0_0, .int .i64 a0_1, (.slice A0_2 l0_2.length c0_2)] 44 (0, 0))) ∧ Aside0 (Below w.heap.size w wc))
  case first =>
    have H := HC2.out
    clear HC2
    replace H := Option.bind_eq_some_iff.mp H
    obtain ⟨t219, A40, H⟩ := H
    replace H : (if t219 = true then ((impl_isVars.f a0_1).bind fun t220 => (impl_IsPoly.j0 k (!t220) a0_0 a0_1 l0_2)) else (impl_IsPoly.j0 k true a0_0 a0_1 l0_2)) = some r := H
    have A4 := Aside0.mk A40
    clear A40
    by_cases c5 : t219 = true
    · subst c5
      have H1 : ((impl_isVars.f a0_1).bind fun t220 => (impl_IsPoly.j0 k (!t220) a0_0 a0_1 l0_2)) = some r := by rw [if_pos rfl] at H; exact H
      clear H
      have H := H1
      clear H1
      replace H := Option.bind_eq_some_iff.mp H
      obtain ⟨t220, A60, H⟩ := H
      replace H : (impl_IsPoly.j0 k (!t220) a0_0 a0_1 l0_2) = some r := H
      have A6 := Aside0.mk A60
      clear A60
      have H' := Aside0.mk H
      clear H
      have hcz7_0 : w3.cell? ⟨gb218, 0, none⟩ = some (.int .i64 a0_0) := (blk_cell BK218.out 0).trans rfl
      have hcz7_1 : w3.cell? ⟨gb218, 1, none⟩ = some (.int .i64 a0_1) := (blk_cell BK218.out 1).trans rfl
      have hcz7_2 : w3.cell? ⟨gb218, 2, none⟩ = some (.slice A0_2 l0_2.length c0_2) := (blk_cell BK218.out 2).trans rfl
      have hfz7_0 := blk_frozen BK218.out 0
      have hfz7_1 := blk_frozen BK218.out 1
      have hfz7_2 := blk_frozen BK218.out 2
      go_wp2_with (first | ((with_reducible refine gate_callee (f := 56) rfl ?_); refine goL (some 8) Try.func56 #[.int .i64 a0_0] (h := ?_); (with_reducible refine (impl_isPrime.calls a0_0 true _ A4.out).mono ?_); rintro e w' ⟨rfl, ⟨nd, rfl⟩⟩; refine ⟨_, rfl, ?_⟩) | (go_at_call 57; (with_reducible refine (impl_isVars.calls a0_1 t220 _ A6.out).mono ?_); rintro e w' ⟨rfl, ⟨nd, rfl⟩⟩))
      go_meet
      case rel => exact ⟨_, (!t220), mF, H', ⟨by first | omega | exact Nat.le_refl _⟩, ⟨by (with_reducible repeat (first | refine blk_drewN ?_ _ | refine blk_drew ?_ | refine blk_alloc ?_ _)); exact BK218.out⟩, ⟨mB⟩⟩
    · replace c5 := Bool.eq_false_iff.mpr c5
      subst c5
      have H1 : (impl_IsPoly.j0 k true a0_0 a0_1 l0_2) = some r := by rw [if_neg (show ¬ (false = true) by decide)] at H; exact H
      clear H
      have H := H1
      clear H1
      have H' := Aside0.mk H
      clear H
      have hcz8_0 : w3.cell? ⟨gb218, 0, none⟩ = some (.int .i64 a0_0) := (blk_cell BK218.out 0).trans rfl
      have hcz8_1 : w3.cell? ⟨gb218, 1, none⟩ = some (.int .i64 a0_1) := (blk_cell BK218.out 1).trans rfl
      have hcz8_2 : w3.cell? ⟨gb218, 2, none⟩ = some (.slice A0_2 l0_2.length c0_2) := (blk_cell BK218.out 2).trans rfl
      have hfz8_0 := blk_frozen BK218.out 0
      have hfz8_1 := blk_frozen BK218.out 1
      have hfz8_2 := blk_frozen BK218.out 2
      go_wp2_with (first | ((with_reducible refine gate_callee (f := 56) rfl ?_); refine goL (some 8) Try.func56 #[.int .i64 a0_0] (h := ?_); (with_reducible refine (impl_isPrime.calls a0_0 false _ A4.out).mono ?_); rintro e w' ⟨rfl, ⟨nd, rfl⟩⟩; refine ⟨_, rfl, ?_⟩))
      go_meet
      case rel => exact ⟨_, (true), mF, H', ⟨by first | omega | exact Nat.le_refl _⟩, ⟨by (with_reducible repeat (first | refine blk_drewN ?_ _ | refine blk_drew ?_ | refine blk_alloc ?_ _)); exact BK218.out⟩, ⟨mB⟩⟩
  case rest =>
    clear HC2
    try clear p2
    try clear c4
    try clear c5
    try clear hcz7_0
    try clear hcz7_1
    try clear hcz7_2
    try clear hcz8_0
    try clear hcz8_1
    try clear hcz8_2
    try clear hfz7_0
    try clear hfz7_1
    try clear hfz7_2
    try clear hfz8_0
    try clear hfz8_1
    try clear hfz8_2
    obtain ⟨kq, x15_1, rfl, HA, HJ1, BK218, HB⟩ := hcut
    cases kq with
    | zero => exact absurd HA.out (by simp [impl_IsPoly.j0])
    | succ kj1 =>
      have H := HA.out
      clear HA
      simp only [impl_IsPoly.j0] at H
      by_cases c9 : x15_1 = true
      · subst c9
        have H1 : (some false) = some r := by rw [if_pos rfl] at H; exact H
        clear H
        have H := H1
        clear H1
        obtain rfl := Option.some.inj H
        go_wp2
        go_ret
        exact ⟨mE, mB⟩
      · replace c9 := Bool.eq_false_iff.mpr c9
        subst c9
        have H1 : (impl_IsPoly.l0 kj1 l0_2 (l0_2.length : Int) 0 a0_0 a0_1 l0_2) = some r := by rw [if_neg (show ¬ (false = true) by decide)] at H; exact H
        clear H
        have H := H1
        clear H1
        have H' := Aside0.mk H
        clear H
        have hcz10_0 : wc.cell? ⟨gb218, 0, none⟩ = some (.int .i64 a0_0) := (blk_cell BK218.out 0).trans rfl
        have hcz10_1 : wc.cell? ⟨gb218, 1, none⟩ = some (.int .i64 a0_1) := (blk_cell BK218.out 1).trans rfl
        have hcz10_2 : wc.cell? ⟨gb218, 2, none⟩ = some (.slice A0_2 l0_2.length c0_2) := (blk_cell BK218.out 2).trans rfl
        have hfz10_0 := blk_frozen BK218.out 0
        have hfz10_1 := blk_frozen BK218.out 1
        have hfz10_2 := blk_frozen BK218.out 2
        go_wp2
        go_loopg [19] kj1 (fun kq v19 w' => ∃ (x19_2 : Int), v19 = .int .i64 x19_2 ∧ Aside0 (impl_IsPoly.l0 kq l0_2 (l0_2.length : Int) x19_2 a0_0 a0_1 l0_2 = some r) ∧ Aside0 (kq ≤ kj1) ∧ Aside0 (w'.heap[gb218]? = some (.cells #[.int .i64 a0_0, .int .i64 a0_1, (.slice A0_2 l0_2.length c0_2)] 44 (0, 0))) ∧ Aside0 (Below w.heap.size w w'))
        case atStart => exact ⟨(0), mF, H', ⟨Nat.le_refl _⟩, ⟨by (with_reducible repeat (first | refine blk_drewN ?_ _ | refine blk_drew ?_ | refine blk_alloc ?_ _)); exact BK218.out⟩, ⟨mB⟩⟩
        case round =>
          clear H'
          try clear p2
          try clear c4
          try clear c5
          try clear c9
          try clear hcz10_0
          try clear hcz10_1
          try clear hcz10_2
          try clear hcz7_0
          try clear hcz7_1
          try clear hcz7_2
          try clear hcz8_0
          try clear hcz8_1
          try clear hcz8_2
          try clear hfz10_0
          try clear hfz10_1
          try clear hfz10_2
          try clear hfz7_0
          try clear hfz7_1
          try clear hfz7_2
          try clear hfz8_0
          try clear hfz8_1
          try clear hfz8_2
          try clear p2
          obtain ⟨x19_2, rfl, HA, HK2, BK218, HB⟩ := hrel
          cases gk with
          | zero => exact absurd HA.out (by simp [impl_IsPoly.l0])
          | succ k2 =>
            have H := HA.out
            clear HA
            simp only [impl_IsPoly.l0] at H
            by_cases c11 : x19_2 < (l0_2.length : Int)
            · rw [if_pos c11] at H
              have c11b0 : decide (x19_2 < (l0_2.length : Int)) = true := decide_eq_true c11
              clear c11
              by_cases c12 : 0 ≤ x19_2
              · rw [if_pos c12] at H
                have c12b0 : decide (0 ≤ x19_2) = true := decide_eq_true c12
                clear c12
                by_cases c13 : x19_2 < (l0_2.length : Int)
                · rw [if_pos c13] at H
                  have c13b0 : decide (x19_2 < (l0_2.length : Int)) = true := decide_eq_true c13
                  clear c13
                  have HC14 := Aside0.mk H
                  clear H
                  have p221 : 0 ≤ (x19_2 : Int) := of_decide_eq_true mS
                  have q221 : x19_2 < (l0_2.length : Int) := of_decide_eq_true mS
                  obtain ⟨ad221, e221, hx221_0, hx221_1, hx221_2, hx221_3⟩ := at_T66 HR0_2.out x19_2 p221 q221
                  cases e221
                  replace hx221_0 := cB HB hx221_0
                  replace hx221_1 := cB HB hx221_1
                  replace hx221_2 := cB HB hx221_2
                  replace hx221_3 := cB HB hx221_3
                  replace p221 := eq_true p221
                  replace q221 := eq_true q221
                  go_upto_region 6 with (first | ((with_reducible refine gate_dst (N := 4) rfl ?_); refine box_event ?hg (N := 4) ?hd (cs := #[.int .u8 0, .int .u8 0, .int .u8 0, .int .i64 0]) (t := 66) ?hr ?_; (case hd => rfl); (case hg => rfl); (case hr => first | (go_simp; done) | (go_simp; rfl)); intro gb222 hg w15 hbox hb; have n0_ := Aside0.mk (blk_below (g := gb218) (o := .cells #[.int .i64 a0_0, .int .i64 a0_1, .slice (some ad221) l0_2.length c0_2] 44 (0, 0)) (mk BK218.out) hb); have n1_ := Aside0.mk (below_step mB hb); have n2_ := Aside0.mk (hbox); have n3_ := Aside0.mk ((mG : w.heap.size ≤ gb222)); have n4_ := Aside0.mk ((mG : w.heap.size ≤ gb222)); have n5_ := Aside0.mk ((by rw [hg]; exact Nat.ne_of_lt (blk_lt (g := gb218) (o := .cells #[.int .i64 a0_0, .int .i64 a0_1, .slice (some ad221) l0_2.length c0_2] 44 (0, 0)) (mk BK218.out)) : gb218 ≠ gb222)); have n6_ := Aside0.mk ((by rw [hg]; exact Nat.ne_of_gt (blk_lt (g := gb218) (o := .cells #[.int .i64 a0_0, .int .i64 a0_1, .slice (some ad221) l0_2.length c0_2] 44 (0, 0)) (mk BK218.out)) : gb222 ≠ gb218)); clear BK218; clear HB; have BK218 := n0_; have HB := n1_; have BK222 := n2_; have GW222 := n3_; have GE222 := n4_; have NB218_222 := n5_; have NB222_218 := n6_; clear n0_ n1_ n2_ n3_ n4_ n5_ n6_; clear hb hbox hg; have hnb16 := NB222_218.out; have hnc16 := NB218_222.out; have hcz17_0 : w15.cell? ⟨gb222, 0, none⟩ = some (.int .u8 0) := (blk_cell BK222.out 0).trans rfl; have hcz17_1 : w15.cell? ⟨gb222, 1, none⟩ = some (.int .u8 0) := (blk_cell BK222.out 1).trans rfl; have hcz17_2 : w15.cell? ⟨gb222, 2, none⟩ = some (.int .u8 0) := (blk_cell BK222.out 2).trans rfl; have hcz17_3 : w15.cell? ⟨gb222, 3, none⟩ = some (.int .i64 0) := (blk_cell BK222.out 3).trans rfl; have hfz17_0 := blk_frozen BK222.out 0; have hfz17_1 := blk_frozen BK222.out 1; have hfz17_2 := blk_frozen BK222.out 2; have hfz17_3 := blk_frozen BK222.out 3))
                  (try simp only [Act.put, List.setIfInBounds_toArray, List.set_cons_zero, List.set_cons_succ])
                  go_cut [56] (fun v56 wc => ∃ (kq : Nat) (x56_13 : Bool), v56 = .bool x56_13 ∧ Aside0 (impl_IsPoly.j2 kq l0_2 (l0_2.length : Int) x19_2 x56_13 a0_0 a0_1 l0_2 ((rd_T66 l0_2 x19_2).f0.f0) ((rd_T66 l0_2 x19_2).f0.f1) ((rd_T66 l0_2 x19_2).f0.f2) ((rd_T66 l0_2 x19_2).f1) = some r) ∧ Aside0 (kq ≤ k2) ∧ Aside0 (wc.heap[gb218]? = some (.cells #[.int .i64 a0_0, .int .i64 a0_1, (.slice (some ad221) l0_2.length c0_2)] 44 (0, 0))) ∧ Aside0 (wc.heap[gb222]? = some (.cells #[.int .u8 ((rd_T66 l0_2 x19_2).f0.f0), .int .u8 ((rd_T66 l0_2 x19_2).f0.f1), .int .u8 ((rd_T66 l0_2 x19_2).f0.f2), .int .i64 ((rd_T66 l0_2 x19_2).f1)] 66 (0, 0))) ∧ Aside0 (Below w.heap.size w wc))
                  case first =>
                    have H := HC14.out
                    clear HC14
                    replace H := Option.bind_eq_some_iff.mp H
                    obtain ⟨t223, A180, H⟩ := H
                    replace H : (if t223 > 12 then (impl_IsPoly.j2 k2 l0_2 (l0_2.length : Int) x19_2 true a0_0 a0_1 l0_2 ((rd_T66 l0_2 x19_2).f0.f0) ((rd_T66 l0_2 x19_2).f0.f1) ((rd_T66 l0_2 x19_2).f0.f2) ((rd_T66 l0_2 x19_2).f1)) else (if ((rd_T66 l0_2 x19_2).f1) < 1 then (impl_IsPoly.j2 k2 l0_2 (l0_2.length : Int) x19_2 true a0_0 a0_1 l0_2 ((rd_T66 l0_2 x19_2).f0.f0) ((rd_T66 l0_2 x19_2).f0.f1) ((rd_T66 l0_2 x19_2).f0.f2) ((rd_T66 l0_2 x19_2).f1)) else (if ((rd_T66 l0_2 x19_2).f1) ≥ a0_0 then (impl_IsPoly.j2 k2 l0_2 (l0_2.length : Int) x19_2 true a0_0 a0_1 l0_2 ((rd_T66 l0_2 x19_2).f0.f0) ((rd_T66 l0_2 x19_2).f0.f1) ((rd_T66 l0_2 x19_2).f0.f2) ((rd_T66 l0_2 x19_2).f1)) else (if x19_2 > 0 then (if 0 ≤ (wrap64 (x19_2 - 1)) then (if (wrap64 (x19_2 - 1)) < (l0_2.length : Int) then ((impl_compareExps.f ((rd_T66 l0_2 (wrap64 (x19_2 - 1))).f0.f0) ((rd_T66 l0_2 (wrap64 (x19_2 - 1))).f0.f1) ((rd_T66 l0_2 (wrap64 (x19_2 - 1))).f0.f2) ((rd_T66 l0_2 x19_2).f0.f0) ((rd_T66 l0_2 x19_2).f0.f1) ((rd_T66 l0_2 x19_2).f0.f2)).bind fun t225 => (impl_IsPoly.j2 k2 l0_2 (l0_2.length : Int) x19_2 (decide (t225 ≥ 0)) a0_0 a0_1 l0_2 ((rd_T66 l0_2 x19_2).f0.f0) ((rd_T66 l0_2 x19_2).f0.f1) ((rd_T66 l0_2 x19_2).f0.f2) ((rd_T66 l0_2 x19_2).f1))) else (none)) else (none)) else (impl_IsPoly.j2 k2 l0_2 (l0_2.length : Int) x19_2 false a0_0 a0_1 l0_2 ((rd_T66 l0_2 x19_2).f0.f0) ((rd_T66 l0_2 x19_2).f0.f1) ((rd_T66 l0_2 x19_2).f0.f2) ((rd_T66 l0_2 x19_2).f1)))))) = some r := H
                    have A18 := Aside0.mk A180
                    clear A180
                    by_cases c19 : t223 > 12
                    · rw [if_pos c19] at H
                      have c19b0 : decide (12 < t223) = true := decide_eq_true c19
                      clear c19
                      (first | rw [c19b0] | (simp only [i64_w, i32_w]; rw [c19b0]) | skip)
                      have H' := Aside0.mk H
                      clear H
                      try go_wp2
                      have n0_ : Aside0 (((((w15.setCell ⟨gb222, 0, none⟩ (.int .u8 ((rd_T66 l0_2 x19_2).f0.f0))).setCell ⟨gb222, 1, none⟩ (.int .u8 ((rd_T66 l0_2 x19_2).f0.f1))).setCell ⟨gb222, 2, none⟩ (.int .u8 ((rd_T66 l0_2 x19_2).f0.f2))).setCell ⟨gb222, 3, none⟩ (.int .i64 ((rd_T66 l0_2 x19_2).f1))).heap[gb218]? = some (.cells #[.int .i64 a0_0, .int .i64 a0_1, .slice (some ad221) l0_2.length c0_2] 44 (0, 0))) := ⟨by (with_reducible repeat (first | refine blk_drewN ?_ _ | refine blk_drew ?_ | refine blk_alloc ?_ _)); refine blk_far ?_ NB218_222.out _; (with_reducible repeat (first | refine blk_drewN ?_ _ | refine blk_drew ?_ | refine blk_alloc ?_ _)); refine blk_far ?_ NB218_222.out _; (with_reducible repeat (first | refine blk_drewN ?_ _ | refine blk_drew ?_ | refine blk_alloc ?_ _)); refine blk_far ?_ NB218_222.out _; (with_reducible repeat (first | refine blk_drewN ?_ _ | refine blk_drew ?_ | refine blk_alloc ?_ _)); refine blk_far ?_ NB218_222.out _; (with_reducible repeat (first | refine blk_drewN ?_ _ | refine blk_drew ?_ | refine blk_alloc ?_ _)); exact BK218.out⟩
                      have n1_ : Aside0 (((((w15.setCell ⟨gb222, 0, none⟩ (.int .u8 ((rd_T66 l0_2 x19_2).f0.f0))).setCell ⟨gb222, 1, none⟩ (.int .u8 ((rd_T66 l0_2 x19_2).f0.f1))).setCell ⟨gb222, 2, none⟩ (.int .u8 ((rd_T66 l0_2 x19_2).f0.f2))).setCell ⟨gb222, 3, none⟩ (.int .i64 ((rd_T66 l0_2 x19_2).f1))).heap[gb222]? = some (.cells #[.int .u8 ((rd_T66 l0_2 x19_2).f0.f0), .int .u8 ((rd_T66 l0_2 x19_2).f0.f1), .int .u8 ((rd_T66 l0_2 x19_2).f0.f2), .int .i64 ((rd_T66 l0_2 x19_2).f1)] 66 (0, 0))) := ⟨by (with_reducible repeat (first | refine blk_drewN ?_ _ | refine blk_drew ?_ | refine blk_alloc ?_ _)); refine blk_put (cs := #[.int .u8 ((rd_T66 l0_2 x19_2).f0.f0), .int .u8 ((rd_T66 l0_2 x19_2).f0.f1), .int .u8 ((rd_T66 l0_2 x19_2).f0.f2), .int .i64 0]) ?_ 3 _ rfl; (with_reducible repeat (first | refine blk_drewN ?_ _ | refine blk_drew ?_ | refine blk_alloc ?_ _)); refine blk_put (cs := #[.int .u8 ((rd_T66 l0_2 x19_2).f0.f0), .int .u8 ((rd_T66 l0_2 x19_2).f0.f1), .int .u8 0, .int .i64 0]) ?_ 2 _ rfl; (with_reducible repeat (first | refine blk_drewN ?_ _ | refine blk_drew ?_ | refine blk_alloc ?_ _)); refine blk_put (cs := #[.int .u8 ((rd_T66 l0_2 x19_2).f0.f0), .int .u8 0, .int .u8 0, .int .i64 0]) ?_ 1 _ rfl; (with_reducible repeat (first | refine blk_drewN ?_ _ | refine blk_drew ?_ | refine blk_alloc ?_ _)); refine blk_put (cs := #[.int .u8 0, .int .u8 0, .int .u8 0, .int .i64 0]) ?_ 0 _ rfl; (with_reducible repeat (first | refine blk_drewN ?_ _ | refine blk_drew ?_ | refine blk_alloc ?_ _)); exact BK222.out⟩
                      have n2_ : Aside0 (Below w.heap.size w ((((w15.setCell ⟨gb222, 0, none⟩ (.int .u8 ((rd_T66 l0_2 x19_2).f0.f0))).setCell ⟨gb222, 1, none⟩ (.int .u8 ((rd_T66 l0_2 x19_2).f0.f1))).setCell ⟨gb222, 2, none⟩ (.int .u8 ((rd_T66 l0_2 x19_2).f0.f2))).setCell ⟨gb222, 3, none⟩ (.int .i64 ((rd_T66 l0_2 x19_2).f1)))) := ⟨mB⟩
                      (try clear BK218)
                      (try clear BK222)
                      (try clear HB)
                      generalize ((((w15.setCell ⟨gb222, 0, none⟩ (.int .u8 ((rd_T66 l0_2 x19_2).f0.f0))).setCell ⟨gb222, 1, none⟩ (.int .u8 ((rd_T66 l0_2 x19_2).f0.f1))).setCell ⟨gb222, 2, none⟩ (.int .u8 ((rd_T66 l0_2 x19_2).f0.f2))).setCell ⟨gb222, 3, none⟩ (.int .i64 ((rd_T66 l0_2 x19_2).f1))) = w20 at n0_ n1_ n2_ ⊢
                      have BK218 := n0_
                      have BK222 := n1_
                      have HB := n2_
                      clear n0_ n1_ n2_
                      have n0_ := Aside0.mk (blk_drew BK218.out)
                      have n1_ := Aside0.mk (blk_drew BK222.out)
                      have n2_ := Aside0.mk (below_drew1 HB.out)
                      clear BK218
                      clear BK222
                      clear HB
                      have BK218 := n0_
                      have BK222 := n1_
                      have HB := n2_
                      clear n0_ n1_ n2_
                      refine start_ (n := 33) (S := fun w' => w'.cell? ⟨gb222, 0, none⟩ = some (.int .u8 ((rd_T66 l0_2 x19_2).f0.f0)) ∧ w'.cell? ⟨gb222, 1, none⟩ = some (.int .u8 ((rd_T66 l0_2 x19_2).f0.f1)) ∧ w'.cell? ⟨gb222, 2, none⟩ = some (.int .u8 ((rd_T66 l0_2 x19_2).f0.f2)) ∧ w'.cell? ⟨gb222, 3, none⟩ = some (.int .i64 ((rd_T66 l0_2 x19_2).f1))) (ds := []) #[false, false, false, false, false, false, false, false, false, false, false, false, false, false, false, false, false, false, false, false, false, false, false, false, false, false, false, false, false, false, false, false, false] (by kernel_rfl) rfl rfl ⟨(blk_cell BK222.out 0).trans rfl, (blk_cell BK222.out 1).trans rfl, (blk_cell BK222.out 2).trans rfl, (blk_cell BK222.out 3).trans rfl⟩ (fun hHeld => ?_); refine with_tabW impl_IsPoly.tab6 impl_IsPoly.bits6 (fun HT_ HW_ => ?_)
                      generalize w20.drew = w21 at BK218 BK222 HB hHeld ⊢
                      refine pu 0 24 HT_ (h := ?_)
                      refine ta 1 25 HT_ HW_ hHeld (hy := by rintro w' ⟨s0, s1, s2, s3⟩; go_simp; with_reducible rfl) (h := ?_)
                      refine one_ (i := 2) (N := some 26) #[true, true, true, false, false, false, false, false, false, false, false, false, false, false, false, false, false, false, false, false, false, false, false, false, false, false, false, false, false, false, false, false, false] rfl rfl (one_of HT_.out (by kernel_rfl)) (by decide) (fun K hK => ?_)
                      refine go_ Try.func44 #[.agg #[.int .u8 ((rd_T66 l0_2 x19_2).f0.f0), .int .u8 ((rd_T66 l0_2 x19_2).f0.f1), .int .u8 ((rd_T66 l0_2 x19_2).f0.f2)]] (h := ?_)
                      with_reducible refine (impl_Exps_degree.calls ((rd_T66 l0_2 x19_2).f0.f0) ((rd_T66 l0_2 x19_2).f0.f1) ((rd_T66 l0_2 x19_2).f0.f2) t223 _ A18.out).mono ?_
                      rintro e w22 ⟨rfl, hb⟩
                      refine ⟨_, rfl, ?_⟩
                      have n0_ := Aside0.mk (blk_below (g := gb218) (o := .cells #[.int .i64 a0_0, .int .i64 a0_1, .slice (some ad221) l0_2.length c0_2] 44 (0, 0)) (mk BK218.out) hb)
                      have n1_ := Aside0.mk (blk_below (g := gb222) (o := .cells #[.int .u8 ((rd_T66 l0_2 x19_2).f0.f0), .int .u8 ((rd_T66 l0_2 x19_2).f0.f1), .int .u8 ((rd_T66 l0_2 x19_2).f0.f2), .int .i64 ((rd_T66 l0_2 x19_2).f1)] 66 (0, 0)) (mk BK222.out) hb)
                      have n2_ := Aside0.mk (below_step mB hb)
                      clear BK218
                      clear BK222
                      clear HB
                      have BK218 := n0_
                      have BK222 := n1_
                      have HB := n2_
                      clear n0_ n1_ n2_
                      (try clear hb)
                      (try clear hb2)
                      (try clear hk)
                      (try clear hi)
                      refine hK.out _ _ ⟨(blk_cell BK222.out 0).trans rfl, (blk_cell BK222.out 1).trans rfl, (blk_cell BK222.out 2).trans rfl, (blk_cell BK222.out 3).trans rfl⟩ (fun hHeld => ?_)
                      clear hK K
                      refine nm (h := ?_)
                      refine pu 3 27 HT_ (h := ?_)
                      refine pu 4 28 HT_ (h := ?_)
                      refine pv 5 29 HT_ (h := ?_)
                      refine pv 6 30 HT_ (h := ?_)
                      refine pv 7 31 HT_ (h := ?_)
                      refine pu 8 32 HT_ (h := ?_)
                      refine pu 9 33 HT_ (h := ?_)
                      refine pv 10 34 HT_ (h := ?_)
                      refine pv 11 35 HT_ (h := ?_)
                      refine pv 12 36 HT_ (h := ?_)
                      refine pv 13 37 HT_ (h := ?_)
                      refine pv 14 38 HT_ (h := ?_)
                      refine pu 15 39 HT_ (h := ?_)
                      refine pu 16 40 HT_ (h := ?_)
                      refine pv 17 41 HT_ (h := ?_)
                      refine pv 18 42 HT_ (h := ?_)
                      refine pv 19 43 HT_ (h := ?_)
                      refine pv 20 44 HT_ (h := ?_)
                      refine pv 21 45 HT_ (h := ?_)
                      refine pv 22 46 HT_ (h := ?_)
                      refine pv 23 47 HT_ (h := ?_)
                      refine pv 24 48 HT_ (h := ?_)
                      refine pv 25 49 HT_ (h := ?_)
                      refine pv 26 50 HT_ (h := ?_)
                      refine pv 27 51 HT_ (h := ?_)
                      refine pv 28 52 HT_ (h := ?_)
                      refine pv 29 53 HT_ (h := ?_)
                      refine pv 30 54 HT_ (h := ?_)
                      refine pv 31 55 HT_ (h := ?_)
                      refine pu 32 56 HT_ (h := ?_)
                      refine done_ (done_of HT_.out (by kernel_rfl)) ?_
                      try go_wp2
                      go_meet
                      case rel => exact ⟨_, (true), mF, H', ⟨by have := HJ1.out; have := HK2.out; first | omega | exact Nat.le_refl _⟩, ⟨by (with_reducible repeat (first | refine blk_drewN ?_ _ | refine blk_drew ?_ | refine blk_alloc ?_ _)); exact BK218.out⟩, ⟨by (with_reducible repeat (first | refine blk_drewN ?_ _ | refine blk_drew ?_ | refine blk_alloc ?_ _)); exact BK222.out⟩, ⟨mB⟩⟩
                    · rw [if_neg c19] at H
                      have c19b0 : decide (12 < t223) = false := decide_eq_false c19
                      clear c19
                      (first | rw [c19b0] | (simp only [i64_w, i32_w]; rw [c19b0]) | skip)
                      by_cases c23 : ((rd_T66 l0_2 x19_2).f1) < 1
                      · rw [if_pos c23] at H
                        have c23b0 : decide (((rd_T66 l0_2 x19_2).f1) < 1) = true := decide_eq_true c23
                        clear c23
                        have H' := Aside0.mk H
                        clear H
                        try go_wp2
                        have n0_ : Aside0 (((((w15.setCell ⟨gb222, 0, none⟩ (.int .u8 ((rd_T66 l0_2 x19_2).f0.f0))).setCell ⟨gb222, 1, none⟩ (.int .u8 ((rd_T66 l0_2 x19_2).f0.f1))).setCell ⟨gb222, 2, none⟩ (.int .u8 ((rd_T66 l0_2 x19_2).f0.f2))).setCell ⟨gb222, 3, none⟩ (.int .i64 ((rd_T66 l0_2 x19_2).f1))).heap[gb218]? = some (.cells #[.int .i64 a0_0, .int .i64 a0_1, .slice (some ad221) l0_2.length c0_2] 44 (0, 0))) := ⟨by (with_reducible repeat (first | refine blk_drewN ?_ _ | refine blk_drew ?_ | refine blk_alloc ?_ _)); refine blk_far ?_ NB218_222.out _; (with_reducible repeat (first | refine blk_drewN ?_ _ | refine blk_drew ?_ | refine blk_alloc ?_ _)); refine blk_far ?_ NB218_222.out _; (with_reducible repeat (first | refine blk_drewN ?_ _ | refine blk_drew ?_ | refine blk_alloc ?_ _)); refine blk_far ?_ NB218_222.out _; (with_reducible repeat (first | refine blk_drewN ?_ _ | refine blk_drew ?_ | refine blk_alloc ?_ _)); refine blk_far ?_ NB218_222.out _; (with_reducible repeat (first | refine blk_drewN ?_ _ | refine blk_drew ?_ | refine blk_alloc ?_ _)); exact BK218.out⟩
                        have n1_ : Aside0 (((((w15.setCell ⟨gb222, 0, none⟩ (.int .u8 ((rd_T66 l0_2 x19_2).f0.f0))).setCell ⟨gb222, 1, none⟩ (.int .u8 ((rd_T66 l0_2 x19_2).f0.f1))).setCell ⟨gb222, 2, none⟩ (.int .u8 ((rd_T66 l0_2 x19_2).f0.f2))).setCell ⟨gb222, 3, none⟩ (.int .i64 ((rd_T66 l0_2 x19_2).f1))).heap[gb222]? = some (.cells #[.int .u8 ((rd_T66 l0_2 x19_2).f0.f0), .int .u8 ((rd_T66 l0_2 x19_2).f0.f1), .int .u8 ((rd_T66 l0_2 x19_2).f0.f2), .int .i64 ((rd_T66 l0_2 x19_2).f1)] 66 (0, 0))) := ⟨by (with_reducible repeat (first | refine blk_drewN ?_ _ | refine blk_drew ?_ | refine blk_alloc ?_ _)); refine blk_put (cs := #[.int .u8 ((rd_T66 l0_2 x19_2).f0.f0), .int .u8 ((rd_T66 l0_2 x19_2).f0.f1), .int .u8 ((rd_T66 l0_2 x19_2).f0.f2), .int .i64 0]) ?_ 3 _ rfl; (with_reducible repeat (first | refine blk_drewN ?_ _ | refine blk_drew ?_ | refine blk_alloc ?_ _)); refine blk_put (cs := #[.int .u8 ((rd_T66 l0_2 x19_2).f0.f0), .int .u8 ((rd_T66 l0_2 x19_2).f0.f1), .int .u8 0, .int .i64 0]) ?_ 2 _ rfl; (with_reducible repeat (first | refine blk_drewN ?_ _ | refine blk_drew ?_ | refine blk_alloc ?_ _)); refine blk_put (cs := #[.int .u8 ((rd_T66 l0_2 x19_2).f0.f0), .int .u8 0, .int .u8 0, .int .i64 0]) ?_ 1 _ rfl; (with_reducible repeat (first | refine blk_drewN ?_ _ | refine blk_drew ?_ | refine blk_alloc ?_ _)); refine blk_put (cs := #[.int .u8 0, .int .u8 0, .int .u8 0, .int .i64 0]) ?_ 0 _ rfl; (with_reducible repeat (first | refine blk_drewN ?_ _ | refine blk_drew ?_ | refine blk_alloc ?_ _)); exact BK222.out⟩
                        have n2_ : Aside0 (Below w.heap.size w ((((w15.setCell ⟨gb222, 0, none⟩ (.int .u8 ((rd_T66 l0_2 x19_2).f0.f0))).setCell ⟨gb222, 1, none⟩ (.int .u8 ((rd_T66 l0_2 x19_2).f0.f1))).setCell ⟨gb222, 2, none⟩ (.int .u8 ((rd_T66 l0_2 x19_2).f0.f2))).setCell ⟨gb222, 3, none⟩ (.int .i64 ((rd_T66 l0_2 x19_2).f1)))) := ⟨mB⟩
                        (try clear BK218)
                        (try clear BK222)
                        (try clear HB)
                        generalize ((((w15.setCell ⟨gb222, 0, none⟩ (.int .u8 ((rd_T66 l0_2 x19_2).f0.f0))).setCell ⟨gb222, 1, none⟩ (.int .u8 ((rd_T66 l0_2 x19_2).f0.f1))).setCell ⟨gb222, 2, none⟩ (.int .u8 ((rd_T66 l0_2 x19_2).f0.f2))).setCell ⟨gb222, 3, none⟩ (.int .i64 ((rd_T66 l0_2 x19_2).f1))) = w24 at n0_ n1_ n2_ ⊢
                        have BK218 := n0_
                        have BK222 := n1_
                        have HB := n2_
                        clear n0_ n1_ n2_
                        have n0_ := Aside0.mk (blk_drew BK218.out)
                        have n1_ := Aside0.mk (blk_drew BK222.out)
                        have n2_ := Aside0.mk (below_drew1 HB.out)
                        clear BK218
                        clear BK222
                        clear HB
                        have BK218 := n0_
                        have BK222 := n1_
                        have HB := n2_
                        clear n0_ n1_ n2_
                        refine start_ (n := 33) (S := fun w' => w'.cell? ⟨gb222, 0, none⟩ = some (.int .u8 ((rd_T66 l0_2 x19_2).f0.f0)) ∧ w'.cell? ⟨gb222, 1, none⟩ = some (.int .u8 ((rd_T66 l0_2 x19_2).f0.f1)) ∧ w'.cell? ⟨gb222, 2, none⟩ = some (.int .u8 ((rd_T66 l0_2 x19_2).f0.f2)) ∧ w'.cell? ⟨gb222, 3, none⟩ = some (.int .i64 ((rd_T66 l0_2 x19_2).f1))) (ds := []) #[false, false, false, false, false, false, false, false, false, false, false, false, false, false, false, false, false, false, false, false, false, false, false, false, false, false, false, false, false, false, false, false, false] (by kernel_rfl) rfl rfl ⟨(blk_cell BK222.out 0).trans rfl, (blk_cell BK222.out 1).trans rfl, (blk_cell BK222.out 2).trans rfl, (blk_cell BK222.out 3).trans rfl⟩ (fun hHeld => ?_); refine with_tabW impl_IsPoly.tab6 impl_IsPoly.bits6 (fun HT_ HW_ => ?_)
                        generalize w24.drew = w25 at BK218 BK222 HB hHeld ⊢
                        refine pu 0 24 HT_ (h := ?_)
                        refine ta 1 25 HT_ HW_ hHeld (hy := by rintro w' ⟨s0, s1, s2, s3⟩; go_simp; with_reducible rfl) (h := ?_)
                        refine one_ (i := 2) (N := some 26) #[true, true, true, false, false, false, false, false, false, false, false, false, false, false, false, false, false, false, false, false, false, false, false, false, false, false, false, false, false, false, false, false, false] rfl rfl (one_of HT_.out (by kernel_rfl)) (by decide) (fun K hK => ?_)
                        refine go_ Try.func44 #[.agg #[.int .u8 ((rd_T66 l0_2 x19_2).f0.f0), .int .u8 ((rd_T66 l0_2 x19_2).f0.f1), .int .u8 ((rd_T66 l0_2 x19_2).f0.f2)]] (h := ?_)
                        with_reducible refine (impl_Exps_degree.calls ((rd_T66 l0_2 x19_2).f0.f0) ((rd_T66 l0_2 x19_2).f0.f1) ((rd_T66 l0_2 x19_2).f0.f2) t223 _ A18.out).mono ?_
                        rintro e w26 ⟨rfl, hb⟩
                        refine ⟨_, rfl, ?_⟩
                        have n0_ := Aside0.mk (blk_below (g := gb218) (o := .cells #[.int .i64 a0_0, .int .i64 a0_1, .slice (some ad221) l0_2.length c0_2] 44 (0, 0)) (mk BK218.out) hb)
                        have n1_ := Aside0.mk (blk_below (g := gb222) (o := .cells #[.int .u8 ((rd_T66 l0_2 x19_2).f0.f0), .int .u8 ((rd_T66 l0_2 x19_2).f0.f1), .int .u8 ((rd_T66 l0_2 x19_2).f0.f2), .int .i64 ((rd_T66 l0_2 x19_2).f1)] 66 (0, 0)) (mk BK222.out) hb)
                        have n2_ := Aside0.mk (below_step mB hb)
                        clear BK218
                        clear BK222
                        clear HB
                        have BK218 := n0_
                        have BK222 := n1_
                        have HB := n2_
                        clear n0_ n1_ n2_
                        (try clear hb)
                        (try clear hb2)
                        (try clear hk)
                        (try clear hi)
                        refine hK.out _ _ ⟨(blk_cell BK222.out 0).trans rfl, (blk_cell BK222.out 1).trans rfl, (blk_cell BK222.out 2).trans rfl, (blk_cell BK222.out 3).trans rfl⟩ (fun hHeld => ?_)
                        clear hK K
                        refine nm (h := ?_)
                        refine pu 3 27 HT_ (h := ?_)
                        refine pu 4 28 HT_ (h := ?_)
                        refine pu 5 29 HT_ (h := ?_)
                        refine ta 6 30 HT_ HW_ hHeld (hy := by rintro w' ⟨s0, s1, s2, s3⟩; go_simp; with_reducible rfl) (h := ?_)
                        refine pu 7 31 HT_ (h := ?_)
                        refine pu 8 32 HT_ (h := ?_)
                        refine pu 9 33 HT_ (h := ?_)
                        refine pv 10 34 HT_ (h := ?_)
                        refine pv 11 35 HT_ (h := ?_)
                        refine pv 12 36 HT_ (h := ?_)
                        refine pv 13 37 HT_ (h := ?_)
                        refine pv 14 38 HT_ (h := ?_)
                        refine pu 15 39 HT_ (h := ?_)
                        refine pu 16 40 HT_ (h := ?_)
                        refine pv 17 41 HT_ (h := ?_)
                        refine pv 18 42 HT_ (h := ?_)
                        refine pv 19 43 HT_ (h := ?_)
                        refine pv 20 44 HT_ (h := ?_)
                        refine pv 21 45 HT_ (h := ?_)
                        refine pv 22 46 HT_ (h := ?_)
                        refine pv 23 47 HT_ (h := ?_)
                        refine pv 24 48 HT_ (h := ?_)
                        refine pv 25 49 HT_ (h := ?_)
                        refine pv 26 50 HT_ (h := ?_)
                        refine pv 27 51 HT_ (h := ?_)
                        refine pv 28 52 HT_ (h := ?_)
                        refine pv 29 53 HT_ (h := ?_)
                        refine pv 30 54 HT_ (h := ?_)
                        refine pv 31 55 HT_ (h := ?_)
                        refine pu 32 56 HT_ (h := ?_)
                        refine done_ (done_of HT_.out (by kernel_rfl)) ?_
                        try go_wp2
                        go_meet
                        case rel => exact ⟨_, (true), mF, H', ⟨by have := HJ1.out; have := HK2.out; first | omega | exact Nat.le_refl _⟩, ⟨by (with_reducible repeat (first | refine blk_drewN ?_ _ | refine blk_drew ?_ | refine blk_alloc ?_ _)); exact BK218.out⟩, ⟨by (with_reducible repeat (first | refine blk_drewN ?_ _ | refine blk_drew ?_ | refine blk_alloc ?_ _)); exact BK222.out⟩, ⟨mB⟩⟩
                      · rw [if_neg c23] at H
                        have c23b0 : decide (((rd_T66 l0_2 x19_2).f1) < 1) = false := decide_eq_false c23
                        clear c23
                        by_cases c27 : ((rd_T66 l0_2 x19_2).f1) ≥ a0_0
                        · rw [if_pos c27] at H
                          have c27b0 : decide (a0_0 ≤ ((rd_T66 l0_2 x19_2).f1)) = true := decide_eq_true c27
                          clear c27
                          have H' := Aside0.mk H
                          clear H
                          try go_wp2
                          have n0_ : Aside0 (((((w15.setCell ⟨gb222, 0, none⟩ (.int .u8 ((rd_T66 l0_2 x19_2).f0.f0))).setCell ⟨gb222, 1, none⟩ (.int .u8 ((rd_T66 l0_2 x19_2).f0.f1))).setCell ⟨gb222, 2, none⟩ (.int .u8 ((rd_T66 l0_2 x19_2).f0.f2))).setCell ⟨gb222, 3, none⟩ (.int .i64 ((rd_T66 l0_2 x19_2).f1))).heap[gb218]? = some (.cells #[.int .i64 a0_0, .int .i64 a0_1, .slice (some ad221) l0_2.length c0_2] 44 (0, 0))) := ⟨by (with_reducible repeat (first | refine blk_drewN ?_ _ | refine blk_drew ?_ | refine blk_alloc ?_ _)); refine blk_far ?_ NB218_222.out _; (with_reducible repeat (first | refine blk_drewN ?_ _ | refine blk_drew ?_ | refine blk_alloc ?_ _)); refine blk_far ?_ NB218_222.out _; (with_reducible repeat (first | refine blk_drewN ?_ _ | refine blk_drew ?_ | refine blk_alloc ?_ _)); refine blk_far ?_ NB218_222.out _; (with_reducible repeat (first | refine blk_drewN ?_ _ | refine blk_drew ?_ | refine blk_alloc ?_ _)); refine blk_far ?_ NB218_222.out _; (with_reducible repeat (first | refine blk_drewN ?_ _ | refine blk_drew ?_ | refine blk_alloc ?_ _)); exact BK218.out⟩
                          have n1_ : Aside0 (((((w15.setCell ⟨gb222, 0, none⟩ (.int .u8 ((rd_T66 l0_2 x19_2).f0.f0))).setCell ⟨gb222, 1, none⟩ (.int .u8 ((rd_T66 l0_2 x19_2).f0.f1))).setCell ⟨gb222, 2, none⟩ (.int .u8 ((rd_T66 l0_2 x19_2).f0.f2))).setCell ⟨gb222, 3, none⟩ (.int .i64 ((rd_T66 l0_2 x19_2).f1))).heap[gb222]? = some (.cells #[.int .u8 ((rd_T66 l0_2 x19_2).f0.f0), .int .u8 ((rd_T66 l0_2 x19_2).f0.f1), .int .u8 ((rd_T66 l0_2 x19_2).f0.f2), .int .i64 ((rd_T66 l0_2 x19_2).f1)] 66 (0, 0))) := ⟨by (with_reducible repeat (first | refine blk_drewN ?_ _ | refine blk_drew ?_ | refine blk_alloc ?_ _)); refine blk_put (cs := #[.int .u8 ((rd_T66 l0_2 x19_2).f0.f0), .int .u8 ((rd_T66 l0_2 x19_2).f0.f1), .int .u8 ((rd_T66 l0_2 x19_2).f0.f2), .int .i64 0]) ?_ 3 _ rfl; (with_reducible repeat (first | refine blk_drewN ?_ _ | refine blk_drew ?_ | refine blk_alloc ?_ _)); refine blk_put (cs := #[.int .u8 ((rd_T66 l0_2 x19_2).f0.f0), .int .u8 ((rd_T66 l0_2 x19_2).f0.f1), .int .u8 0, .int .i64 0]) ?_ 2 _ rfl; (with_reducible repeat (first | refine blk_drewN ?_ _ | refine blk_drew ?_ | refine blk_alloc ?_ _)); refine blk_put (cs := #[.int .u8 ((rd_T66 l0_2 x19_2).f0.f0), .int .u8 0, .int .u8 0, .int .i64 0]) ?_ 1 _ rfl; (with_reducible repeat (first | refine blk_drewN ?_ _ | refine blk_drew ?_ | refine blk_alloc ?_ _)); refine blk_put (cs := #[.int .u8 0, .int .u8 0, .int .u8 0, .int .i64 0]) ?_ 0 _ rfl; (with_reducible repeat (first | refine blk_drewN ?_ _ | refine blk_drew ?_ | refine blk_alloc ?_ _)); exact BK222.out⟩
                          have n2_ : Aside0 (Below w.heap.size w ((((w15.setCell ⟨gb222, 0, none⟩ (.int .u8 ((rd_T66 l0_2 x19_2).f0.f0))).setCell ⟨gb222, 1, none⟩ (.int .u8 ((rd_T66 l0_2 x19_2).f0.f1))).setCell ⟨gb222, 2, none⟩ (.int .u8 ((rd_T66 l0_2 x19_2).f0.f2))).setCell ⟨gb222, 3, none⟩ (.int .i64 ((rd_T66 l0_2 x19_2).f1)))) := ⟨mB⟩
                          (try clear BK218)
                          (try clear BK222)
                          (try clear HB)
                          generalize ((((w15.setCell ⟨gb222, 0, none⟩ (.int .u8 ((rd_T66 l0_2 x19_2).f0.f0))).setCell ⟨gb222, 1, none⟩ (.int .u8 ((rd_T66 l0_2 x19_2).f0.f1))).setCell ⟨gb222, 2, none⟩ (.int .u8 ((rd_T66 l0_2 x19_2).f0.f2))).setCell ⟨gb222, 3, none⟩ (.int .i64 ((rd_T66 l0_2 x19_2).f1))) = w28 at n0_ n1_ n2_ ⊢
                          have BK218 := n0_
                          have BK222 := n1_
                          have HB := n2_
                          clear n0_ n1_ n2_
                          have n0_ := Aside0.mk (blk_drew BK218.out)
                          have n1_ := Aside0.mk (blk_drew BK222.out)
                          have n2_ := Aside0.mk (below_drew1 HB.out)
                          clear BK218
                          clear BK222
                          clear HB
                          have BK218 := n0_
                          have BK222 := n1_
                          have HB := n2_
                          clear n0_ n1_ n2_
                          refine start_ (n := 33) (S := fun w' => w'.cell? ⟨gb222, 0, none⟩ = some (.int .u8 ((rd_T66 l0_2 x19_2).f0.f0)) ∧ w'.cell? ⟨gb222, 1, none⟩ = some (.int .u8 ((rd_T66 l0_2 x19_2).f0.f1)) ∧ w'.cell? ⟨gb222, 2, none⟩ = some (.int .u8 ((rd_T66 l0_2 x19_2).f0.f2)) ∧ w'.cell? ⟨gb222, 3, none⟩ = some (.int .i64 ((rd_T66 l0_2 x19_2).f1)) ∧ w'.cell? ⟨gb218, 0, none⟩ = some (.int .i64 a0_0) ∧ w'.cell? ⟨gb218, 1, none⟩ = some (.int .i64 a0_1) ∧ w'.cell? ⟨gb218, 2, none⟩ = some (.slice (some ad221) l0_2.length c0_2)) (ds := []) #[false, false, false, false, false, false, false, false, false, false, false, false, false, false, false, false, false, false, false, false, false, false, false, false, false, false, false, false, false, false, false, false, false] (by kernel_rfl) rfl rfl ⟨(blk_cell BK222.out 0).trans rfl, (blk_cell BK222.out 1).trans rfl, (blk_cell BK222.out 2).trans rfl, (blk_cell BK222.out 3).trans rfl, (blk_cell BK218.out 0).trans rfl, (blk_cell BK218.out 1).trans rfl, (blk_cell BK218.out 2).trans rfl⟩ (fun hHeld => ?_); refine with_tabW impl_IsPoly.tab6 impl_IsPoly.bits6 (fun HT_ HW_ => ?_)
                          generalize w28.drew = w29 at BK218 BK222 HB hHeld ⊢
                          refine pu 0 24 HT_ (h := ?_)
                          refine ta 1 25 HT_ HW_ hHeld (hy := by rintro w' ⟨s0, s1, s2, s3, s4, s5, s6⟩; go_simp; with_reducible rfl) (h := ?_)
                          refine one_ (i := 2) (N := some 26) #[true, true, true, false, false, false, false, false, false, false, false, false, false, false, false, false, false, false, false, false, false, false, false, false, false, false, false, false, false, false, false, false, false] rfl rfl (one_of HT_.out (by kernel_rfl)) (by decide) (fun K hK => ?_)
                          refine go_ Try.func44 #[.agg #[.int .u8 ((rd_T66 l0_2 x19_2).f0.f0), .int .u8 ((rd_T66 l0_2 x19_2).f0.f1), .int .u8 ((rd_T66 l0_2 x19_2).f0.f2)]] (h := ?_)
                          with_reducible refine (impl_Exps_degree.calls ((rd_T66 l0_2 x19_2).f0.f0) ((rd_T66 l0_2 x19_2).f0.f1) ((rd_T66 l0_2 x19_2).f0.f2) t223 _ A18.out).mono ?_
                          rintro e w30 ⟨rfl, hb⟩
                          refine ⟨_, rfl, ?_⟩
                          have n0_ := Aside0.mk (blk_below (g := gb218) (o := .cells #[.int .i64 a0_0, .int .i64 a0_1, .slice (some ad221) l0_2.length c0_2] 44 (0, 0)) (mk BK218.out) hb)
                          have n1_ := Aside0.mk (blk_below (g := gb222) (o := .cells #[.int .u8 ((rd_T66 l0_2 x19_2).f0.f0), .int .u8 ((rd_T66 l0_2 x19_2).f0.f1), .int .u8 ((rd_T66 l0_2 x19_2).f0.f2), .int .i64 ((rd_T66 l0_2 x19_2).f1)] 66 (0, 0)) (mk BK222.out) hb)
                          have n2_ := Aside0.mk (below_step mB hb)
                          clear BK218
                          clear BK222
                          clear HB
                          have BK218 := n0_
                          have BK222 := n1_
                          have HB := n2_
                          clear n0_ n1_ n2_
                          (try clear hb)
                          (try clear hb2)
                          (try clear hk)
                          (try clear hi)
                          refine hK.out _ _ ⟨(blk_cell BK222.out 0).trans rfl, (blk_cell BK222.out 1).trans rfl, (blk_cell BK222.out 2).trans rfl, (blk_cell BK222.out 3).trans rfl, (blk_cell BK218.out 0).trans rfl, (blk_cell BK218.out 1).trans rfl, (blk_cell BK218.out 2).trans rfl⟩ (fun hHeld => ?_)
                          clear hK K
                          refine nm (h := ?_)
                          refine pu 3 27 HT_ (h := ?_)
                          refine pu 4 28 HT_ (h := ?_)
                          refine pu 5 29 HT_ (h := ?_)
                          refine ta 6 30 HT_ HW_ hHeld (hy := by rintro w' ⟨s0, s1, s2, s3, s4, s5, s6⟩; go_simp; with_reducible rfl) (h := ?_)
                          refine pu 7 31 HT_ (h := ?_)
                          refine pu 8 32 HT_ (h := ?_)
                          refine pu 9 33 HT_ (h := ?_)
                          refine pu 10 34 HT_ (h := ?_)
                          refine pu 12 36 HT_ (h := ?_)
                          refine ta 11 35 HT_ HW_ hHeld (hy := by rintro w' ⟨s0, s1, s2, s3, s4, s5, s6⟩; go_simp; with_reducible rfl) (h := ?_)
                          refine ta 13 37 HT_ HW_ hHeld (hy := by rintro w' ⟨s0, s1, s2, s3, s4, s5, s6⟩; go_simp; with_reducible rfl) (h := ?_)
                          refine pu 14 38 HT_ (h := ?_)
                          refine pu 15 39 HT_ (h := ?_)
                          refine pu 16 40 HT_ (h := ?_)
                          refine pv 17 41 HT_ (h := ?_)
                          refine pv 18 42 HT_ (h := ?_)
                          refine pv 19 43 HT_ (h := ?_)
                          refine pv 20 44 HT_ (h := ?_)
                          refine pv 21 45 HT_ (h := ?_)
                          refine pv 22 46 HT_ (h := ?_)
                          refine pv 23 47 HT_ (h := ?_)
                          refine pv 24 48 HT_ (h := ?_)
                          refine pv 25 49 HT_ (h := ?_)
                          refine pv 26 50 HT_ (h := ?_)
                          refine pv 27 51 HT_ (h := ?_)
                          refine pv 28 52 HT_ (h := ?_)
                          refine pv 29 53 HT_ (h := ?_)
                          refine pv 30 54 HT_ (h := ?_)
                          refine pv 31 55 HT_ (h := ?_)
                          refine pu 32 56 HT_ (h := ?_)
                          refine done_ (done_of HT_.out (by kernel_rfl)) ?_
                          try go_wp2
                          go_meet
                          case rel => exact ⟨_, (true), mF, H', ⟨by have := HJ1.out; have := HK2.out; first | omega | exact Nat.le_refl _⟩, ⟨by (with_reducible repeat (first | refine blk_drewN ?_ _ | refine blk_drew ?_ | refine blk_alloc ?_ _)); exact BK218.out⟩, ⟨by (with_reducible repeat (first | refine blk_drewN ?_ _ | refine blk_drew ?_ | refine blk_alloc ?_ _)); exact BK222.out⟩, ⟨mB⟩⟩
                        · rw [if_neg c27] at H
                          have c27b0 : decide (a0_0 ≤ ((rd_T66 l0_2 x19_2).f1)) = false := decide_eq_false c27
                          clear c27
                          by_cases c31 : x19_2 > 0
                          · rw [if_pos c31] at H
                            have c31b0 : decide (0 < x19_2) = true := decide_eq_true c31
                            clear c31
                            obtain ⟨ji32, hji32⟩ : ∃ j_ : Int, (wrap64 (x19_2 - 1)) = j_ := ⟨_, rfl⟩
                            replace H : (if 0 ≤ (ji32) then (if (ji32) < (l0_2.length : Int) then ((impl_compareExps.f ((rd_T66 l0_2 (ji32)).f0.f0) ((rd_T66 l0_2 (ji32)).f0.f1) ((rd_T66 l0_2 (ji32)).f0.f2) ((rd_T66 l0_2 x19_2).f0.f0) ((rd_T66 l0_2 x19_2).f0.f1) ((rd_T66 l0_2 x19_2).f0.f2)).bind fun t225 => (impl_IsPoly.j2 k2 l0_2 (l0_2.length : Int) x19_2 (decide (t225 ≥ 0)) a0_0 a0_1 l0_2 ((rd_T66 l0_2 x19_2).f0.f0) ((rd_T66 l0_2 x19_2).f0.f1) ((rd_T66 l0_2 x19_2).f0.f2) ((rd_T66 l0_2 x19_2).f1))) else (none)) else (none)) = some r := by first | (rw [hji32] at H; exact H) | (simp only [hji32] at H ⊢; exact H)
                            (try rw [hji32] at A18)
                            have hji32w : (IntKind.i64.wrap (x19_2 - 1)) = ji32 := (i64_w _).trans hji32
                            by_cases c33 : 0 ≤ (ji32)
                            · rw [if_pos c33] at H
                              have c33b0 : decide (0 ≤ (ji32)) = true := decide_eq_true c33
                              clear c33
                              by_cases c34 : (ji32) < (l0_2.length : Int)
                              · rw [if_pos c34] at H
                                have c34b0 : decide ((ji32) < (l0_2.length : Int)) = true := decide_eq_true c34
                                clear c34
                                replace H := Option.bind_eq_some_iff.mp H
                                obtain ⟨t225, A350, H⟩ := H
                                replace H : (impl_IsPoly.j2 k2 l0_2 (l0_2.length : Int) x19_2 (decide (t225 ≥ 0)) a0_0 a0_1 l0_2 ((rd_T66 l0_2 x19_2).f0.f0) ((rd_T66 l0_2 x19_2).f0.f1) ((rd_T66 l0_2 x19_2).f0.f2) ((rd_T66 l0_2 x19_2).f1)) = some r := H
                                have A35 := Aside0.mk A350
                                clear A350
                                have H' := Aside0.mk H
                                clear H
                                try go_wp2
                                have n0_ : Aside0 (((((w15.setCell ⟨gb222, 0, none⟩ (.int .u8 ((rd_T66 l0_2 x19_2).f0.f0))).setCell ⟨gb222, 1, none⟩ (.int .u8 ((rd_T66 l0_2 x19_2).f0.f1))).setCell ⟨gb222, 2, none⟩ (.int .u8 ((rd_T66 l0_2 x19_2).f0.f2))).setCell ⟨gb222, 3, none⟩ (.int .i64 ((rd_T66 l0_2 x19_2).f1))).heap[gb218]? = some (.cells #[.int .i64 a0_0, .int .i64 a0_1, .slice (some ad221) l0_2.length c0_2] 44 (0, 0))) := ⟨by (with_reducible repeat (first | refine blk_drewN ?_ _ | refine blk_drew ?_ | refine blk_alloc ?_ _)); refine blk_far ?_ NB218_222.out _; (with_reducible repeat (first | refine blk_drewN ?_ _ | refine blk_drew ?_ | refine blk_alloc ?_ _)); refine blk_far ?_ NB218_222.out _; (with_reducible repeat (first | refine blk_drewN ?_ _ | refine blk_drew ?_ | refine blk_alloc ?_ _)); refine blk_far ?_ NB218_222.out _; (with_reducible repeat (first | refine blk_drewN ?_ _ | refine blk_drew ?_ | refine blk_alloc ?_ _)); refine blk_far ?_ NB218_222.out _; (with_reducible repeat (first | refine blk_drewN ?_ _ | refine blk_drew ?_ | refine blk_alloc ?_ _)); exact BK218.out⟩
                                have n1_ : Aside0 (((((w15.setCell ⟨gb222, 0, none⟩ (.int .u8 ((rd_T66 l0_2 x19_2).f0.f0))).setCell ⟨gb222, 1, none⟩ (.int .u8 ((rd_T66 l0_2 x19_2).f0.f1))).setCell ⟨gb222, 2, none⟩ (.int .u8 ((rd_T66 l0_2 x19_2).f0.f2))).setCell ⟨gb222, 3, none⟩ (.int .i64 ((rd_T66 l0_2 x19_2).f1))).heap[gb222]? = some (.cells #[.int .u8 ((rd_T66 l0_2 x19_2).f0.f0), .int .u8 ((rd_T66 l0_2 x19_2).f0.f1), .int .u8 ((rd_T66 l0_2 x19_2).f0.f2), .int .i64 ((rd_T66 l0_2 x19_2).f1)] 66 (0, 0))) := ⟨by (with_reducible repeat (first | refine blk_drewN ?_ _ | refine blk_drew ?_ | refine blk_alloc ?_ _)); refine blk_put (cs := #[.int .u8 ((rd_T66 l0_2 x19_2).f0.f0), .int .u8 ((rd_T66 l0_2 x19_2).f0.f1), .int .u8 ((rd_T66 l0_2 x19_2).f0.f2), .int .i64 0]) ?_ 3 _ rfl; (with_reducible repeat (first | refine blk_drewN ?_ _ | refine blk_drew ?_ | refine blk_alloc ?_ _)); refine blk_put (cs := #[.int .u8 ((rd_T66 l0_2 x19_2).f0.f0), .int .u8 ((rd_T66 l0_2 x19_2).f0.f1), .int .u8 0, .int .i64 0]) ?_ 2 _ rfl; (with_reducible repeat (first | refine blk_drewN ?_ _ | refine blk_drew ?_ | refine blk_alloc ?_ _)); refine blk_put (cs := #[.int .u8 ((rd_T66 l0_2 x19_2).f0.f0), .int .u8 0, .int .u8 0, .int .i64 0]) ?_ 1 _ rfl; (with_reducible repeat (first | refine blk_drewN ?_ _ | refine blk_drew ?_ | refine blk_alloc ?_ _)); refine blk_put (cs := #[.int .u8 0, .int .u8 0, .int .u8 0, .int .i64 0]) ?_ 0 _ rfl; (with_reducible repeat (first | refine blk_drewN ?_ _ | refine blk_drew ?_ | refine blk_alloc ?_ _)); exact BK222.out⟩
                                have n2_ : Aside0 (Below w.heap.size w ((((w15.setCell ⟨gb222, 0, none⟩ (.int .u8 ((rd_T66 l0_2 x19_2).f0.f0))).setCell ⟨gb222, 1, none⟩ (.int .u8 ((rd_T66 l0_2 x19_2).f0.f1))).setCell ⟨gb222, 2, none⟩ (.int .u8 ((rd_T66 l0_2 x19_2).f0.f2))).setCell ⟨gb222, 3, none⟩ (.int .i64 ((rd_T66 l0_2 x19_2).f1)))) := ⟨mB⟩
                                (try clear BK218)
                                (try clear BK222)
                                (try clear HB)
                                generalize ((((w15.setCell ⟨gb222, 0, none⟩ (.int .u8 ((rd_T66 l0_2 x19_2).f0.f0))).setCell ⟨gb222, 1, none⟩ (.int .u8 ((rd_T66 l0_2 x19_2).f0.f1))).setCell ⟨gb222, 2, none⟩ (.int .u8 ((rd_T66 l0_2 x19_2).f0.f2))).setCell ⟨gb222, 3, none⟩ (.int .i64 ((rd_T66 l0_2 x19_2).f1))) = w36 at n0_ n1_ n2_ ⊢
                                have BK218 := n0_
                                have BK222 := n1_
                                have HB := n2_
                                clear n0_ n1_ n2_
                                have n0_ := Aside0.mk (blk_drew BK218.out)
                                have n1_ := Aside0.mk (blk_drew BK222.out)
                                have n2_ := Aside0.mk (below_drew1 HB.out)
                                clear BK218
                                clear BK222
                                clear HB
                                have BK218 := n0_
                                have BK222 := n1_
                                have HB := n2_
                                clear n0_ n1_ n2_
                                have p224 : 0 ≤ ((ji32) : Int) := of_decide_eq_true mS
                                have q224 : (ji32) < (l0_2.length : Int) := of_decide_eq_true mS
                                obtain ⟨ad224, e224, hx224_0, hx224_1, hx224_2, hx224_3⟩ := at_T66 HR0_2.out (ji32) p224 q224
                                have hw224_3 := hx224_3
                                have hw224_2 := hx224_2
                                have hw224_1 := hx224_1
                                have hw224_0 := hx224_0
                                obtain rfl : ad221 = ad224 := (by injection e224)
                                replace hx224_0 := cB HB hx224_0
                                replace hx224_1 := cB HB hx224_1
                                replace hx224_2 := cB HB hx224_2
                                replace hx224_3 := cB HB hx224_3
                                replace p224 := eq_true p224
                                replace q224 := eq_true q224
                                refine start_ (n := 33) (S := fun w' => w'.cell? ⟨gb222, 0, none⟩ = some (.int .u8 ((rd_T66 l0_2 x19_2).f0.f0)) ∧ w'.cell? ⟨gb222, 1, none⟩ = some (.int .u8 ((rd_T66 l0_2 x19_2).f0.f1)) ∧ w'.cell? ⟨gb222, 2, none⟩ = some (.int .u8 ((rd_T66 l0_2 x19_2).f0.f2)) ∧ w'.cell? ⟨gb222, 3, none⟩ = some (.int .i64 ((rd_T66 l0_2 x19_2).f1)) ∧ w'.cell? ⟨gb218, 0, none⟩ = some (.int .i64 a0_0) ∧ w'.cell? ⟨gb218, 1, none⟩ = some (.int .i64 a0_1) ∧ w'.cell? ⟨gb218, 2, none⟩ = some (.slice (some ad221) l0_2.length c0_2) ∧ w'.cell? (ad221.add (((ji32)).toNat * 4)) = some (.int .u8 ((rd_T66 l0_2 (ji32)).f0.f0)) ∧ w'.cell? ⟨(ad221.add (((ji32)).toNat * 4)).block, (ad221.add (((ji32)).toNat * 4)).off + 1, none⟩ = some (.int .u8 ((rd_T66 l0_2 (ji32)).f0.f1)) ∧ w'.cell? ⟨(ad221.add (((ji32)).toNat * 4)).block, (ad221.add (((ji32)).toNat * 4)).off + 2, none⟩ = some (.int .u8 ((rd_T66 l0_2 (ji32)).f0.f2)) ∧ w'.cell? ⟨(ad221.add (((ji32)).toNat * 4)).block, (ad221.add (((ji32)).toNat * 4)).off + 3, none⟩ = some (.int .i64 ((rd_T66 l0_2 (ji32)).f1))) (ds := []) #[false, false, false, false, false, false, false, false, false, false, false, false, false, false, false, false, false, false, false, false, false, false, false, false, false, false, false, false, false, false, false, false, false] (by kernel_rfl) rfl rfl ⟨(blk_cell BK222.out 0).trans rfl, (blk_cell BK222.out 1).trans rfl, (blk_cell BK222.out 2).trans rfl, (blk_cell BK222.out 3).trans rfl, (blk_cell BK218.out 0).trans rfl, (blk_cell BK218.out 1).trans rfl, (blk_cell BK218.out 2).trans rfl, (cD HB hw224_0), (cD HB hw224_1), (cD HB hw224_2), (cD HB hw224_3)⟩ (fun hHeld => ?_); refine with_tabW impl_IsPoly.tab6 impl_IsPoly.bits6 (fun HT_ HW_ => ?_)
                                generalize w36.drew = w37 at BK218 BK222 HB hx224_0 hx224_1 hx224_2 hx224_3 hHeld ⊢
                                refine pu 0 24 HT_ (h := ?_)
                                refine ta 1 25 HT_ HW_ hHeld (hy := by rintro w' ⟨s0, s1, s2, s3, s4, s5, s6, s7, s8, s9, s10⟩; go_simp; with_reducible rfl) (h := ?_)
                                refine one_ (i := 2) (N := some 26) #[true, true, true, false, false, false, false, false, false, false, false, false, false, false, false, false, false, false, false, false, false, false, false, false, false, false, false, false, false, false, false, false, false] rfl rfl (one_of HT_.out (by kernel_rfl)) (by decide) (fun K hK => ?_)
                                refine go_ Try.func44 #[.agg #[.int .u8 ((rd_T66 l0_2 x19_2).f0.f0), .int .u8 ((rd_T66 l0_2 x19_2).f0.f1), .int .u8 ((rd_T66 l0_2 x19_2).f0.f2)]] (h := ?_)
                                with_reducible refine (impl_Exps_degree.calls ((rd_T66 l0_2 x19_2).f0.f0) ((rd_T66 l0_2 x19_2).f0.f1) ((rd_T66 l0_2 x19_2).f0.f2) t223 _ A18.out).mono ?_
                                rintro e w38 ⟨rfl, hb⟩
                                refine ⟨_, rfl, ?_⟩
                                have n0_ := Aside0.mk (blk_below (g := gb218) (o := .cells #[.int .i64 a0_0, .int .i64 a0_1, .slice (some ad221) l0_2.length c0_2] 44 (0, 0)) (mk BK218.out) hb)
                                have n1_ := Aside0.mk (blk_below (g := gb222) (o := .cells #[.int .u8 ((rd_T66 l0_2 x19_2).f0.f0), .int .u8 ((rd_T66 l0_2 x19_2).f0.f1), .int .u8 ((rd_T66 l0_2 x19_2).f0.f2), .int .i64 ((rd_T66 l0_2 x19_2).f1)] 66 (0, 0)) (mk BK222.out) hb)
                                have n2_ := Aside0.mk (below_step mB hb)
                                clear BK218
                                clear BK222
                                clear HB
                                have BK218 := n0_
                                have BK222 := n1_
                                have HB := n2_
                                clear n0_ n1_ n2_
                                (try clear hb)
                                (try clear hb2)
                                (try clear hk)
                                (try clear hi)
                                refine hK.out _ _ ⟨(blk_cell BK222.out 0).trans rfl, (blk_cell BK222.out 1).trans rfl, (blk_cell BK222.out 2).trans rfl, (blk_cell BK222.out 3).trans rfl, (blk_cell BK218.out 0).trans rfl, (blk_cell BK218.out 1).trans rfl, (blk_cell BK218.out 2).trans rfl, (cD HB hw224_0), (cD HB hw224_1), (cD HB hw224_2), (cD HB hw224_3)⟩ (fun hHeld => ?_)
                                clear hK K
                                refine nm (h := ?_)
                                refine pu 3 27 HT_ (h := ?_)
                                refine pu 4 28 HT_ (h := ?_)
                                refine pu 5 29 HT_ (h := ?_)
                                refine ta 6 30 HT_ HW_ hHeld (hy := by rintro w' ⟨s0, s1, s2, s3, s4, s5, s6, s7, s8, s9, s10⟩; go_simp; with_reducible rfl) (h := ?_)
                                refine pu 7 31 HT_ (h := ?_)
                                refine pu 8 32 HT_ (h := ?_)
                                refine pu 9 33 HT_ (h := ?_)
                                refine pu 10 34 HT_ (h := ?_)
                                refine pu 12 36 HT_ (h := ?_)
                                refine ta 11 35 HT_ HW_ hHeld (hy := by rintro w' ⟨s0, s1, s2, s3, s4, s5, s6, s7, s8, s9, s10⟩; go_simp; with_reducible rfl) (h := ?_)
                                refine ta 13 37 HT_ HW_ hHeld (hy := by rintro w' ⟨s0, s1, s2, s3, s4, s5, s6, s7, s8, s9, s10⟩; go_simp; with_reducible rfl) (h := ?_)
                                refine pu 14 38 HT_ (h := ?_)
                                refine pu 15 39 HT_ (h := ?_)
                                refine pu 16 40 HT_ (h := ?_)
                                refine pu 17 41 HT_ (h := ?_)
                                refine pu 18 42 HT_ (h := ?_)
                                refine pu 19 43 HT_ (h := ?_)
                                refine pu 20 44 HT_ (h := ?_)
                                refine pu 22 46 HT_ (h := ?_)
                                refine pu 23 47 HT_ (h := ?_)
                                refine pu 27 51 HT_ (h := ?_)
                                refine ta 21 45 HT_ HW_ hHeld (hy := by rintro w' ⟨s0, s1, s2, s3, s4, s5, s6, s7, s8, s9, s10⟩; go_simp; with_reducible rfl) (h := ?_)
                                refine pu 24 48 HT_ (h := ?_)
                                refine pu 25 49 HT_ (h := ?_)
                                refine ta 26 50 HT_ HW_ hHeld (hy := by rintro w' ⟨s0, s1, s2, s3, s4, s5, s6, s7, s8, s9, s10⟩; go_simp; with_reducible rfl) (h := ?_)
                                refine ta 28 52 HT_ HW_ hHeld (hy := by rintro w' ⟨s0, s1, s2, s3, s4, s5, s6, s7, s8, s9, s10⟩; go_simp; with_reducible rfl) (h := ?_)
                                refine one_ (i := 29) (N := some 53) #[true, true, true, true, true, true, true, true, true, true, true, true, true, true, true, true, true, true, true, true, true, true, true, true, true, true, true, true, true, true, false, false, false] rfl rfl (one_of HT_.out (by kernel_rfl)) (by decide) (fun K hK => ?_)
                                refine goes_ Try.func58 (by kernel_rfl) rfl #[.agg #[.int .u8 ((rd_T66 l0_2 (ji32)).f0.f0), .int .u8 ((rd_T66 l0_2 (ji32)).f0.f1), .int .u8 ((rd_T66 l0_2 (ji32)).f0.f2)], .agg #[.int .u8 ((rd_T66 l0_2 x19_2).f0.f0), .int .u8 ((rd_T66 l0_2 x19_2).f0.f1), .int .u8 ((rd_T66 l0_2 x19_2).f0.f2)]] (by rfl) rfl rfl (by (try simp only [List.map_toArray, List.map_cons, List.map_nil]); first | done | (simp only [hji32]; rfl) | rfl | (simp only [List.length_drop, List.length_take]; rfl)) ?_
                                with_reducible refine (impl_compareExps.calls ((rd_T66 l0_2 (ji32)).f0.f0) ((rd_T66 l0_2 (ji32)).f0.f1) ((rd_T66 l0_2 (ji32)).f0.f2) ((rd_T66 l0_2 x19_2).f0.f0) ((rd_T66 l0_2 x19_2).f0.f1) ((rd_T66 l0_2 x19_2).f0.f2) t225 _ A35.out).mono ?_
                                rintro e w39 ⟨rfl, hb⟩
                                refine ⟨_, rfl, ?_⟩
                                have n0_ := Aside0.mk (blk_below (g := gb218) (o := .cells #[.int .i64 a0_0, .int .i64 a0_1, .slice (some ad221) l0_2.length c0_2] 44 (0, 0)) (mk BK218.out) hb)
                                have n1_ := Aside0.mk (blk_below (g := gb222) (o := .cells #[.int .u8 ((rd_T66 l0_2 x19_2).f0.f0), .int .u8 ((rd_T66 l0_2 x19_2).f0.f1), .int .u8 ((rd_T66 l0_2 x19_2).f0.f2), .int .i64 ((rd_T66 l0_2 x19_2).f1)] 66 (0, 0)) (mk BK222.out) hb)
                                have n2_ := Aside0.mk (below_step mB hb)
                                clear BK218
                                clear BK222
                                clear HB
                                have BK218 := n0_
                                have BK222 := n1_
                                have HB := n2_
                                clear n0_ n1_ n2_
                                (try clear hb)
                                (try clear hb2)
                                (try clear hk)
                                (try clear hi)
                                refine hK.out _ _ ⟨(blk_cell BK222.out 0).trans rfl, (blk_cell BK222.out 1).trans rfl, (blk_cell BK222.out 2).trans rfl, (blk_cell BK222.out 3).trans rfl, (blk_cell BK218.out 0).trans rfl, (blk_cell BK218.out 1).trans rfl, (blk_cell BK218.out 2).trans rfl, (cD HB hw224_0), (cD HB hw224_1), (cD HB hw224_2), (cD HB hw224_3)⟩ (fun hHeld => ?_)
                                clear hK K
                                refine nm (h := ?_)
                                refine pu 30 54 HT_ (h := ?_)
                                refine pu 31 55 HT_ (h := ?_)
                                refine pu 32 56 HT_ (h := ?_)
                                refine done_ (done_of HT_.out (by kernel_rfl)) ?_
                                try go_wp2
                                go_meet
                                case rel => exact ⟨_, (decide (t225 ≥ 0)), mF, H', ⟨by have := HJ1.out; have := HK2.out; first | omega | exact Nat.le_refl _⟩, ⟨by (with_reducible repeat (first | refine blk_drewN ?_ _ | refine blk_drew ?_ | refine blk_alloc ?_ _)); exact BK218.out⟩, ⟨by (with_reducible repeat (first | refine blk_drewN ?_ _ | refine blk_drew ?_ | refine blk_alloc ?_ _)); exact BK222.out⟩, ⟨mB⟩⟩
                              · rw [if_neg c34] at H
                                exact absurd H (by simp)
                            · rw [if_neg c33] at H
                              exact absurd H (by simp)
                          · rw [if_neg c31] at H
                            have c31b0 : decide (0 < x19_2) = false := decide_eq_false c31
                            clear c31
                            have H' := Aside0.mk H
                            clear H
                            try go_wp2
                            have n0_ : Aside0 (((((w15.setCell ⟨gb222, 0, none⟩ (.int .u8 ((rd_T66 l0_2 x19_2).f0.f0))).setCell ⟨gb222, 1, none⟩ (.int .u8 ((rd_T66 l0_2 x19_2).f0.f1))).setCell ⟨gb222, 2, none⟩ (.int .u8 ((rd_T66 l0_2 x19_2).f0.f2))).setCell ⟨gb222, 3, none⟩ (.int .i64 ((rd_T66 l0_2 x19_2).f1))).heap[gb218]? = some (.cells #[.int .i64 a0_0, .int .i64 a0_1, .slice (some ad221) l0_2.length c0_2] 44 (0, 0))) := ⟨by (with_reducible repeat (first | refine blk_drewN ?_ _ | refine blk_drew ?_ | refine blk_alloc ?_ _)); refine blk_far ?_ NB218_222.out _; (with_reducible repeat (first | refine blk_drewN ?_ _ | refine blk_drew ?_ | refine blk_alloc ?_ _)); refine blk_far ?_ NB218_222.out _; (with_reducible repeat (first | refine blk_drewN ?_ _ | refine blk_drew ?_ | refine blk_alloc ?_ _)); refine blk_far ?_ NB218_222.out _; (with_reducible repeat (first | refine blk_drewN ?_ _ | refine blk_drew ?_ | refine blk_alloc ?_ _)); refine blk_far ?_ NB218_222.out _; (with_reducible repeat (first | refine blk_drewN ?_ _ | refine blk_drew ?_ | refine blk_alloc ?_ _)); exact BK218.out⟩
                            have n1_ : Aside0 (((((w15.setCell ⟨gb222, 0, none⟩ (.int .u8 ((rd_T66 l0_2 x19_2).f0.f0))).setCell ⟨gb222, 1, none⟩ (.int .u8 ((rd_T66 l0_2 x19_2).f0.f1))).setCell ⟨gb222, 2, none⟩ (.int .u8 ((rd_T66 l0_2 x19_2).f0.f2))).setCell ⟨gb222, 3, none⟩ (.int .i64 ((rd_T66 l0_2 x19_2).f1))).heap[gb222]? = some (.cells #[.int .u8 ((rd_T66 l0_2 x19_2).f0.f0), .int .u8 ((rd_T66 l0_2 x19_2).f0.f1), .int .u8 ((rd_T66 l0_2 x19_2).f0.f2), .int .i64 ((rd_T66 l0_2 x19_2).f1)] 66 (0, 0))) := ⟨by (with_reducible repeat (first | refine blk_drewN ?_ _ | refine blk_drew ?_ | refine blk_alloc ?_ _)); refine blk_put (cs := #[.int .u8 ((rd_T66 l0_2 x19_2).f0.f0), .int .u8 ((rd_T66 l0_2 x19_2).f0.f1), .int .u8 ((rd_T66 l0_2 x19_2).f0.f2), .int .i64 0]) ?_ 3 _ rfl; (with_reducible repeat (first | refine blk_drewN ?_ _ | refine blk_drew ?_ | refine blk_alloc ?_ _)); refine blk_put (cs := #[.int .u8 ((rd_T66 l0_2 x19_2).f0.f0), .int .u8 ((rd_T66 l0_2 x19_2).f0.f1), .int .u8 0, .int .i64 0]) ?_ 2 _ rfl; (with_reducible repeat (first | refine blk_drewN ?_ _ | refine blk_drew ?_ | refine blk_alloc ?_ _)); refine blk_put (cs := #[.int .u8 ((rd_T66 l0_2 x19_2).f0.f0), .int .u8 0, .int .u8 0, .int .i64 0]) ?_ 1 _ rfl; (with_reducible repeat (first | refine blk_drewN ?_ _ | refine blk_drew ?_ | refine blk_alloc ?_ _)); refine blk_put (cs := #[.int .u8 0, .int .u8 0, .int .u8 0, .int .i64 0]) ?_ 0 _ rfl; (with_reducible repeat (first | refine blk_drewN ?_ _ | refine blk_drew ?_ | refine blk_alloc ?_ _)); exact BK222.out⟩
                            have n2_ : Aside0 (Below w.heap.size w ((((w15.setCell ⟨gb222, 0, none⟩ (.int .u8 ((rd_T66 l0_2 x19_2).f0.f0))).setCell ⟨gb222, 1, none⟩ (.int .u8 ((rd_T66 l0_2 x19_2).f0.f1))).setCell ⟨gb222, 2, none⟩ (.int .u8 ((rd_T66 l0_2 x19_2).f0.f2))).setCell ⟨gb222, 3, none⟩ (.int .i64 ((rd_T66 l0_2 x19_2).f1)))) := ⟨mB⟩
                            (try clear BK218)
                            (try clear BK222)
                            (try clear HB)
                            generalize ((((w15.setCell ⟨gb222, 0, none⟩ (.int .u8 ((rd_T66 l0_2 x19_2).f0.f0))).setCell ⟨gb222, 1, none⟩ (.int .u8 ((rd_T66 l0_2 x19_2).f0.f1))).setCell ⟨gb222, 2, none⟩ (.int .u8 ((rd_T66 l0_2 x19_2).f0.f2))).setCell ⟨gb222, 3, none⟩ (.int .i64 ((rd_T66 l0_2 x19_2).f1))) = w40 at n0_ n1_ n2_ ⊢
                            have BK218 := n0_
                            have BK222 := n1_
                            have HB := n2_
                            clear n0_ n1_ n2_
                            have n0_ := Aside0.mk (blk_drew BK218.out)
                            have n1_ := Aside0.mk (blk_drew BK222.out)
                            have n2_ := Aside0.mk (below_drew1 HB.out)
                            clear BK218
                            clear BK222
                            clear HB
                            have BK218 := n0_
                            have BK222 := n1_
                            have HB := n2_
                            clear n0_ n1_ n2_
                            refine start_ (n := 33) (S := fun w' => w'.cell? ⟨gb222, 0, none⟩ = some (.int .u8 ((rd_T66 l0_2 x19_2).f0.f0)) ∧ w'.cell? ⟨gb222, 1, none⟩ = some (.int .u8 ((rd_T66 l0_2 x19_2).f0.f1)) ∧ w'.cell? ⟨gb222, 2, none⟩ = some (.int .u8 ((rd_T66 l0_2 x19_2).f0.f2)) ∧ w'.cell? ⟨gb222, 3, none⟩ = some (.int .i64 ((rd_T66 l0_2 x19_2).f1)) ∧ w'.cell? ⟨gb218, 0, none⟩ = some (.int .i64 a0_0) ∧ w'.cell? ⟨gb218, 1, none⟩ = some (.int .i64 a0_1) ∧ w'.cell? ⟨gb218, 2, none⟩ = some (.slice (some ad221) l0_2.length c0_2)) (ds := []) #[false, false, false, false, false, false, false, false, false, false, false, false, false, false, false, false, false, false, false, false, false, false, false, false, false, false, false, false, false, false, false, false, false] (by kernel_rfl) rfl rfl ⟨(blk_cell BK222.out 0).trans rfl, (blk_cell BK222.out 1).trans rfl, (blk_cell BK222.out 2).trans rfl, (blk_cell BK222.out 3).trans rfl, (blk_cell BK218.out 0).trans rfl, (blk_cell BK218.out 1).trans rfl, (blk_cell BK218.out 2).trans rfl⟩ (fun hHeld => ?_); refine with_tabW impl_IsPoly.tab6 impl_IsPoly.bits6 (fun HT_ HW_ => ?_)
                            generalize w40.drew = w41 at BK218 BK222 HB hHeld ⊢
                            refine pu 0 24 HT_ (h := ?_)
                            refine ta 1 25 HT_ HW_ hHeld (hy := by rintro w' ⟨s0, s1, s2, s3, s4, s5, s6⟩; go_simp; with_reducible rfl) (h := ?_)
                            refine one_ (i := 2) (N := some 26) #[true, true, true, false, false, false, false, false, false, false, false, false, false, false, false, false, false, false, false, false, false, false, false, false, false, false, false, false, false, false, false, false, false] rfl rfl (one_of HT_.out (by kernel_rfl)) (by decide) (fun K hK => ?_)
                            refine go_ Try.func44 #[.agg #[.int .u8 ((rd_T66 l0_2 x19_2).f0.f0), .int .u8 ((rd_T66 l0_2 x19_2).f0.f1), .int .u8 ((rd_T66 l0_2 x19_2).f0.f2)]] (h := ?_)
                            with_reducible refine (impl_Exps_degree.calls ((rd_T66 l0_2 x19_2).f0.f0) ((rd_T66 l0_2 x19_2).f0.f1) ((rd_T66 l0_2 x19_2).f0.f2) t223 _ A18.out).mono ?_
                            rintro e w42 ⟨rfl, hb⟩
                            refine ⟨_, rfl, ?_⟩
                            have n0_ := Aside0.mk (blk_below (g := gb218) (o := .cells #[.int .i64 a0_0, .int .i64 a0_1, .slice (some ad221) l0_2.length c0_2] 44 (0, 0)) (mk BK218.out) hb)
                            have n1_ := Aside0.mk (blk_below (g := gb222) (o := .cells #[.int .u8 ((rd_T66 l0_2 x19_2).f0.f0), .int .u8 ((rd_T66 l0_2 x19_2).f0.f1), .int .u8 ((rd_T66 l0_2 x19_2).f0.f2), .int .i64 ((rd_T66 l0_2 x19_2).f1)] 66 (0, 0)) (mk BK222.out) hb)
                            have n2_ := Aside0.mk (below_step mB hb)
                            clear BK218
                            clear BK222
                            clear HB
                            have BK218 := n0_
                            have BK222 := n1_
                            have HB := n2_
                            clear n0_ n1_ n2_
                            (try clear hb)
                            (try clear hb2)
                            (try clear hk)
                            (try clear hi)
                            refine hK.out _ _ ⟨(blk_cell BK222.out 0).trans rfl, (blk_cell BK222.out 1).trans rfl, (blk_cell BK222.out 2).trans rfl, (blk_cell BK222.out 3).trans rfl, (blk_cell BK218.out 0).trans rfl, (blk_cell BK218.out 1).trans rfl, (blk_cell BK218.out 2).trans rfl⟩ (fun hHeld => ?_)
                            clear hK K
                            refine nm (h := ?_)
                            refine pu 3 27 HT_ (h := ?_)
                            refine pu 4 28 HT_ (h := ?_)
                            refine pu 5 29 HT_ (h := ?_)
                            refine ta 6 30 HT_ HW_ hHeld (hy := by rintro w' ⟨s0, s1, s2, s3, s4, s5, s6⟩; go_simp; with_reducible rfl) (h := ?_)
                            refine pu 7 31 HT_ (h := ?_)
                            refine pu 8 32 HT_ (h := ?_)
                            refine pu 9 33 HT_ (h := ?_)
                            refine pu 10 34 HT_ (h := ?_)
                            refine pu 12 36 HT_ (h := ?_)
                            refine ta 11 35 HT_ HW_ hHeld (hy := by rintro w' ⟨s0, s1, s2, s3, s4, s5, s6⟩; go_simp; with_reducible rfl) (h := ?_)
                            refine ta 13 37 HT_ HW_ hHeld (hy := by rintro w' ⟨s0, s1, s2, s3, s4, s5, s6⟩; go_simp; with_reducible rfl) (h := ?_)
                            refine pu 14 38 HT_ (h := ?_)
                            refine pu 15 39 HT_ (h := ?_)
                            refine pu 16 40 HT_ (h := ?_)
                            refine pu 17 41 HT_ (h := ?_)
                            refine pu 18 42 HT_ (h := ?_)
                            refine pu 19 43 HT_ (h := ?_)
                            refine pv 20 44 HT_ (h := ?_)
                            refine pv 21 45 HT_ (h := ?_)
                            refine pv 22 46 HT_ (h := ?_)
                            refine pv 23 47 HT_ (h := ?_)
                            refine pv 24 48 HT_ (h := ?_)
                            refine pv 25 49 HT_ (h := ?_)
                            refine pv 26 50 HT_ (h := ?_)
                            refine pv 27 51 HT_ (h := ?_)
                            refine pv 28 52 HT_ (h := ?_)
                            refine pv 29 53 HT_ (h := ?_)
                            refine pv 30 54 HT_ (h := ?_)
                            refine pu 31 55 HT_ (h := ?_)
                            refine pu 32 56 HT_ (h := ?_)
                            refine done_ (done_of HT_.out (by kernel_rfl)) ?_
                            try go_wp2
                            go_meet
                            case rel => exact ⟨_, (false), mF, H', ⟨by have := HJ1.out; have := HK2.out; first | omega | exact Nat.le_refl _⟩, ⟨by (with_reducible repeat (first | refine blk_drewN ?_ _ | refine blk_drew ?_ | refine blk_alloc ?_ _)); exact BK218.out⟩, ⟨by (with_reducible repeat (first | refine blk_drewN ?_ _ | refine blk_drew ?_ | refine blk_alloc ?_ _)); exact BK222.out⟩, ⟨mB⟩⟩
                  case rest =>
                    clear HC14
                    try clear p2
                    try clear q2
                    try clear hx2
                    try clear c3
                    try clear c4
                    try clear c5
                    try clear p22
                    try clear q22
                    try clear hx22
                    try clear c31
                    try clear c31b0
                    try clear c33
                    try clear c34
                    try clear hx224_0
                    try clear hx224_1
                    try clear hx224_2
                    try clear hx224_3
                    try clear p224
                    try clear q224
                    obtain ⟨kq, x56_13, rfl, HA, HJ13, BK218, BK222, HB⟩ := hcut
                    cases kq with
                    | zero => exact absurd HA.out (by simp [impl_IsPoly.j2])
                    | succ kj13 =>
                      have H := HA.out
                      clear HA
                      simp only [impl_IsPoly.j2] at H
                      by_cases c43 : x56_13 = true
                      · subst c43
                        have H1 : (some false) = some r := by rw [if_pos rfl] at H; exact H
                        clear H
                        have H := H1
                        clear H1
                        obtain rfl := Option.some.inj H
                        go_wp2
                        go_ret
                        exact ⟨mE, mB⟩
                      · replace c43 := Bool.eq_false_iff.mpr c43
                        subst c43
                        have H1 : (impl_IsPoly.l1 kj13 a0_1 l0_2 (l0_2.length : Int) x19_2 a0_0 a0_1 l0_2 ((rd_T66 l0_2 x19_2).f0.f0) ((rd_T66 l0_2 x19_2).f0.f1) ((rd_T66 l0_2 x19_2).f0.f2) ((rd_T66 l0_2 x19_2).f1)) = some r := by rw [if_neg (show ¬ (false = true) by decide)] at H; exact H
                        clear H
                        have H := H1
                        clear H1
                        have H' := Aside0.mk H
                        clear H
                        have hnb44 := NB218_222.out
                        have hnc44 := NB222_218.out
                        have hcz45_0 : wc.cell? ⟨gb218, 0, none⟩ = some (.int .i64 a0_0) := (blk_cell BK218.out 0).trans rfl
                        have hcz45_1 : wc.cell? ⟨gb218, 1, none⟩ = some (.int .i64 a0_1) := (blk_cell BK218.out 1).trans rfl
                        have hcz45_2 : wc.cell? ⟨gb218, 2, none⟩ = some (.slice (some ad221) l0_2.length c0_2) := (blk_cell BK218.out 2).trans rfl
                        have hfz45_0 := blk_frozen BK218.out 0
                        have hfz45_1 := blk_frozen BK218.out 1
                        have hfz45_2 := blk_frozen BK218.out 2
                        go_wp2
                        go_loopg [5] kj13 (fun kq v5 w' => ∃ (x5_4 : Int), v5 = .int .i64 x5_4 ∧ Aside0 (impl_IsPoly.l1 kq x5_4 l0_2 (l0_2.length : Int) x19_2 a0_0 a0_1 l0_2 ((rd_T66 l0_2 x19_2).f0.f0) ((rd_T66 l0_2 x19_2).f0.f1) ((rd_T66 l0_2 x19_2).f0.f2) ((rd_T66 l0_2 x19_2).f1) = some r) ∧ Aside0 (kq ≤ kj13) ∧ Aside0 (w'.heap[gb218]? = some (.cells #[.int .i64 a0_0, .int .i64 a0_1, (.slice (some ad221) l0_2.length c0_2)] 44 (0, 0))) ∧ Aside0 (w'.heap[gb222]? = some (.cells #[.int .u8 ((rd_T66 l0_2 x19_2).f0.f0), .int .u8 ((rd_T66 l0_2 x19_2).f0.f1), .int .u8 ((rd_T66 l0_2 x19_2).f0.f2), .int .i64 ((rd_T66 l0_2 x19_2).f1)] 66 (0, 0))) ∧ Aside0 (Below w.heap.size w w'))
                        case atStart => exact ⟨(a0_1), mF, H', ⟨Nat.le_refl _⟩, ⟨by (with_reducible repeat (first | refine blk_drewN ?_ _ | refine blk_drew ?_ | refine blk_alloc ?_ _)); exact BK218.out⟩, ⟨by (with_reducible repeat (first | refine blk_drewN ?_ _ | refine blk_drew ?_ | refine blk_alloc ?_ _)); exact BK222.out⟩, ⟨mB⟩⟩
                        case round =>
                          clear H'
                          try clear p2
                          try clear q2
                          try clear hx2
                          try clear c3
                          try clear c4
                          try clear c5
                          try clear p22
                          try clear q22
                          try clear hx22
                          try clear c31
                          try clear c31b0
                          try clear c33
                          try clear c34
                          try clear c43
                          try clear c44
                          try clear hcz45_0
                          try clear hcz45_1
                          try clear hcz45_2
                          try clear hfz45_0
                          try clear hfz45_1
                          try clear hfz45_2
                          try clear hx224_0
                          try clear hx224_1
                          try clear hx224_2
                          try clear hx224_3
                          try clear p2
                          try clear p22
                          try clear p224
                          try clear q2
                          try clear q22
                          try clear q224
                          obtain ⟨x5_4, rfl, HA, HK4, BK218, BK222, HB⟩ := hrel
                          cases gk with
                          | zero => exact absurd HA.out (by simp [impl_IsPoly.l1])
                          | succ k4 =>
                            have H := HA.out
                            clear HA
                            simp only [impl_IsPoly.l1] at H
                            by_cases c46 : x5_4 < 3
                            · rw [if_pos c46] at H
                              have c46b0 : decide (x5_4 < 3) = true := decide_eq_true c46
                              clear c46
                              by_cases c47 : x5_4 = 0
                              · subst c47
                                have H1 : (if ((rd_T66 l0_2 x19_2).f0.f0) = 0 then (impl_IsPoly.l1 k4 (0 + 1) l0_2 (l0_2.length : Int) x19_2 a0_0 a0_1 l0_2 ((rd_T66 l0_2 x19_2).f0.f0) ((rd_T66 l0_2 x19_2).f0.f1) ((rd_T66 l0_2 x19_2).f0.f2) ((rd_T66 l0_2 x19_2).f1)) else (some false)) = some r := by rw [if_pos rfl] at H; exact H
                                clear H
                                have H := H1
                                clear H1
                                by_cases c48 : ((rd_T66 l0_2 x19_2).f0.f0) = 0
                                · rw [if_pos c48] at H
                                  have c48b0 : (((rd_T66 l0_2 x19_2).f0.f0) == 0) = true := beq_iff_eq.mpr c48
                                  have c48b1 : (((rd_T66 l0_2 x19_2).f0.f0) != 0) = false := bne_eq_false_iff_eq.mpr c48
                                  clear c48
                                  have H' := Aside0.mk H
                                  clear H
                                  have hnb49 := NB222_218.out
                                  have hnc49 := NB218_222.out
                                  have hcz50_0 : wr.cell? ⟨gb222, 0, none⟩ = some (.int .u8 ((rd_T66 l0_2 x19_2).f0.f0)) := (blk_cell BK222.out 0).trans rfl
                                  have hcz50_1 : wr.cell? ⟨gb222, 1, none⟩ = some (.int .u8 ((rd_T66 l0_2 x19_2).f0.f1)) := (blk_cell BK222.out 1).trans rfl
                                  have hcz50_2 : wr.cell? ⟨gb222, 2, none⟩ = some (.int .u8 ((rd_T66 l0_2 x19_2).f0.f2)) := (blk_cell BK222.out 2).trans rfl
                                  have hcz50_3 : wr.cell? ⟨gb222, 3, none⟩ = some (.int .i64 ((rd_T66 l0_2 x19_2).f1)) := (blk_cell BK222.out 3).trans rfl
                                  have hfz50_0 := blk_frozen BK222.out 0
                                  have hfz50_1 := blk_frozen BK222.out 1
                                  have hfz50_2 := blk_frozen BK222.out 2
                                  have hfz50_3 := blk_frozen BK222.out 3
                                  go_wp2
                                  go_roundg k4
                                  case measure => have := HJ1.out; have := HK2.out; have := HJ13.out; have := HK4.out; omega
                                  case rel => exact ⟨(0 + 1), mF, H', ⟨by have := HJ1.out; have := HK2.out; have := HJ13.out; have := HK4.out; omega⟩, ⟨by (with_reducible repeat (first | refine blk_drewN ?_ _ | refine blk_drew ?_ | refine blk_alloc ?_ _)); exact BK218.out⟩, ⟨by (with_reducible repeat (first | refine blk_drewN ?_ _ | refine blk_drew ?_ | refine blk_alloc ?_ _)); exact BK222.out⟩, ⟨mB⟩⟩
                                · rw [if_neg c48] at H
                                  have c48b0 : (((rd_T66 l0_2 x19_2).f0.f0) == 0) = false := beq_eq_false_iff_ne.mpr c48
                                  have c48b1 : (((rd_T66 l0_2 x19_2).f0.f0) != 0) = true := bne_iff_ne.mpr c48
                                  obtain rfl := Option.some.inj H
                                  have hnb51 := NB222_218.out
                                  have hnc51 := NB218_222.out
                                  have hcz52_0 : wr.cell? ⟨gb222, 0, none⟩ = some (.int .u8 ((rd_T66 l0_2 x19_2).f0.f0)) := (blk_cell BK222.out 0).trans rfl
                                  have hcz52_1 : wr.cell? ⟨gb222, 1, none⟩ = some (.int .u8 ((rd_T66 l0_2 x19_2).f0.f1)) := (blk_cell BK222.out 1).trans rfl
                                  have hcz52_2 : wr.cell? ⟨gb222, 2, none⟩ = some (.int .u8 ((rd_T66 l0_2 x19_2).f0.f2)) := (blk_cell BK222.out 2).trans rfl
                                  have hcz52_3 : wr.cell? ⟨gb222, 3, none⟩ = some (.int .i64 ((rd_T66 l0_2 x19_2).f1)) := (blk_cell BK222.out 3).trans rfl
                                  have hfz52_0 := blk_frozen BK222.out 0
                                  have hfz52_1 := blk_frozen BK222.out 1
                                  have hfz52_2 := blk_frozen BK222.out 2
                                  have hfz52_3 := blk_frozen BK222.out 3
                                  go_wp2
                                  go_ret
                                  exact ⟨mE, mB⟩
                              · rw [if_neg c47] at H
                                by_cases c53 : x5_4 = 1
                                · subst c53
                                  have H1 : (if ((rd_T66 l0_2 x19_2).f0.f1) = 0 then (impl_IsPoly.l1 k4 (1 + 1) l0_2 (l0_2.length : Int) x19_2 a0_0 a0_1 l0_2 ((rd_T66 l0_2 x19_2).f0.f0) ((rd_T66 l0_2 x19_2).f0.f1) ((rd_T66 l0_2 x19_2).f0.f2) ((rd_T66 l0_2 x19_2).f1)) else (some false)) = some r := by rw [if_pos rfl] at H; exact H
                                  clear H
                                  have H := H1
                                  clear H1
                                  by_cases c54 : ((rd_T66 l0_2 x19_2).f0.f1) = 0
                                  · rw [if_pos c54] at H
                                    have c54b0 : (((rd_T66 l0_2 x19_2).f0.f1) == 0) = true := beq_iff_eq.mpr c54
                                    have c54b1 : (((rd_T66 l0_2 x19_2).f0.f1) != 0) = false := bne_eq_false_iff_eq.mpr c54
                                    clear c54
                                    have H' := Aside0.mk H
                                    clear H
                                    have hnb55 := NB222_218.out
                                    have hnc55 := NB218_222.out
                                    have hcz56_0 : wr.cell? ⟨gb222, 0, none⟩ = some (.int .u8 ((rd_T66 l0_2 x19_2).f0.f0)) := (blk_cell BK222.out 0).trans rfl
                                    have hcz56_1 : wr.cell? ⟨gb222, 1, none⟩ = some (.int .u8 ((rd_T66 l0_2 x19_2).f0.f1)) := (blk_cell BK222.out 1).trans rfl
                                    have hcz56_2 : wr.cell? ⟨gb222, 2, none⟩ = some (.int .u8 ((rd_T66 l0_2 x19_2).f0.f2)) := (blk_cell BK222.out 2).trans rfl
                                    have hcz56_3 : wr.cell? ⟨gb222, 3, none⟩ = some (.int .i64 ((rd_T66 l0_2 x19_2).f1)) := (blk_cell BK222.out 3).trans rfl
                                    have hfz56_0 := blk_frozen BK222.out 0
                                    have hfz56_1 := blk_frozen BK222.out 1
                                    have hfz56_2 := blk_frozen BK222.out 2
                                    have hfz56_3 := blk_frozen BK222.out 3
                                    go_wp2
                                    go_roundg k4
                                    case measure => have := HJ1.out; have := HK2.out; have := HJ13.out; have := HK4.out; omega
                                    case rel => exact ⟨(1 + 1), mF, H', ⟨by have := HJ1.out; have := HK2.out; have := HJ13.out; have := HK4.out; omega⟩, ⟨by (with_reducible repeat (first | refine blk_drewN ?_ _ | refine blk_drew ?_ | refine blk_alloc ?_ _)); exact BK218.out⟩, ⟨by (with_reducible repeat (first | refine blk_drewN ?_ _ | refine blk_drew ?_ | refine blk_alloc ?_ _)); exact BK222.out⟩, ⟨mB⟩⟩
                                  · rw [if_neg c54] at H
                                    have c54b0 : (((rd_T66 l0_2 x19_2).f0.f1) == 0) = false := beq_eq_false_iff_ne.mpr c54
                                    have c54b1 : (((rd_T66 l0_2 x19_2).f0.f1) != 0) = true := bne_iff_ne.mpr c54
                                    obtain rfl := Option.some.inj H
                                    have hnb57 := NB222_218.out
                                    have hnc57 := NB218_222.out
                                    have hcz58_0 : wr.cell? ⟨gb222, 0, none⟩ = some (.int .u8 ((rd_T66 l0_2 x19_2).f0.f0)) := (blk_cell BK222.out 0).trans rfl
                                    have hcz58_1 : wr.cell? ⟨gb222, 1, none⟩ = some (.int .u8 ((rd_T66 l0_2 x19_2).f0.f1)) := (blk_cell BK222.out 1).trans rfl
                                    have hcz58_2 : wr.cell? ⟨gb222, 2, none⟩ = some (.int .u8 ((rd_T66 l0_2 x19_2).f0.f2)) := (blk_cell BK222.out 2).trans rfl
                                    have hcz58_3 : wr.cell? ⟨gb222, 3, none⟩ = some (.int .i64 ((rd_T66 l0_2 x19_2).f1)) := (blk_cell BK222.out 3).trans rfl
                                    have hfz58_0 := blk_frozen BK222.out 0
                                    have hfz58_1 := blk_frozen BK222.out 1
                                    have hfz58_2 := blk_frozen BK222.out 2
                                    have hfz58_3 := blk_frozen BK222.out 3
                                    go_wp2
                                    go_ret
                                    exact ⟨mE, mB⟩
                                · rw [if_neg c53] at H
                                  by_cases c59 : x5_4 = 2
                                  · subst c59
                                    have H1 : (if ((rd_T66 l0_2 x19_2).f0.f2) = 0 then (impl_IsPoly.l1 k4 (2 + 1) l0_2 (l0_2.length : Int) x19_2 a0_0 a0_1 l0_2 ((rd_T66 l0_2 x19_2).f0.f0) ((rd_T66 l0_2 x19_2).f0.f1) ((rd_T66 l0_2 x19_2).f0.f2) ((rd_T66 l0_2 x19_2).f1)) else (some false)) = some r := by rw [if_pos rfl] at H; exact H
                                    clear H
                                    have H := H1
                                    clear H1
                                    by_cases c60 : ((rd_T66 l0_2 x19_2).f0.f2) = 0
                                    · rw [if_pos c60] at H
                                      have c60b0 : (((rd_T66 l0_2 x19_2).f0.f2) == 0) = true := beq_iff_eq.mpr c60
                                      have c60b1 : (((rd_T66 l0_2 x19_2).f0.f2) != 0) = false := bne_eq_false_iff_eq.mpr c60
                                      clear c60
                                      have H' := Aside0.mk H
                                      clear H
                                      have hnb61 := NB222_218.out
                                      have hnc61 := NB218_222.out
                                      have hcz62_0 : wr.cell? ⟨gb222, 0, none⟩ = some (.int .u8 ((rd_T66 l0_2 x19_2).f0.f0)) := (blk_cell BK222.out 0).trans rfl
                                      have hcz62_1 : wr.cell? ⟨gb222, 1, none⟩ = some (.int .u8 ((rd_T66 l0_2 x19_2).f0.f1)) := (blk_cell BK222.out 1).trans rfl
                                      have hcz62_2 : wr.cell? ⟨gb222, 2, none⟩ = some (.int .u8 ((rd_T66 l0_2 x19_2).f0.f2)) := (blk_cell BK222.out 2).trans rfl
                                      have hcz62_3 : wr.cell? ⟨gb222, 3, none⟩ = some (.int .i64 ((rd_T66 l0_2 x19_2).f1)) := (blk_cell BK222.out 3).trans rfl
                                      have hfz62_0 := blk_frozen BK222.out 0
                                      have hfz62_1 := blk_frozen BK222.out 1
                                      have hfz62_2 := blk_frozen BK222.out 2
                                      have hfz62_3 := blk_frozen BK222.out 3
                                      go_wp2
                                      go_roundg k4
                                      case measure => have := HJ1.out; have := HK2.out; have := HJ13.out; have := HK4.out; omega
                                      case rel => exact ⟨(2 + 1), mF, H', ⟨by have := HJ1.out; have := HK2.out; have := HJ13.out; have := HK4.out; omega⟩, ⟨by (with_reducible repeat (first | refine blk_drewN ?_ _ | refine blk_drew ?_ | refine blk_alloc ?_ _)); exact BK218.out⟩, ⟨by (with_reducible repeat (first | refine blk_drewN ?_ _ | refine blk_drew ?_ | refine blk_alloc ?_ _)); exact BK222.out⟩, ⟨mB⟩⟩
                                    · rw [if_neg c60] at H
                                      have c60b0 : (((rd_T66 l0_2 x19_2).f0.f2) == 0) = false := beq_eq_false_iff_ne.mpr c60
                                      have c60b1 : (((rd_T66 l0_2 x19_2).f0.f2) != 0) = true := bne_iff_ne.mpr c60
                                      obtain rfl := Option.some.inj H
                                      have hnb63 := NB222_218.out
                                      have hnc63 := NB218_222.out
                                      have hcz64_0 : wr.cell? ⟨gb222, 0, none⟩ = some (.int .u8 ((rd_T66 l0_2 x19_2).f0.f0)) := (blk_cell BK222.out 0).trans rfl
                                      have hcz64_1 : wr.cell? ⟨gb222, 1, none⟩ = some (.int .u8 ((rd_T66 l0_2 x19_2).f0.f1)) := (blk_cell BK222.out 1).trans rfl
                                      have hcz64_2 : wr.cell? ⟨gb222, 2, none⟩ = some (.int .u8 ((rd_T66 l0_2 x19_2).f0.f2)) := (blk_cell BK222.out 2).trans rfl
                                      have hcz64_3 : wr.cell? ⟨gb222, 3, none⟩ = some (.int .i64 ((rd_T66 l0_2 x19_2).f1)) := (blk_cell BK222.out 3).trans rfl
                                      have hfz64_0 := blk_frozen BK222.out 0
                                      have hfz64_1 := blk_frozen BK222.out 1
                                      have hfz64_2 := blk_frozen BK222.out 2
                                      have hfz64_3 := blk_frozen BK222.out 3
                                      go_wp2
                                      go_ret
                                      exact ⟨mE, mB⟩
                                  · rw [if_neg c59] at H
                                    exact absurd H (by simp)
                            · rw [if_neg c46] at H
                              have c46b0 : decide (x5_4 < 3) = false := decide_eq_false c46
                              clear c46
                              have H' := Aside0.mk H
                              clear H
                              go_wp2
                              go_roundg k4
                              case measure => have := HJ1.out; have := HK2.out; have := HJ13.out; have := HK4.out; omega
                              case rel => exact ⟨(wrap64 (x19_2 + 1)), mF, H', ⟨by have := HJ1.out; have := HK2.out; have := HJ13.out; have := HK4.out; omega⟩, ⟨by (with_reducible repeat (first | refine blk_drewN ?_ _ | refine blk_drew ?_ | refine blk_alloc ?_ _)); exact BK218.out⟩, ⟨mB⟩⟩
                · rw [if_neg c13] at H
                  exact absurd H (by simp)
              · rw [if_neg c12] at H
                exact absurd H (by simp)
            · rw [if_neg c11] at H
              have c11b0 : decide (x19_2 < (l0_2.length : Int)) = false := decide_eq_false c11
              clear c11
              obtain rfl := Option.some.inj H
              go_wp2
              go_ret
              exact ⟨mE, mB⟩

end Go.Proofs.Ytpeihdjefpnoaaa.EFnExactFreeNumber
