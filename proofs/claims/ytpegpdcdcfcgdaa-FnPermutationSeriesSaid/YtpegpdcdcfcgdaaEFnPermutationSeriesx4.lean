/- The functions that the law uses, as plain functions, and that the code comes to what they say. -/
import Derived.Test.YtpegpdcdcfcgdaaEFnPermutationSeriesx0
namespace Go.Proofs.Ytpegpdcdcfcgdaa.EFnPermutationSeries
open Go.RowKit Go.Proofs.YtpegpdcdcfcgdaaW.PrintWords Go.Proofs.YtpegpdcdcfcgdaaW.PrintLast Go.Proofs.YtpegpdcdcfcgdaaW.PrintMore Go.Proofs.YtpegpdcdcfcgdaaX
attribute [local go_sem] max2_int min2_int max_two min_two max_three min_three max_four min_four   -- for this text's walks alone
set_option linter.unusedVariables false
set_option linter.unusedSimpArgs false

/-! ### spec_l04Of: function 29 -/
mutual
def spec_l04Of.l0 : Nat → List Int → Int → List Int → Int → Option (List Int)
  | 0, _, _, _, _ => none
  | k + 1, x0, x1, x5, x6 => if x6 < (x0.length : Int) then (if 0 ≤ x6 then (spec_l04Of.l1 k x0 x1 x5 x6 (rd x0 x6)) else (none)) else (some x5)
def spec_l04Of.l1 : Nat → List Int → Int → List Int → Int → Int → Option (List Int)
  | 0, _, _, _, _, _ => none
  | k + 1, x0, x1, x5, x6, x7 => if x7 ≤ x1 then (if 0 ≤ x7 then (if x7 < (x5.length : Int) then (if 0 ≤ x6 then (if x6 < (x0.length : Int) then (if 0 ≤ (wrap64 (x7 - (rd x0 x6))) then (if (wrap64 (x7 - (rd x0 x6))) < (x5.length : Int) then (spec_l04Of.l1 k x0 x1 (x5.set (x7 : Int).toNat (wrap64 ((rd x5 x7) + (rd x5 (wrap64 (x7 - (rd x0 x6))))))) x6 (wrap64 (x7 + 1))) else (none)) else (none)) else (none)) else (none)) else (none)) else (none)) else (spec_l04Of.l0 k x0 x1 x5 (wrap64 (x6 + 1)))
end
def spec_l04Of.f (k : Nat) (l0 : List Int) (a1 : Int) : Option (List Int) := if 0 ≤ (wrap64 (a1 + 1)) then (if (wrap64 (a1 + 1) : Int).toNat ≤ 35184372088832 then ((some (List.replicate (wrap64 (a1 + 1) : Int).toNat 0 : List Int)).bind fun y202 => (if 0 < (y202.length : Int) then (spec_l04Of.l0 k l0 a1 (y202.set (0 : Int).toNat 1) 0) else (none))) else (none)) else (none)
theorem spec_l04Of.mono_l : ∀ k, (∀ y0 y1 y2 y3, LeO (spec_l04Of.l0 k y0 y1 y2 y3) (spec_l04Of.l0 (k + 1) y0 y1 y2 y3)) ∧ (∀ y0 y1 y2 y3 y4, LeO (spec_l04Of.l1 k y0 y1 y2 y3 y4) (spec_l04Of.l1 (k + 1) y0 y1 y2 y3 y4))
  | 0 => ⟨fun _ _ _ _ r h => by simp [spec_l04Of.l0] at h, fun _ _ _ _ _ r h => by simp [spec_l04Of.l1] at h⟩
  | k + 1 => by
    obtain ⟨ih0, ih1⟩ := spec_l04Of.mono_l k
    refine ⟨?_, ?_⟩
    · intro y0 y1 y2 y3
      unfold spec_l04Of.l0
      repeat' first
      | (with_reducible exact ih0 _ _ _ _)
      | (with_reducible exact ih1 _ _ _ _ _)
      | (with_reducible exact LeO.refl _)
      | (with_reducible exact LeO.none _)
      | (with_reducible refine LeO.ite ?_ ?_)
      | (with_reducible refine LeO.bind ?_ (fun _ => ?_))
      | exact ih0 _ _ _ _
      | exact ih1 _ _ _ _ _
      | exact LeO.none _
      | refine LeO.ite ?_ ?_
      | refine LeO.bind ?_ (fun _ => ?_)
    · intro y0 y1 y2 y3 y4
      unfold spec_l04Of.l1
      repeat' first
      | (with_reducible exact ih0 _ _ _ _)
      | (with_reducible exact ih1 _ _ _ _ _)
      | (with_reducible exact LeO.refl _)
      | (with_reducible exact LeO.none _)
      | (with_reducible refine LeO.ite ?_ ?_)
      | (with_reducible refine LeO.bind ?_ (fun _ => ?_))
      | exact ih0 _ _ _ _
      | exact ih1 _ _ _ _ _
      | exact LeO.none _
      | refine LeO.ite ?_ ?_
      | refine LeO.bind ?_ (fun _ => ?_)
theorem spec_l04Of.mono : ∀ a0 a1 k, LeO (spec_l04Of.f k a0 a1) (spec_l04Of.f (k + 1) a0 a1) := by
  intro a0 a1 k
  obtain ⟨ih0, ih1⟩ := spec_l04Of.mono_l k
  unfold spec_l04Of.f
  repeat' first
      | (with_reducible exact ih0 _ _ _ _)
      | (with_reducible exact ih1 _ _ _ _ _)
      | (with_reducible exact LeO.refl _)
      | (with_reducible exact LeO.none _)
      | (with_reducible refine LeO.ite ?_ ?_)
      | (with_reducible refine LeO.bind ?_ (fun _ => ?_))
      | exact ih0 _ _ _ _
      | exact ih1 _ _ _ _ _
      | exact LeO.none _
      | refine LeO.ite ?_ ?_
      | refine LeO.bind ?_ (fun _ => ?_)
def spec_l04Of.T9 : Bool × List (List Nat × List Nat) := (true, [([], []), ([], []), ([], []), ([], []), ([2, 3], [2, 3]), ([4], [4]), ([], []), ([], []), ([], []), ([], []), ([8, 9], [8, 9]), ([10], [10]), ([7, 11], [7, 11]), ([6, 12], [6, 12]), ([13], [13]), ([5, 14], [5, 14]), ([0, 1, 0, 1, 2, 3, 4, 5, 6, 7, 8, 9, 10, 11, 12, 13, 14, 15], [0, 1]), ([16, 15, 0, 1, 2, 3, 4, 5, 6, 7, 8, 9, 10, 11, 12, 13, 14, 15], [15, 16])])
def spec_l04Of.B9 : List Nat := [0, 0, 0, 0, 12, 28, 0, 0, 0, 0, 768, 1792, 3968, 8128, 16320, 32764, 65535, 131071]
theorem spec_l04Of.tab9 : rtab .any (opsOf Try.f29 9) = spec_l04Of.T9 := by kernel_rfl
theorem spec_l04Of.bits9 : waitsOk spec_l04Of.T9.2 spec_l04Of.B9 = true := by kernel_rfl
set_option maxHeartbeats 8000000 in
set_option maxRecDepth 100000 in
theorem spec_l04Of.calls (k : Nat) (A0 : Option Addr) (c0 : Nat) (l0 : List Int) (a1 : Int) (r : List Int) (w : World) (hr0 : Kd.C (Kd.int .i64) w A0 l0.length l0) (hc0 : l0.length ≤ c0) (h : spec_l04Of.f k l0 a1 = some r) :
    Calls Try.prog 29 #[.slice A0 l0.length c0, .int .i64 a1] w fun e w' => ∃ v0_ : Value, e = .returned (v0_) ∧ Kd.R (Kd.int .i64) 2 w' w.heap.size (fun _ => True) v0_ r ∧ Below w.heap.size w w' := by
  have HR0 := Aside0.mk hr0
  have HC0 := Aside0.mk hc0
  clear hr0 hc0
  have HB := Aside0.mk (Below.refl w.heap.size w)
  have H : (if 0 ≤ (wrap64 (a1 + 1)) then (if (wrap64 (a1 + 1) : Int).toNat ≤ 35184372088832 then ((some (List.replicate (wrap64 (a1 + 1) : Int).toNat 0 : List Int)).bind fun y202 => (if 0 < (y202.length : Int) then (spec_l04Of.l0 k l0 a1 (y202.set (0 : Int).toNat 1) 0) else (none))) else (none)) else (none)) = some r := h
  clear h
  obtain ⟨ji3, hji3⟩ : ∃ j_ : Int, (wrap64 (a1 + 1)) = j_ := ⟨_, rfl⟩
  replace H : (if 0 ≤ (ji3) then (if (ji3 : Int).toNat ≤ 35184372088832 then ((some (List.replicate (ji3 : Int).toNat 0 : List Int)).bind fun y202 => (if 0 < (y202.length : Int) then (spec_l04Of.l0 k l0 a1 (y202.set (0 : Int).toNat 1) 0) else (none))) else (none)) else (none)) = some r := by first | (rw [hji3] at H; exact H) | (simp only [hji3] at H ⊢; exact H)
  have hji3w : (IntKind.i64.wrap (a1 + 1)) = ji3 := (i64_w _).trans hji3
  by_cases c4 : 0 ≤ (ji3)
  · rw [if_pos c4] at H
    have c4b0 := eq_true c4
    have c4b1 : decide (0 ≤ (ji3)) = true := decide_eq_true c4
    clear c4
    by_cases c5 : (ji3 : Int).toNat ≤ 35184372088832
    · rw [if_pos c5] at H
      have c5b0 := eq_true c5
      have c5b1 : decide ((ji3 : Int).toNat ≤ 35184372088832) = true := decide_eq_true c5
      clear c5
      obtain ⟨y202, hy202⟩ : ∃ y_ : List Int, y_ = (List.replicate (ji3 : Int).toNat 0) := ⟨_, rfl⟩
      replace H : (if 0 < (y202.length : Int) then (spec_l04Of.l0 k l0 a1 (y202.set (0 : Int).toNat 1) 0) else (none)) = some r := by first | (rw [hy202]; with_reducible exact H) | (have H2_ := (Option.bind_some _ _).symm.trans H; rw [hy202]; with_reducible exact H2_) | (have H2_ := (Option.bind_some _ _).symm.trans H; with_reducible exact H2_) | with_reducible exact H | (rw [hy202]; exact H) | exact H
      have Ny202 := Aside0.mk hy202
      clear hy202
      by_cases c6 : 0 < (y202.length : Int)
      · rw [if_pos c6] at H
        have c6b0 : decide (0 < (y202.length : Int)) = true := decide_eq_true c6
        have c6b1 : decide (0 < y202.length) = true := decide_eq_true (by omega)
        clear c6
        obtain ⟨y205, hy205⟩ : ∃ y_ : List Int, y_ = (y202.set (0 : Int).toNat 1) := ⟨_, rfl⟩
        replace H : (spec_l04Of.l0 k l0 a1 y205 0) = some r := by first | (rw [hy205]; with_reducible exact H) | (have H2_ := (Option.bind_some _ _).symm.trans H; rw [hy205]; with_reducible exact H2_) | (have H2_ := (Option.bind_some _ _).symm.trans H; with_reducible exact H2_) | with_reducible exact H | (rw [hy205]; exact H) | exact H
        have Ny205 := Aside0.mk hy205
        clear hy205
        have H' := Aside0.mk H
        clear H
        go_enter Try.func29, Try.ntmps29
        go_wp2_with (first | ((with_reducible refine gate_dst (N := 10) rfl ?_); refine Kd.R_make (Kd.int .i64) _ 2 rfl (N := 10) rfl 22 _ _ rfl ji3 rfl rfl Try.underlying22 (.int .i64 0) 8 info2 rfl (by decide) (by omega) 0 (ok := fun _ => True) (okp := fun _ => True) rfl (fun _ hk => hk) trivial (of_decide_eq_true mS) (Nat.le_trans (Nat.mul_le_mul_right _ (of_decide_eq_true mS : ji3.toNat ≤ 35184372088832)) (by omega)) (Below.refl _ _) (Nat.le_refl _) ?_; intro v203 w8 ho9 hb hg_ hnew_; clear hg_ hnew_; (first | rw [← Ny202.out] at ho9 | (simp only [Int.reduceToNat] at ho9; rw [← Ny202.out] at ho9)); have n0_ := Aside0.mk (Kd.R_lower ho9 (below_size mB)); have n1_ := Aside0.mk (below_step mB hb); clear HB; have HO204 := n0_; have HB := n1_; clear n0_ n1_; clear hb ho9; have p7 : 0 ≤ (0 : Int) := (by omega); have q7 : (0 : Int) < ((y202.length : Int) : Int) := of_decide_eq_true mS; have qi7 : (0 < y202.length) = True := eq_true (by omega); obtain ⟨go7, co7, eo7, gb7, gl7, cl7, HG7⟩ := Kd.R_form HO204.out (by omega); (first | cases eo7 | (injection eo7 with ea_ en_ ec_; (first | subst ea_ | (injection ea_ with ea_; subst ea_)); subst ec_; clear en_)); have GB7 := Aside0.mk gb7; have GG7 := Aside0.mk HG7; clear gb7 gl7 HG7; obtain ⟨hx7_0, hf7_0⟩ := Kd.R_celln 0 HO204.out (0 : Int) p7 q7; (try rw [show ((0 : Int)).toNat = 0 from rfl] at hx7_0); (try simp only [Nat.reduceMul, Nat.zero_mul, Nat.zero_add, Nat.reduceAdd] at hx7_0); (try rw [show ((0 : Int)).toNat = 0 from rfl] at hf7_0); (try simp only [Nat.reduceMul, Nat.zero_mul, Nat.zero_add, Nat.reduceAdd] at hf7_0); replace p7 := eq_true p7; replace q7 := eq_true q7; obtain ⟨hy10_, hz10_⟩ := Kd.R_celln 0 HO204.out (0 : Int) (by omega) (of_decide_eq_true mS); (try simp only [Int.reduceToNat, Int.toNat_zero, Int.toNat_ofNat, Nat.reduceMul, Nat.zero_mul, Nat.zero_add] at hy10_ hz10_); (try rw [show ((0 : Int)).toNat = 0 from rfl] at hy10_); (try rw [show ((0 : Int)).toNat = 0 from rfl] at hz10_); have HP10 := Kd.R_putg HO204.out (0 : Int) 1) | ((with_reducible refine gate_store (t := 2) (p := 12) rfl ?_); refine store_event (t := 2) (p := 12) (v := ?vo_w11) (w1 := (w8.setCell ⟨go7, (0 : Int).toNat, none⟩ (.int .i64 1))) ?hg ?ho ?hn ?hr ?_; (case ho => rfl); (case hg => rfl); (case hn => rfl); (case hr => first | (go_simp; done) | (go_simp; rfl)); intro w11 hw; have hg : w8.grownBy w11 (some go7) := (by rw [hw]; exact HP10.2); have hp_ : Kd.R (Kd.int .i64) 2 w11 w.heap.size (fun _ => True) (.slice (some ⟨go7, 0, none⟩) y202.length co7) y205 := (by rw [hw, Ny205.out]; exact HP10.1); clear HP10; have n0_ := Aside0.mk (hp_); have n1_ := Aside0.mk ((by rw [hw]; exact below_set (HB.out) GB7.out : Below w.heap.size w w11)); clear HO204; clear HB; have HO204 := n0_; have HB := n1_; clear n0_ n1_; clear hg hw hp_))
        go_loopg [6] k (fun kq v6 w' => ∃ (x5_1 : List Int) (x6_1 : Int), v6 = .int .i64 x6_1 ∧ Aside0 (spec_l04Of.l0 kq l0 a1 x5_1 x6_1 = some r) ∧ Aside0 (kq ≤ k) ∧ Aside0 (Kd.R (Kd.int .i64) 2 w' w.heap.size (fun _ => True) (.slice (some ⟨go7, 0, none⟩) y202.length co7) x5_1) ∧ Aside0 (Below w.heap.size w w'))
        case atStart => exact ⟨(y205), (0), mF, H', ⟨Nat.le_refl _⟩, ⟨mR HO204.out⟩, ⟨mB⟩⟩
        case round =>
          clear H'
          try clear c2
          try clear p2
          try clear c4
          try clear c4b0
          try clear c4b1
          try clear c5
          try clear c5b0
          try clear c5b1
          try clear c6
          try clear c6b0
          try clear c6b1
          try clear p6
          try clear p7
          try clear q7
          try clear hx7
          try clear qi7
          try clear hf7
          try clear hx7_0
          try clear p7
          try clear q7
          obtain ⟨x5_1, x6_1, rfl, HA, HK1, HO_5, HB⟩ := hrel
          have hl5_1 := (Kd.R_reads' HO_5.out).1
          rw [hl5_1] at HO_5
          (try simp only [hl5_1])
          cases gk with
          | zero => exact absurd HA.out (by simp [spec_l04Of.l0])
          | succ k1 =>
            have H := HA.out
            clear HA
            simp only [spec_l04Of.l0] at H
            by_cases c12 : x6_1 < (l0.length : Int)
            · rw [if_pos c12] at H
              have c12b0 : decide (x6_1 < (l0.length : Int)) = true := decide_eq_true c12
              have c12b0z := c12b0
              (try simp only [hl5_1] at c12b0z)
              clear c12
              by_cases c13 : 0 ≤ x6_1
              · rw [if_pos c13] at H
                have c13b0 : decide (0 ≤ x6_1) = true := decide_eq_true c13
                clear c13
                have H' := Aside0.mk H
                clear H
                have p206 : 0 ≤ (x6_1 : Int) := of_decide_eq_true mS
                have q206 : x6_1 < (l0.length : Int) := of_decide_eq_true mS
                obtain ⟨ad206, e206, hx206_0⟩ := Kd.at_int HR0.out x6_1 p206 q206
                cases e206
                replace hx206_0 := cB HB hx206_0
                replace p206 := eq_true p206
                replace q206 := eq_true q206
                go_wp2
                go_loopg [7] k1 (fun kq v7 w' => ∃ (x5_2 : List Int) (x7_2 : Int), v7 = .int .i64 x7_2 ∧ Aside0 (spec_l04Of.l1 kq l0 a1 x5_2 x6_1 x7_2 = some r) ∧ Aside0 (kq ≤ k1) ∧ Aside0 (Kd.R (Kd.int .i64) 2 w' w.heap.size (fun _ => True) (.slice (some ⟨go7, 0, none⟩) x5_1.length co7) x5_2) ∧ Aside0 (Below w.heap.size w w'))
                case atStart => exact ⟨(x5_1), (rd l0 x6_1), mF, H', ⟨Nat.le_refl _⟩, ⟨by (try simp only [hl5_1]); (with_reducible repeat (first | apply Kd.R_alloc | apply Kd.R_drewN | apply Kd.R_drew)); exact HO_5.out⟩, ⟨mB⟩⟩
                case round =>
                  clear H'
                  try clear c1
                  try clear c2
                  try clear p2
                  try clear q2
                  try clear hx2
                  try clear c4
                  try clear c4b0
                  try clear c4b1
                  try clear c5
                  try clear c5b0
                  try clear c5b1
                  try clear c6
                  try clear c6b0
                  try clear c6b1
                  try clear p6
                  try clear p7
                  try clear q7
                  try clear hx7
                  try clear qi7
                  try clear hf7
                  try clear c12
                  try clear c12b0
                  try clear c13
                  try clear c13b0
                  try clear hx206_0
                  try clear hx7_0
                  try clear p2
                  try clear p206
                  try clear p6
                  try clear p7
                  try clear q206
                  try clear q7
                  obtain ⟨x5_2, x7_2, rfl, HA, HK2, HO_5, HB⟩ := hrel
                  have hl5_2 := (Kd.R_reads' HO_5.out).1
                  rw [hl5_2] at HO_5
                  (try simp only [hl5_2])
                  cases gk with
                  | zero => exact absurd HA.out (by simp [spec_l04Of.l1])
                  | succ k2 =>
                    have H := HA.out
                    clear HA
                    simp only [spec_l04Of.l1] at H
                    by_cases c14 : x7_2 ≤ a1
                    · rw [if_pos c14] at H
                      have c14b0 : decide (x7_2 ≤ a1) = true := decide_eq_true c14
                      clear c14
                      by_cases c15 : 0 ≤ x7_2
                      · rw [if_pos c15] at H
                        have c15b0 : decide (0 ≤ x7_2) = true := decide_eq_true c15
                        clear c15
                        by_cases c16 : x7_2 < (x5_2.length : Int)
                        · rw [if_pos c16] at H
                          have c16b0 : decide (x7_2 < (x5_2.length : Int)) = true := decide_eq_true c16
                          have c16b0z := c16b0
                          (try simp only [hl5_1, hl5_2] at c16b0z)
                          clear c16
                          by_cases c17 : 0 ≤ x6_1
                          · rw [if_pos c17] at H
                            have c17b0 : decide (0 ≤ x6_1) = true := decide_eq_true c17
                            clear c17
                            by_cases c18 : x6_1 < (l0.length : Int)
                            · rw [if_pos c18] at H
                              have c18b0 : decide (x6_1 < (l0.length : Int)) = true := decide_eq_true c18
                              have c18b0z := c18b0
                              (try simp only [hl5_1, hl5_2] at c18b0z)
                              clear c18
                              obtain ⟨ji19, hji19⟩ : ∃ j_ : Int, (wrap64 (x7_2 - (rd l0 x6_1))) = j_ := ⟨_, rfl⟩
                              replace H : (if 0 ≤ (ji19) then (if (ji19) < (x5_2.length : Int) then (spec_l04Of.l1 k2 l0 a1 (x5_2.set (x7_2 : Int).toNat (wrap64 ((rd x5_2 x7_2) + (rd x5_2 (ji19))))) x6_1 (wrap64 (x7_2 + 1))) else (none)) else (none)) = some r := by first | (rw [hji19] at H; exact H) | (simp only [hji19] at H ⊢; exact H)
                              have hji19w : (IntKind.i64.wrap (x7_2 - (rd l0 x6_1))) = ji19 := (i64_w _).trans hji19
                              by_cases c20 : 0 ≤ (ji19)
                              · rw [if_pos c20] at H
                                have c20b0 : decide (0 ≤ (ji19)) = true := decide_eq_true c20
                                clear c20
                                by_cases c21 : (ji19) < (x5_2.length : Int)
                                · rw [if_pos c21] at H
                                  have c21b0 : decide ((ji19) < (x5_2.length : Int)) = true := decide_eq_true c21
                                  have c21b0z := c21b0
                                  (try simp only [hl5_1, hl5_2] at c21b0z)
                                  clear c21
                                  obtain ⟨y210, hy210⟩ : ∃ y_ : List Int, y_ = (x5_2.set (x7_2 : Int).toNat (wrap64 ((rd x5_2 x7_2) + (rd x5_2 (ji19))))) := ⟨_, rfl⟩
                                  replace H : (spec_l04Of.l1 k2 l0 a1 y210 x6_1 (wrap64 (x7_2 + 1))) = some r := by first | (rw [hy210]; with_reducible exact H) | (have H2_ := (Option.bind_some _ _).symm.trans H; rw [hy210]; with_reducible exact H2_) | (have H2_ := (Option.bind_some _ _).symm.trans H; with_reducible exact H2_) | with_reducible exact H | (rw [hy210]; exact H) | exact H
                                  have Ny210 := Aside0.mk hy210
                                  clear hy210
                                  have H' := Aside0.mk H
                                  clear H
                                  try go_wp2
                                  have n0_ := Aside0.mk (Kd.R_drew HO_5.out)
                                  have n1_ := Aside0.mk (below_drew1 HB.out)
                                  clear HO_5
                                  clear HB
                                  have HO_5 := n0_
                                  have HB := n1_
                                  clear n0_ n1_
                                  have p207 : 0 ≤ (x7_2 : Int) := of_decide_eq_true mS
                                  have q207 : x7_2 < (x5_2.length : Int) := of_decide_eq_true mS
                                  obtain ⟨ad207, e207, hx207_0⟩ := Kd.at_int (Kd.R_reads' HO_5.out).2.2 x7_2 p207 q207
                                  obtain rfl : (⟨go7, 0, none⟩ : Addr) = ad207 := (by injection e207)
                                  (first | simp only [add_plain] at hx207_0 | simp only [add_at] at hx207_0 | simp only [Addr.add, Nat.zero_add] at hx207_0 | skip)
                                  replace p207 := eq_true p207
                                  replace q207 := eq_true q207
                                  have p208 : 0 ≤ (x6_1 : Int) := of_decide_eq_true mS
                                  have q208 : x6_1 < (l0.length : Int) := of_decide_eq_true mS
                                  obtain ⟨ad208, e208, hx208_0⟩ := Kd.at_int HR0.out x6_1 p208 q208
                                  have hw208_0 := hx208_0
                                  obtain rfl : ad206 = ad208 := (by injection e208)
                                  replace hx208_0 := cB HB hx208_0
                                  replace p208 := eq_true p208
                                  replace q208 := eq_true q208
                                  have p209 : 0 ≤ ((ji19) : Int) := of_decide_eq_true mS
                                  have q209 : (ji19) < (x5_2.length : Int) := of_decide_eq_true mS
                                  obtain ⟨ad209, e209, hx209_0⟩ := Kd.at_int (Kd.R_reads' HO_5.out).2.2 (ji19) p209 q209
                                  obtain rfl : (⟨go7, 0, none⟩ : Addr) = ad209 := (by injection e209)
                                  (first | simp only [add_plain] at hx209_0 | simp only [add_at] at hx209_0 | simp only [Addr.add, Nat.zero_add] at hx209_0 | skip)
                                  replace p209 := eq_true p209
                                  replace q209 := eq_true q209
                                  have p22 : 0 ≤ (x7_2 : Int) := of_decide_eq_true mS
                                  have q22 : (x7_2 : Int) < ((x5_2.length : Int) : Int) := of_decide_eq_true mS
                                  obtain ⟨hx22_0, hf22_0⟩ := Kd.R_celln 0 HO_5.out (x7_2 : Int) p22 q22
                                  replace p22 := eq_true p22
                                  replace q22 := eq_true q22
                                  have HP24 := Kd.R_putn HO_5.out (x7_2 : Int) (wrap64 ((rd x5_2 x7_2) + (rd x5_2 (ji19))))
                                  rw [← Ny210.out] at HP24
                                  have HQ24 := Aside0.mk HP24
                                  clear HP24
                                  refine start_ (n := 18) (S := fun w' => w'.cell? ⟨go7, (x7_2).toNat, none⟩ = some (.int .i64 (rd x5_2 x7_2)) ∧ w'.cell? (ad206.add (x6_1).toNat) = some (.int .i64 (rd l0 x6_1)) ∧ w'.cell? ⟨go7, ((ji19)).toNat, none⟩ = some (.int .i64 (rd x5_2 (ji19)))) (ds := [17]) #[false, false, false, false, false, false, false, false, false, false, false, false, false, false, false, false, false, false] (by kernel_rfl) rfl rfl ⟨hx207_0, (cD HB hw208_0), hx209_0⟩ (fun hHeld => ?_); refine with_tabW spec_l04Of.tab9 spec_l04Of.bits9 (fun HT_ HW_ => ?_)
                                  generalize wr.drew = w23 at HO_5 HB HQ24 hf22_0 hx207_0 hx208_0 hx209_0 hx22_0 hHeld ⊢
                                  refine pu 0 28 HT_ (h := ?_)
                                  refine pu 1 29 HT_ (h := ?_)
                                  refine pu 2 30 HT_ (h := ?_)
                                  refine pu 3 31 HT_ (h := ?_)
                                  refine pu 4 32 HT_ (h := ?_)
                                  refine pu 6 34 HT_ (h := ?_)
                                  refine pu 7 35 HT_ (h := ?_)
                                  refine pu 8 36 HT_ (h := ?_)
                                  refine pu 9 37 HT_ (h := ?_)
                                  refine pu 10 38 HT_ (h := ?_)
                                  refine ta 5 33 HT_ HW_ hHeld (hy := by rintro w' ⟨s0, s1, s2⟩; go_simp; with_reducible rfl) (h := ?_)
                                  refine ta 11 39 HT_ HW_ hHeld (hy := by rintro w' ⟨s0, s1, s2⟩; go_simp; with_reducible rfl) (h := ?_)
                                  refine pu 12 40 HT_ (h := ?_)
                                  refine pu 13 41 HT_ (h := ?_)
                                  refine ta 14 42 HT_ HW_ hHeld (hy := by rintro w' ⟨s0, s1, s2⟩; go_simp; with_reducible rfl) (h := ?_)
                                  refine pu 15 43 HT_ (h := ?_)
                                  refine pu 16 44 HT_ (h := ?_)
                                  refine last_ (i := 17) (N := none) #[true, true, true, true, true, true, true, true, true, true, true, true, true, true, true, true, true, true] rfl rfl (one_of HT_.out (by kernel_rfl)) (by decide) (fun K hK => ?_)
                                  refine skip_ (w1 := ?_) (by rfl) rfl ?_ ?_
                                  rotate_left
                                  · go_simp
                                    rfl
                                  refine hK.out _ _ ?_
                                  clear hK K
                                  refine done_ (done_of HT_.out (by kernel_rfl)) ?_
                                  try go_wp2
                                  (try simp only [← hl5_2])
                                  go_roundg k2
                                  case measure => have := HK1.out; have := HK2.out; omega
                                  case rel => exact ⟨(y210), (wrap64 (x7_2 + 1)), mF, H', ⟨by have := HK1.out; have := HK2.out; omega⟩, ⟨by (try simp only [hl5_1]); (try simp only [hl5_2]); (with_reducible repeat (first | apply Kd.R_alloc | apply Kd.R_drewN | apply Kd.R_drew)); exact HQ24.out⟩, ⟨by repeat (first | (with_reducible first | exact HB.out | apply below_alloc | apply pw_below_drewN | apply below_drew1 | refine below_set ?_ GB7.out) | exact HB.out)⟩⟩
                                · rw [if_neg c21] at H
                                  exact absurd H (by simp)
                              · rw [if_neg c20] at H
                                exact absurd H (by simp)
                            · rw [if_neg c18] at H
                              exact absurd H (by simp)
                          · rw [if_neg c17] at H
                            exact absurd H (by simp)
                        · rw [if_neg c16] at H
                          exact absurd H (by simp)
                      · rw [if_neg c15] at H
                        exact absurd H (by simp)
                    · rw [if_neg c14] at H
                      have c14b0 : decide (x7_2 ≤ a1) = false := decide_eq_false c14
                      clear c14
                      have H' := Aside0.mk H
                      clear H
                      go_wp2
                      (try simp only [← hl5_1, ← hl5_2])
                      go_roundg k2
                      case measure => have := HK1.out; have := HK2.out; omega
                      case rel => exact ⟨(x5_2), (wrap64 (x6_1 + 1)), mF, H', ⟨by have := HK1.out; have := HK2.out; omega⟩, ⟨by (try simp only [hl5_1]); (try simp only [hl5_2]); (with_reducible repeat (first | apply Kd.R_alloc | apply Kd.R_drewN | apply Kd.R_drew)); exact HO_5.out⟩, ⟨mB⟩⟩
              · rw [if_neg c13] at H
                exact absurd H (by simp)
            · rw [if_neg c12] at H
              have c12b0 : decide (x6_1 < (l0.length : Int)) = false := decide_eq_false c12
              have c12b0z := c12b0
              (try simp only [hl5_1] at c12b0z)
              clear c12
              obtain rfl := Option.some.inj H
              go_wp2
              go_ret
              exact ⟨_, by first | rfl | (simp [errW_none, errW_some] <;> rfl) | (simp only [← hji3]; first | rfl | (simp [errW_none, errW_some] <;> rfl)) | (simp [*, errW_none, errW_some] <;> rfl), mR HO_5.out, mB⟩
      · rw [if_neg c6] at H
        exact absurd H (by simp)
    · rw [if_neg c5] at H
      exact absurd H (by simp)
  · rw [if_neg c4] at H
    exact absurd H (by simp)

end Go.Proofs.Ytpegpdcdcfcgdaa.EFnPermutationSeries
