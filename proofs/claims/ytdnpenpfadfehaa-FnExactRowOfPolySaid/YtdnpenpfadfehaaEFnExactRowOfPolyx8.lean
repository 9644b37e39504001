/- The functions that the law uses, as plain functions, and that the code comes to what they say. -/
import Derived.Test.YtdnpenpfadfehaaEFnExactRowOfPolyx0
import Derived.Test.YtdnpenpfadfehaaEFnExactRowOfPolyx1
import Derived.Test.YtdnpenpfadfehaaEFnExactRowOfPolyx7
namespace Go.Proofs.Ytdnpenpfadfehaa.EFnExactRowOfPoly
open Go.RowKit Go.Proofs.YtdnpenpfadfehaaW.PrintWords Go.Proofs.YtdnpenpfadfehaaW.PrintLast Go.Proofs.YtdnpenpfadfehaaW.PrintMore Go.Proofs.YtdnpenpfadfehaaX
attribute [local go_sem] max2_int min2_int max_two min_two max_three min_three max_four min_four   -- for this text's walks alone
set_option linter.unusedVariables false
set_option linter.unusedSimpArgs false

attribute [local go_sem high] eqA67
/-! ### impl_isDegree: function 51 -/
def impl_isDegree.f (a0 : Int) : Option (Bool) := if a0 ≥ 0 then (some (decide (a0 ≤ 12))) else (some false)
set_option maxHeartbeats 8000000 in
set_option maxRecDepth 100000 in
theorem impl_isDegree.calls (a0 : Int) (r : Bool) (w : World) (h : impl_isDegree.f a0 = some r) :
    Calls Try.prog 51 #[.int .i64 a0] w fun e w' => e = .returned (.bool r) ∧ Drawn0 w w' := by
  have H : (if a0 ≥ 0 then (some (decide (a0 ≤ 12))) else (some false)) = some r := h
  clear h
  by_cases c2 : a0 ≥ 0
  · rw [if_pos c2] at H
    have c2b0 : decide (0 ≤ a0) = true := decide_eq_true c2
    clear c2
    obtain rfl := Option.some.inj H
    go_enter Try.func51, Try.ntmps51
    go_wp2
    go_ret
    exact ⟨mF, by repeat (first | exact Drawn0.refl _ | apply Drawn0.step)⟩
  · rw [if_neg c2] at H
    have c2b0 : decide (0 ≤ a0) = false := decide_eq_false c2
    clear c2
    obtain rfl := Option.some.inj H
    go_enter Try.func51, Try.ntmps51
    go_wp2
    go_ret
    exact ⟨mF, by repeat (first | exact Drawn0.refl _ | apply Drawn0.step)⟩

/-! ### impl_monomials: function 71 -/
mutual
def impl_monomials.l0 : Nat → Int → Int → List (S67) → Int → Option ((List (S67)))
  | 0, _, _, _, _ => none
  | k + 1, x0, x1, x5, x6 => if x6 ≥ 0 then (impl_monomials.l1 k x0 x1 x5 x6 (wrap64 (x1 - x6))) else (some x5)
def impl_monomials.l1 : Nat → Int → Int → List (S67) → Int → Int → Option ((List (S67)))
  | 0, _, _, _, _, _ => none
  | k + 1, x0, x1, x5, x6, x7 => if x7 ≥ 0 then (if x0 < 2 then (if x7 > 0 then (impl_monomials.l1 k x0 x1 x5 x6 (wrap64 (x7 - 1))) else (if x0 < 3 then (if (wrap64 ((wrap64 (x1 - x6)) - x7)) > 0 then (impl_monomials.l1 k x0 x1 x5 x6 (wrap64 (x7 - 1))) else (if x5.length < 46912496118442 then (impl_monomials.l1 k x0 x1 (x5 ++ [(⟨(x6) % 256, (x7) % 256, (wrap64 ((wrap64 (x1 - x6)) - x7)) % 256⟩ : S67)]) x6 (wrap64 (x7 - 1))) else (none))) else (if x5.length < 46912496118442 then (impl_monomials.l1 k x0 x1 (x5 ++ [(⟨(x6) % 256, (x7) % 256, (wrap64 ((wrap64 (x1 - x6)) - x7)) % 256⟩ : S67)]) x6 (wrap64 (x7 - 1))) else (none)))) else (if x0 < 3 then (if (wrap64 ((wrap64 (x1 - x6)) - x7)) > 0 then (impl_monomials.l1 k x0 x1 x5 x6 (wrap64 (x7 - 1))) else (if x5.length < 46912496118442 then (impl_monomials.l1 k x0 x1 (x5 ++ [(⟨(x6) % 256, (x7) % 256, (wrap64 ((wrap64 (x1 - x6)) - x7)) % 256⟩ : S67)]) x6 (wrap64 (x7 - 1))) else (none))) else (if x5.length < 46912496118442 then (impl_monomials.l1 k x0 x1 (x5 ++ [(⟨(x6) % 256, (x7) % 256, (wrap64 ((wrap64 (x1 - x6)) - x7)) % 256⟩ : S67)]) x6 (wrap64 (x7 - 1))) else (none)))) else (impl_monomials.l0 k x0 x1 x5 (wrap64 (x6 - 1)))
end
def impl_monomials.f (k : Nat) (a0 : Int) (a1 : Int) : Option ((List (S67))) := impl_monomials.l0 k a0 a1 (([] : List (S67))) a1
theorem impl_monomials.mono_l : ∀ k, (∀ y0 y1 y2 y3, LeO (impl_monomials.l0 k y0 y1 y2 y3) (impl_monomials.l0 (k + 1) y0 y1 y2 y3)) ∧ (∀ y0 y1 y2 y3 y4, LeO (impl_monomials.l1 k y0 y1 y2 y3 y4) (impl_monomials.l1 (k + 1) y0 y1 y2 y3 y4))
  | 0 => ⟨fun _ _ _ _ r h => by simp [impl_monomials.l0] at h, fun _ _ _ _ _ r h => by simp [impl_monomials.l1] at h⟩
  | k + 1 => by
    obtain ⟨ih0, ih1⟩ := impl_monomials.mono_l k
    refine ⟨?_, ?_⟩
    · intro y0 y1 y2 y3
      unfold impl_monomials.l0
      repeat' first
      | (with_reducible exact ih0 _ _ _ _)
      | (with_reducible exact ih1 _ _ _ _ _)
      | (with_reducible exact LeO.refl _)
      | (with_reducible exact LeO.none _)
      | (with_reducible refine LeO.ite ?_ ?_)
      | (with_reducible refine LeO.bind ?_ (fun _ => ?_))
      | exact ih0 _ _ _ _
      | exact ih1 _ _ _ _ _
      | exact LeO.none _
      | refine LeO.ite ?_ ?_
      | refine LeO.bind ?_ (fun _ => ?_)
    · intro y0 y1 y2 y3 y4
      unfold impl_monomials.l1
      repeat' first
      | (with_reducible exact ih0 _ _ _ _)
      | (with_reducible exact ih1 _ _ _ _ _)
      | (with_reducible exact LeO.refl _)
      | (with_reducible exact LeO.none _)
      | (with_reducible refine LeO.ite ?_ ?_)
      | (with_reducible refine LeO.bind ?_ (fun _ => ?_))
      | exact ih0 _ _ _ _
      | exact ih1 _ _ _ _ _
      | exact LeO.none _
      | refine LeO.ite ?_ ?_
      | refine LeO.bind ?_ (fun _ => ?_)
theorem impl_monomials.mono : ∀ a0 a1 k, LeO (impl_monomials.f k a0 a1) (impl_monomials.f (k + 1) a0 a1) := by
  intro a0 a1 k
  obtain ⟨ih0, ih1⟩ := impl_monomials.mono_l k
  unfold impl_monomials.f
  repeat' first
      | (with_reducible exact ih0 _ _ _ _)
      | (with_reducible exact ih1 _ _ _ _ _)
      | (with_reducible exact LeO.refl _)
      | (with_reducible exact LeO.none _)
      | (with_reducible refine LeO.ite ?_ ?_)
      | (with_reducible refine LeO.bind ?_ (fun _ => ?_))
      | exact ih0 _ _ _ _
      | exact ih1 _ _ _ _ _
      | exact LeO.none _
      | refine LeO.ite ?_ ?_
      | refine LeO.bind ?_ (fun _ => ?_)
set_option maxHeartbeats 8000000 in
set_option maxRecDepth 100000 in
theorem impl_monomials.calls (k : Nat) (a0 : Int) (a1 : Int) (r : List (S67)) (w : World) (h : impl_monomials.f k a0 a1 = some r) :
    Calls Try.prog 71 #[.int .i64 a0, .int .i64 a1] w fun e w' => ∃ v0_ : Value, e = .returned (v0_) ∧ Kd.R k67 67 w' w.heap.size (fun _ => True) v0_ r ∧ Below w.heap.size w w' := by
  have hu67 := Try.underlying67
  have HB := Aside0.mk (Below.refl w.heap.size w)
  have H : (impl_monomials.l0 k a0 a1 (([] : List (S67))) a1) = some r := h
  clear h
  obtain ⟨y192, hy192⟩ : ∃ y_ : List (S67), y_ = (([] : List (S67))) := ⟨_, rfl⟩
  replace H : (impl_monomials.l0 k a0 a1 y192 a1) = some r := by first | (rw [hy192]; with_reducible exact H) | (have H2_ := (Option.bind_some _ _).symm.trans H; rw [hy192]; with_reducible exact H2_) | (have H2_ := (Option.bind_some _ _).symm.trans H; with_reducible exact H2_) | with_reducible exact H | (rw [hy192]; exact H) | exact H
  have Ny192 := Aside0.mk hy192
  clear hy192
  have H' := Aside0.mk H
  clear H
  go_enter Try.func71, Try.ntmps71
  go_wp2_with (first | ((with_reducible refine gate_dst (N := 9) rfl ?_); refine Kd.R_lit k67 _ 67 ?hg (N := 9) ?hd (xs := ([] : List (S67))) (inner := []) (ok := fun _ => True) (okp := fun _ => True) ?hr ?hp (fun _ hk => hk) trivial (Below.refl _ _) (Nat.le_refl _) (by simp) ?_; (case hd => rfl); (case hg => rfl); (case hr => first | (go_simp; done) | (go_simp; rfl)); (case hp => exact (Reps.none _ _)); intro v193 w3 ho4 hb hg_ hnew_; clear hg_ hnew_; (first | rw [← Ny192.out] at ho4 | (simp only [Int.reduceToNat] at ho4; rw [← Ny192.out] at ho4)); have n0_ := Aside0.mk (Kd.R_lower ho4 (below_size mB)); have n1_ := Aside0.mk (below_step mB hb); clear HB; have HO194 := n0_; have HB := n1_; clear n0_ n1_; clear hb ho4))
  go_loopg [5, 6] k (fun kq v5 v6 w' => ∃ (x5_1 : List (S67)) (x6_1 : Int), v6 = .int .i64 x6_1 ∧ Aside0 (impl_monomials.l0 kq a0 a1 x5_1 x6_1 = some r) ∧ Aside0 (kq ≤ k) ∧ Aside0 (Kd.R k67 67 w' w.heap.size (fun _ => True) v5 x5_1) ∧ Aside0 (Below w.heap.size w w'))
  case atStart => exact ⟨(y192), (a1), mF, H', ⟨Nat.le_refl _⟩, ⟨mR HO194.out⟩, ⟨mB⟩⟩
  case round =>
    clear H'
    try clear p2
    obtain ⟨x5_1, x6_1, rfl, HA, HK1, HO_5, HB⟩ := hrel
    cases gk with
    | zero => exact absurd HA.out (by simp [impl_monomials.l0])
    | succ k1 =>
      have H := HA.out
      clear HA
      simp only [impl_monomials.l0] at H
      by_cases c5 : x6_1 ≥ 0
      · rw [if_pos c5] at H
        have c5b0 : decide (0 ≤ x6_1) = true := decide_eq_true c5
        clear c5
        have H' := Aside0.mk H
        clear H
        go_wp2
        go_loopg [5, 7] k1 (fun kq v5 v7 w' => ∃ (x5_2 : List (S67)) (x7_2 : Int), v7 = .int .i64 x7_2 ∧ Aside0 (impl_monomials.l1 kq a0 a1 x5_2 x6_1 x7_2 = some r) ∧ Aside0 (kq ≤ k1) ∧ Aside0 (Kd.R k67 67 w' w.heap.size (fun _ => True) v5 x5_2) ∧ Aside0 (Below w.heap.size w w'))
        case atStart => exact ⟨(x5_1), (wrap64 (a1 - x6_1)), mF, H', ⟨Nat.le_refl _⟩, ⟨mR HO_5.out⟩, ⟨mB⟩⟩
        case round =>
          clear H'
          try clear p2
          try clear c5
          try clear c5b0
          try clear p2
          obtain ⟨x5_2, x7_2, rfl, HA, HK2, HO_5, HB⟩ := hrel
          cases gk with
          | zero => exact absurd HA.out (by simp [impl_monomials.l1])
          | succ k2 =>
            have H := HA.out
            clear HA
            simp only [impl_monomials.l1] at H
            by_cases c6 : x7_2 ≥ 0
            · rw [if_pos c6] at H
              have c6b0 : decide (0 ≤ x7_2) = true := decide_eq_true c6
              clear c6
              by_cases c7 : a0 < 2
              · rw [if_pos c7] at H
                have c7b0 : decide (a0 < 2) = true := decide_eq_true c7
                clear c7
                by_cases c8 : x7_2 > 0
                · rw [if_pos c8] at H
                  have c8b0 : decide (0 < x7_2) = true := decide_eq_true c8
                  clear c8
                  have H' := Aside0.mk H
                  clear H
                  go_wp2
                  go_roundg k2
                  case measure => have := HK1.out; have := HK2.out; omega
                  case rel => exact ⟨(x5_2), (wrap64 (x7_2 - 1)), mF, H', ⟨by have := HK1.out; have := HK2.out; omega⟩, ⟨mR HO_5.out⟩, ⟨mB⟩⟩
                · rw [if_neg c8] at H
                  have c8b0 : decide (0 < x7_2) = false := decide_eq_false c8
                  clear c8
                  by_cases c9 : a0 < 3
                  · rw [if_pos c9] at H
                    have c9b0 : decide (a0 < 3) = true := decide_eq_true c9
                    clear c9
                    by_cases c10 : (wrap64 ((wrap64 (a1 - x6_1)) - x7_2)) > 0
                    · rw [if_pos c10] at H
                      have c10b0 : decide (0 < (wrap64 ((wrap64 (a1 - x6_1)) - x7_2))) = true := decide_eq_true c10
                      clear c10
                      have H' := Aside0.mk H
                      clear H
                      go_wp2
                      go_roundg k2
                      case measure => have := HK1.out; have := HK2.out; omega
                      case rel => exact ⟨(x5_2), (wrap64 (x7_2 - 1)), mF, H', ⟨by have := HK1.out; have := HK2.out; omega⟩, ⟨mR HO_5.out⟩, ⟨mB⟩⟩
                    · rw [if_neg c10] at H
                      have c10b0 : decide (0 < (wrap64 ((wrap64 (a1 - x6_1)) - x7_2))) = false := decide_eq_false c10
                      clear c10
                      by_cases c11 : x5_2.length < 46912496118442
                      · rw [if_pos c11] at H
                        have LMc11 := Aside0.mk c11
                        clear c11
                        obtain ⟨y195, hy195⟩ : ∃ y_ : List (S67), y_ = (x5_2 ++ [(⟨(x6_1) % 256, (x7_2) % 256, (wrap64 ((wrap64 (a1 - x6_1)) - x7_2)) % 256⟩ : S67)]) := ⟨_, rfl⟩
                        replace H : (impl_monomials.l1 k2 a0 a1 y195 x6_1 (wrap64 (x7_2 - 1))) = some r := by first | (rw [hy195]; with_reducible exact H) | (have H2_ := (Option.bind_some _ _).symm.trans H; rw [hy195]; with_reducible exact H2_) | (have H2_ := (Option.bind_some _ _).symm.trans H; with_reducible exact H2_) | with_reducible exact H | (rw [hy195]; exact H) | exact H
                        have Ny195 := Aside0.mk hy195
                        clear hy195
                        have H' := Aside0.mk H
                        clear H
                        go_wp2_with (first | ((with_reducible refine gate_builtin (b := .append) (xs := #[.tmp 41, .tmp 49]) rfl ?_); at_builtin; refine Kd.R_append k67 (w0 := w) w.heap.size rfl (.tmp 41) (.tmp 49) 72 67 (.agg #[(.int .u8 0), (.int .u8 0), (.int .u8 0)]) 3 rfl Try.underlying72 info67 rfl (by decide) (by omega) u5 x5_2 (⟨(x6_1) % 256, (x7_2) % 256, (wrap64 ((wrap64 (a1 - x6_1)) - x7_2)) % 256⟩ : S67) [.int .u8 ((x6_1) % 256), .int .u8 ((x7_2) % 256), .int .u8 ((wrap64 ((wrap64 (a1 - x6_1)) - x7_2)) % 256)] (fun _ => True) (fun _ => False) rfl rfl ?aP (fun _ hk => hk.elim) ?aF ?aO ?aB ?aS ?aL ?_; (case aP => exact k67_mkM _ _ _ (⟨(x6_1) % 256, (x7_2) % 256, (wrap64 ((wrap64 (a1 - x6_1)) - x7_2)) % 256⟩ : S67)); (case aB => exact mB); (case aF => exact (fun _ _ => trivial)); (case aO => exact (mR HO_5.out)); (case aS => exact (below_size mB)); (case aL => have := LMc11.out; omega); intro v196 w12 ho hb hg hat; rw [← Ny195.out] at ho; have n0_ := Aside0.mk (hb); have n1_ := Aside0.mk (ho); clear HB; clear HO_5; have HB := n0_; have HO197 := n1_; clear n0_ n1_; clear ho hb hg hat))
                        go_roundg k2
                        case measure => have := HK1.out; have := HK2.out; omega
                        case rel => exact ⟨(y195), (wrap64 (x7_2 - 1)), mF, H', ⟨by have := HK1.out; have := HK2.out; omega⟩, ⟨mR HO197.out⟩, ⟨mB⟩⟩
                      · rw [if_neg c11] at H
                        exact absurd H (by simp)
                  · rw [if_neg c9] at H
                    have c9b0 : decide (a0 < 3) = false := decide_eq_false c9
                    clear c9
                    by_cases c13 : x5_2.length < 46912496118442
                    · rw [if_pos c13] at H
                      have LMc13 := Aside0.mk c13
                      clear c13
                      obtain ⟨y198, hy198⟩ : ∃ y_ : List (S67), y_ = (x5_2 ++ [(⟨(x6_1) % 256, (x7_2) % 256, (wrap64 ((wrap64 (a1 - x6_1)) - x7_2)) % 256⟩ : S67)]) := ⟨_, rfl⟩
                      replace H : (impl_monomials.l1 k2 a0 a1 y198 x6_1 (wrap64 (x7_2 - 1))) = some r := by first | (rw [hy198]; with_reducible exact H) | (have H2_ := (Option.bind_some _ _).symm.trans H; rw [hy198]; with_reducible exact H2_) | (have H2_ := (Option.bind_some _ _).symm.trans H; with_reducible exact H2_) | with_reducible exact H | (rw [hy198]; exact H) | exact H
                      have Ny198 := Aside0.mk hy198
                      clear hy198
                      have H' := Aside0.mk H
                      clear H
                      go_wp2_with (first | ((with_reducible refine gate_builtin (b := .append) (xs := #[.tmp 41, .tmp 49]) rfl ?_); at_builtin; refine Kd.R_append k67 (w0 := w) w.heap.size rfl (.tmp 41) (.tmp 49) 72 67 (.agg #[(.int .u8 0), (.int .u8 0), (.int .u8 0)]) 3 rfl Try.underlying72 info67 rfl (by decide) (by omega) u5 x5_2 (⟨(x6_1) % 256, (x7_2) % 256, (wrap64 ((wrap64 (a1 - x6_1)) - x7_2)) % 256⟩ : S67) [.int .u8 ((x6_1) % 256), .int .u8 ((x7_2) % 256), .int .u8 ((wrap64 ((wrap64 (a1 - x6_1)) - x7_2)) % 256)] (fun _ => True) (fun _ => False) rfl rfl ?aP (fun _ hk => hk.elim) ?aF ?aO ?aB ?aS ?aL ?_; (case aP => exact k67_mkM _ _ _ (⟨(x6_1) % 256, (x7_2) % 256, (wrap64 ((wrap64 (a1 - x6_1)) - x7_2)) % 256⟩ : S67)); (case aB => exact mB); (case aF => exact (fun _ _ => trivial)); (case aO => exact (mR HO_5.out)); (case aS => exact (below_size mB)); (case aL => have := LMc13.out; omega); intro v199 w14 ho hb hg hat; rw [← Ny198.out] at ho; have n0_ := Aside0.mk (hb); have n1_ := Aside0.mk (ho); clear HB; clear HO_5; have HB := n0_; have HO200 := n1_; clear n0_ n1_; clear ho hb hg hat))
                      go_roundg k2
                      case measure => have := HK1.out; have := HK2.out; omega
                      case rel => exact ⟨(y198), (wrap64 (x7_2 - 1)), mF, H', ⟨by have := HK1.out; have := HK2.out; omega⟩, ⟨mR HO200.out⟩, ⟨mB⟩⟩
                    · rw [if_neg c13] at H
                      exact absurd H (by simp)
              · rw [if_neg c7] at H
                have c7b0 : decide (a0 < 2) = false := decide_eq_false c7
                clear c7
                by_cases c15 : a0 < 3
                · rw [if_pos c15] at H
                  have c15b0 : decide (a0 < 3) = true := decide_eq_true c15
                  clear c15
                  by_cases c16 : (wrap64 ((wrap64 (a1 - x6_1)) - x7_2)) > 0
                  · rw [if_pos c16] at H
                    have c16b0 : decide (0 < (wrap64 ((wrap64 (a1 - x6_1)) - x7_2))) = true := decide_eq_true c16
                    clear c16
                    have H' := Aside0.mk H
                    clear H
                    go_wp2
                    go_roundg k2
                    case measure => have := HK1.out; have := HK2.out; omega
                    case rel => exact ⟨(x5_2), (wrap64 (x7_2 - 1)), mF, H', ⟨by have := HK1.out; have := HK2.out; omega⟩, ⟨mR HO_5.out⟩, ⟨mB⟩⟩
                  · rw [if_neg c16] at H
                    have c16b0 : decide (0 < (wrap64 ((wrap64 (a1 - x6_1)) - x7_2))) = false := decide_eq_false c16
                    clear c16
                    by_cases c17 : x5_2.length < 46912496118442
                    · rw [if_pos c17] at H
                      have LMc17 := Aside0.mk c17
                      clear c17
                      obtain ⟨y201, hy201⟩ : ∃ y_ : List (S67), y_ = (x5_2 ++ [(⟨(x6_1) % 256, (x7_2) % 256, (wrap64 ((wrap64 (a1 - x6_1)) - x7_2)) % 256⟩ : S67)]) := ⟨_, rfl⟩
                      replace H : (impl_monomials.l1 k2 a0 a1 y201 x6_1 (wrap64 (x7_2 - 1))) = some r := by first | (rw [hy201]; with_reducible exact H) | (have H2_ := (Option.bind_some _ _).symm.trans H; rw [hy201]; with_reducible exact H2_) | (have H2_ := (Option.bind_some _ _).symm.trans H; with_reducible exact H2_) | with_reducible exact H | (rw [hy201]; exact H) | exact H
                      have Ny201 := Aside0.mk hy201
                      clear hy201
                      have H' := Aside0.mk H
                      clear H
                      go_wp2_with (first | ((with_reducible refine gate_builtin (b := .append) (xs := #[.tmp 41, .tmp 49]) rfl ?_); at_builtin; refine Kd.R_append k67 (w0 := w) w.heap.size rfl (.tmp 41) (.tmp 49) 72 67 (.agg #[(.int .u8 0), (.int .u8 0), (.int .u8 0)]) 3 rfl Try.underlying72 info67 rfl (by decide) (by omega) u5 x5_2 (⟨(x6_1) % 256, (x7_2) % 256, (wrap64 ((wrap64 (a1 - x6_1)) - x7_2)) % 256⟩ : S67) [.int .u8 ((x6_1) % 256), .int .u8 ((x7_2) % 256), .int .u8 ((wrap64 ((wrap64 (a1 - x6_1)) - x7_2)) % 256)] (fun _ => True) (fun _ => False) rfl rfl ?aP (fun _ hk => hk.elim) ?aF ?aO ?aB ?aS ?aL ?_; (case aP => exact k67_mkM _ _ _ (⟨(x6_1) % 256, (x7_2) % 256, (wrap64 ((wrap64 (a1 - x6_1)) - x7_2)) % 256⟩ : S67)); (case aB => exact mB); (case aF => exact (fun _ _ => trivial)); (case aO => exact (mR HO_5.out)); (case aS => exact (below_size mB)); (case aL => have := LMc17.out; omega); intro v202 w18 ho hb hg hat; rw [← Ny201.out] at ho; have n0_ := Aside0.mk (hb); have n1_ := Aside0.mk (ho); clear HB; clear HO_5; have HB := n0_; have HO203 := n1_; clear n0_ n1_; clear ho hb hg hat))
                      go_roundg k2
                      case measure => have := HK1.out; have := HK2.out; omega
                      case rel => exact ⟨(y201), (wrap64 (x7_2 - 1)), mF, H', ⟨by have := HK1.out; have := HK2.out; omega⟩, ⟨mR HO203.out⟩, ⟨mB⟩⟩
                    · rw [if_neg c17] at H
                      exact absurd H (by simp)
                · rw [if_neg c15] at H
                  have c15b0 : decide (a0 < 3) = false := decide_eq_false c15
                  clear c15
                  by_cases c19 : x5_2.length < 46912496118442
                  · rw [if_pos c19] at H
                    have LMc19 := Aside0.mk c19
                    clear c19
                    obtain ⟨y204, hy204⟩ : ∃ y_ : List (S67), y_ = (x5_2 ++ [(⟨(x6_1) % 256, (x7_2) % 256, (wrap64 ((wrap64 (a1 - x6_1)) - x7_2)) % 256⟩ : S67)]) := ⟨_, rfl⟩
                    replace H : (impl_monomials.l1 k2 a0 a1 y204 x6_1 (wrap64 (x7_2 - 1))) = some r := by first | (rw [hy204]; with_reducible exact H) | (have H2_ := (Option.bind_some _ _).symm.trans H; rw [hy204]; with_reducible exact H2_) | (have H2_ := (Option.bind_some _ _).symm.trans H; with_reducible exact H2_) | with_reducible exact H | (rw [hy204]; exact H) | exact H
                    have Ny204 := Aside0.mk hy204
                    clear hy204
                    have H' := Aside0.mk H
                    clear H
                    go_wp2_with (first | ((with_reducible refine gate_builtin (b := .append) (xs := #[.tmp 41, .tmp 49]) rfl ?_); at_builtin; refine Kd.R_append k67 (w0 := w) w.heap.size rfl (.tmp 41) (.tmp 49) 72 67 (.agg #[(.int .u8 0), (.int .u8 0), (.int .u8 0)]) 3 rfl Try.underlying72 info67 rfl (by decide) (by omega) u5 x5_2 (⟨(x6_1) % 256, (x7_2) % 256, (wrap64 ((wrap64 (a1 - x6_1)) - x7_2)) % 256⟩ : S67) [.int .u8 ((x6_1) % 256), .int .u8 ((x7_2) % 256), .int .u8 ((wrap64 ((wrap64 (a1 - x6_1)) - x7_2)) % 256)] (fun _ => True) (fun _ => False) rfl rfl ?aP (fun _ hk => hk.elim) ?aF ?aO ?aB ?aS ?aL ?_; (case aP => exact k67_mkM _ _ _ (⟨(x6_1) % 256, (x7_2) % 256, (wrap64 ((wrap64 (a1 - x6_1)) - x7_2)) % 256⟩ : S67)); (case aB => exact mB); (case aF => exact (fun _ _ => trivial)); (case aO => exact (mR HO_5.out)); (case aS => exact (below_size mB)); (case aL => have := LMc19.out; omega); intro v205 w20 ho hb hg hat; rw [← Ny204.out] at ho; have n0_ := Aside0.mk (hb); have n1_ := Aside0.mk (ho); clear HB; clear HO_5; have HB := n0_; have HO206 := n1_; clear n0_ n1_; clear ho hb hg hat))
                    go_roundg k2
                    case measure => have := HK1.out; have := HK2.out; omega
                    case rel => exact ⟨(y204), (wrap64 (x7_2 - 1)), mF, H', ⟨by have := HK1.out; have := HK2.out; omega⟩, ⟨mR HO206.out⟩, ⟨mB⟩⟩
                  · rw [if_neg c19] at H
                    exact absurd H (by simp)
            · rw [if_neg c6] at H
              have c6b0 : decide (0 ≤ x7_2) = false := decide_eq_false c6
              clear c6
              have H' := Aside0.mk H
              clear H
              go_wp2
              go_roundg k2
              case measure => have := HK1.out; have := HK2.out; omega
              case rel => exact ⟨(x5_2), (wrap64 (x6_1 - 1)), mF, H', ⟨by have := HK1.out; have := HK2.out; omega⟩, ⟨mR HO_5.out⟩, ⟨mB⟩⟩
      · rw [if_neg c5] at H
        have c5b0 : decide (0 ≤ x6_1) = false := decide_eq_false c5
        clear c5
        obtain rfl := Option.some.inj H
        go_wp2
        go_ret
        exact ⟨_, mE, mR HO_5.out, mB⟩

/-! ### impl_coefficient: function 72 -/
def impl_coefficient.l0 : Nat → List (S69) → Int → Int → Int → Int → Int → Option (Int)
  | 0, _, _, _, _, _, _ => none
  | k + 1, x8, x9, x10, x209000, x209001, x209002 => if x10 < x9 then (if 0 ≤ x10 then (if x10 < (x8.length : Int) then (if (((rd_T69 x8 x10).f0.f0) == x209000 && (((rd_T69 x8 x10).f0.f1) == x209001 && (((rd_T69 x8 x10).f0.f2) == x209002))) = true then (some ((rd_T69 x8 x10).f1)) else (impl_coefficient.l0 k x8 x9 (wrap64 (x10 + 1)) x209000 x209001 x209002)) else (none)) else (none)) else (some 0)
def impl_coefficient.f (k : Nat) (a0_0 : Int) (a0_1 : Int) (l0_2 : List (S69)) (a1_0 : Int) (a1_1 : Int) (a1_2 : Int) : Option (Int) := impl_coefficient.l0 k l0_2 (l0_2.length : Int) 0 a1_0 a1_1 a1_2
theorem impl_coefficient.mono_l : ∀ k, (∀ y0 y1 y2 y3 y4 y5, LeO (impl_coefficient.l0 k y0 y1 y2 y3 y4 y5) (impl_coefficient.l0 (k + 1) y0 y1 y2 y3 y4 y5))
  | 0 => fun _ _ _ _ _ _ r h => by simp [impl_coefficient.l0] at h
  | k + 1 => by
    have ih0 := impl_coefficient.mono_l k
    · intro y0 y1 y2 y3 y4 y5
      unfold impl_coefficient.l0
      repeat' first
      | (with_reducible exact ih0 _ _ _ _ _ _)
      | (with_reducible exact LeO.refl _)
      | (with_reducible exact LeO.none _)
      | (with_reducible refine LeO.ite ?_ ?_)
      | (with_reducible refine LeO.bind ?_ (fun _ => ?_))
      | exact ih0 _ _ _ _ _ _
      | exact LeO.none _
      | refine LeO.ite ?_ ?_
      | refine LeO.bind ?_ (fun _ => ?_)
theorem impl_coefficient.mono : ∀ a0 a1 a2 a3 a4 a5 k, LeO (impl_coefficient.f k a0 a1 a2 a3 a4 a5) (impl_coefficient.f (k + 1) a0 a1 a2 a3 a4 a5) := by
  intro a0 a1 a2 a3 a4 a5 k
  have ih0 := impl_coefficient.mono_l k
  unfold impl_coefficient.f
  repeat' first
      | (with_reducible exact ih0 _ _ _ _ _ _)
      | (with_reducible exact LeO.refl _)
      | (with_reducible exact LeO.none _)
      | (with_reducible refine LeO.ite ?_ ?_)
      | (with_reducible refine LeO.bind ?_ (fun _ => ?_))
      | exact ih0 _ _ _ _ _ _
      | exact LeO.none _
      | refine LeO.ite ?_ ?_
      | refine LeO.bind ?_ (fun _ => ?_)
set_option maxHeartbeats 8000000 in
set_option maxRecDepth 100000 in
theorem impl_coefficient.calls (k : Nat) (a0_0 : Int) (a0_1 : Int) (A0_2 : Option Addr) (c0_2 : Nat) (l0_2 : List (S69)) (a1_0 : Int) (a1_1 : Int) (a1_2 : Int) (r : Int) (w : World) (hr0_2 : Kd.C k69 w A0_2 l0_2.length l0_2) (hc0_2 : l0_2.length ≤ c0_2) (h : impl_coefficient.f k a0_0 a0_1 l0_2 a1_0 a1_1 a1_2 = some r) :
    Calls Try.prog 72 #[.agg #[.int .i64 a0_0, .int .i64 a0_1, .slice A0_2 l0_2.length c0_2], .agg #[.int .u8 a1_0, .int .u8 a1_1, .int .u8 a1_2]] w fun e w' => e = .returned (.int .i64 r) ∧ Below w.heap.size w w' := by
  have hu43 := Try.underlying43
  have hu67 := Try.underlying67
  have hu69 := Try.underlying69
  have HR0_2 := Aside0.mk hr0_2
  have HC0_2 := Aside0.mk hc0_2
  clear hr0_2 hc0_2
  have HB := Aside0.mk (Below.refl w.heap.size w)
  have H : (impl_coefficient.l0 k l0_2 (l0_2.length : Int) 0 a1_0 a1_1 a1_2) = some r := h
  clear h
  have H' := Aside0.mk H
  clear H
  go_enter Try.func72, Try.ntmps72
  go_wp2_with (first | ((with_reducible refine gate_dst (N := 2) rfl ?_); refine box_event ?hg (N := 2) ?hd (cs := #[.int .i64 a0_0, .int .i64 a0_1, .slice A0_2 l0_2.length c0_2]) (t := 43) ?hr ?_; (case hd => rfl); (case hg => rfl); (case hr => first | (go_simp; done) | (go_simp; rfl)); intro gb207 hg w3 hbox hb; have n0_ := Aside0.mk (below_step mB hb); have n1_ := Aside0.mk (hbox); have n2_ := Aside0.mk ((mG : w.heap.size ≤ gb207)); have n3_ := Aside0.mk ((mG : w.heap.size ≤ gb207)); clear HB; have HB := n0_; have BK207 := n1_; have GW207 := n2_; have GE207 := n3_; clear n0_ n1_ n2_ n3_; clear hb hbox hg) | ((with_reducible refine gate_dst (N := 3) rfl ?_); refine box_event ?hg (N := 3) ?hd (cs := #[.int .u8 a1_0, .int .u8 a1_1, .int .u8 a1_2]) (t := 67) ?hr ?_; (case hd => rfl); (case hg => rfl); (case hr => first | (go_simp; done) | (go_simp; rfl)); intro gb208 hg w4 hbox hb; have n0_ := Aside0.mk (blk_below (g := gb207) (o := .cells #[.int .i64 a0_0, .int .i64 a0_1, .slice A0_2 l0_2.length c0_2] 43 (0, 0)) (mk BK207.out) hb); have n1_ := Aside0.mk (below_step mB hb); have n2_ := Aside0.mk (hbox); have n3_ := Aside0.mk ((mG : w.heap.size ≤ gb208)); have n4_ := Aside0.mk ((mG : w.heap.size ≤ gb208)); have n5_ := Aside0.mk ((by rw [hg]; exact Nat.ne_of_lt (blk_lt (g := gb207) (o := .cells #[.int .i64 a0_0, .int .i64 a0_1, .slice A0_2 l0_2.length c0_2] 43 (0, 0)) (mk BK207.out)) : gb207 ≠ gb208)); have n6_ := Aside0.mk ((by rw [hg]; exact Nat.ne_of_gt (blk_lt (g := gb207) (o := .cells #[.int .i64 a0_0, .int .i64 a0_1, .slice A0_2 l0_2.length c0_2] 43 (0, 0)) (mk BK207.out)) : gb208 ≠ gb207)); clear BK207; clear HB; have BK207 := n0_; have HB := n1_; have BK208 := n2_; have GW208 := n3_; have GE208 := n4_; have NB207_208 := n5_; have NB208_207 := n6_; clear n0_ n1_ n2_ n3_ n4_ n5_ n6_; clear hb hbox hg; have hnb5 := NB207_208.out; have hnc5 := NB208_207.out; have hcz6_0 : w4.cell? ⟨gb207, 0, none⟩ = some (.int .i64 a0_0) := (blk_cell BK207.out 0).trans rfl; have hcz6_1 : w4.cell? ⟨gb207, 1, none⟩ = some (.int .i64 a0_1) := (blk_cell BK207.out 1).trans rfl; have hcz6_2 : w4.cell? ⟨gb207, 2, none⟩ = some (.slice A0_2 l0_2.length c0_2) := (blk_cell BK207.out 2).trans rfl; have hfz6_0 := blk_frozen BK207.out 0; have hfz6_1 := blk_frozen BK207.out 1; have hfz6_2 := blk_frozen BK207.out 2))
  go_loopg [10] k (fun kq v10 w' => ∃ (x10_1 : Int), v10 = .int .i64 x10_1 ∧ Aside0 (impl_coefficient.l0 kq l0_2 (l0_2.length : Int) x10_1 a1_0 a1_1 a1_2 = some r) ∧ Aside0 (kq ≤ k) ∧ Aside0 (w'.heap[gb207]? = some (.cells #[.int .i64 a0_0, .int .i64 a0_1, (.slice A0_2 l0_2.length c0_2)] 43 (0, 0))) ∧ Aside0 (w'.heap[gb208]? = some (.cells #[.int .u8 a1_0, .int .u8 a1_1, .int .u8 a1_2] 67 (0, 0))) ∧ Aside0 (Below w.heap.size w w'))
  case atStart => exact ⟨(0), mF, H', ⟨Nat.le_refl _⟩, ⟨by (with_reducible repeat (first | refine blk_drewN ?_ _ | refine blk_drew ?_ | refine blk_alloc ?_ _)); exact BK207.out⟩, ⟨by (with_reducible repeat (first | refine blk_drewN ?_ _ | refine blk_drew ?_ | refine blk_alloc ?_ _)); exact BK208.out⟩, ⟨mB⟩⟩
  case round =>
    clear H'
    try clear p2
    try clear c5
    try clear hcz6_0
    try clear hcz6_1
    try clear hcz6_2
    try clear hfz6_0
    try clear hfz6_1
    try clear hfz6_2
    obtain ⟨x10_1, rfl, HA, HK1, BK207, BK208, HB⟩ := hrel
    cases gk with
    | zero => exact absurd HA.out (by simp [impl_coefficient.l0])
    | succ k1 =>
      have H := HA.out
      clear HA
      simp only [impl_coefficient.l0] at H
      by_cases c7 : x10_1 < (l0_2.length : Int)
      · rw [if_pos c7] at H
        have c7b0 : decide (x10_1 < (l0_2.length : Int)) = true := decide_eq_true c7
        clear c7
        by_cases c8 : 0 ≤ x10_1
        · rw [if_pos c8] at H
          have c8b0 : decide (0 ≤ x10_1) = true := decide_eq_true c8
          clear c8
          by_cases c9 : x10_1 < (l0_2.length : Int)
          · rw [if_pos c9] at H
            have c9b0 : decide (x10_1 < (l0_2.length : Int)) = true := decide_eq_true c9
            clear c9
            by_cases c10 : (((rd_T69 l0_2 x10_1).f0.f0) == a1_0 && (((rd_T69 l0_2 x10_1).f0.f1) == a1_1 && (((rd_T69 l0_2 x10_1).f0.f2) == a1_2))) = true
            · rw [if_pos c10] at H
              have c10b0 : (((rd_T69 l0_2 x10_1).f0.f0) == a1_0 && (((rd_T69 l0_2 x10_1).f0.f1) == a1_1 && (((rd_T69 l0_2 x10_1).f0.f2) == a1_2))) = true := c10
              (try (have c10b1 : decide (((rd_T69 l0_2 x10_1).f0.f0) = a1_0 && (((rd_T69 l0_2 x10_1).f0.f1) == a1_1 && (((rd_T69 l0_2 x10_1).f0.f2) == a1_2))) = true := by simpa using c10))
              (try (have c10b2 : (((rd_T69 l0_2 x10_1).f0.f0) == a1_0 && (((rd_T69 l0_2 x10_1).f0.f1) == a1_1 && (((rd_T69 l0_2 x10_1).f0.f2) == a1_2))) = true := by simpa using c10))
              clear c10
              obtain rfl := Option.some.inj H
              have p209 : 0 ≤ (x10_1 : Int) := of_decide_eq_true mS
              have q209 : x10_1 < (l0_2.length : Int) := of_decide_eq_true mS
              obtain ⟨ad209, e209, hx209_0, hx209_1, hx209_2, hx209_3⟩ := at_T69 HR0_2.out x10_1 p209 q209
              cases e209
              replace hx209_0 := (HB.out.cell (World.block_lt_of_cell? w _ hx209_0)).trans hx209_0
              replace hx209_1 := (HB.out.cell (World.block_lt_of_cell? w _ hx209_1)).trans hx209_1
              replace hx209_2 := (HB.out.cell (World.block_lt_of_cell? w _ hx209_2)).trans hx209_2
              replace hx209_3 := (HB.out.cell (World.block_lt_of_cell? w _ hx209_3)).trans hx209_3
              replace p209 := eq_true p209
              replace q209 := eq_true q209
              go_wp2_with (first | ((with_reducible refine gate_dst (N := 6) rfl ?_); refine box_event ?hg (N := 6) ?hd (cs := #[.int .u8 0, .int .u8 0, .int .u8 0, .int .i64 0]) (t := 69) ?hr ?_; (case hd => rfl); (case hg => rfl); (case hr => first | (go_simp; done) | (go_simp; rfl)); intro gb210 hg w11 hbox hb; have n0_ := Aside0.mk (blk_below (g := gb207) (o := .cells #[.int .i64 a0_0, .int .i64 a0_1, .slice (some ad209) l0_2.length c0_2] 43 (0, 0)) (mk BK207.out) hb); have n1_ := Aside0.mk (blk_below (g := gb208) (o := .cells #[.int .u8 a1_0, .int .u8 a1_1, .int .u8 a1_2] 67 (0, 0)) (mk BK208.out) hb); have n2_ := Aside0.mk (below_step mB hb); have n3_ := Aside0.mk (hbox); have n4_ := Aside0.mk ((mG : w.heap.size ≤ gb210)); have n5_ := Aside0.mk ((mG : w.heap.size ≤ gb210)); have n6_ := Aside0.mk ((by rw [hg]; exact Nat.ne_of_lt (blk_lt (g := gb207) (o := .cells #[.int .i64 a0_0, .int .i64 a0_1, .slice (some ad209) l0_2.length c0_2] 43 (0, 0)) (mk BK207.out)) : gb207 ≠ gb210)); have n7_ := Aside0.mk ((by rw [hg]; exact Nat.ne_of_gt (blk_lt (g := gb207) (o := .cells #[.int .i64 a0_0, .int .i64 a0_1, .slice (some ad209) l0_2.length c0_2] 43 (0, 0)) (mk BK207.out)) : gb210 ≠ gb207)); have n8_ := Aside0.mk ((by rw [hg]; exact Nat.ne_of_lt (blk_lt (g := gb208) (o := .cells #[.int .u8 a1_0, .int .u8 a1_1, .int .u8 a1_2] 67 (0, 0)) (mk BK208.out)) : gb208 ≠ gb210)); have n9_ := Aside0.mk ((by rw [hg]; exact Nat.ne_of_gt (blk_lt (g := gb208) (o := .cells #[.int .u8 a1_0, .int .u8 a1_1, .int .u8 a1_2] 67 (0, 0)) (mk BK208.out)) : gb210 ≠ gb208)); clear BK207; clear BK208; clear HB; have BK207 := n0_; have BK208 := n1_; have HB := n2_; have BK210 := n3_; have GW210 := n4_; have GE210 := n5_; have NB207_210 := n6_; have NB210_207 := n7_; have NB208_210 := n8_; have NB210_208 := n9_; clear n0_ n1_ n2_ n3_ n4_ n5_ n6_ n7_ n8_ n9_; clear hb hbox hg; have hnb12 := NB210_207.out; have hnc12 := NB207_210.out; have hnb13 := NB210_208.out; have hnc13 := NB208_210.out; have hcz14_0 : w11.cell? ⟨gb210, 0, none⟩ = some (.int .u8 0) := (blk_cell BK210.out 0).trans rfl; have hcz14_1 : w11.cell? ⟨gb210, 1, none⟩ = some (.int .u8 0) := (blk_cell BK210.out 1).trans rfl; have hcz14_2 : w11.cell? ⟨gb210, 2, none⟩ = some (.int .u8 0) := (blk_cell BK210.out 2).trans rfl; have hcz14_3 : w11.cell? ⟨gb210, 3, none⟩ = some (.int .i64 0) := (blk_cell BK210.out 3).trans rfl; have hfz14_0 := blk_frozen BK210.out 0; have hfz14_1 := blk_frozen BK210.out 1; have hfz14_2 := blk_frozen BK210.out 2; have hfz14_3 := blk_frozen BK210.out 3; have hnb15 := NB208_207.out; have hnc15 := NB207_208.out; have hcz16_0 : w11.cell? ⟨gb208, 0, none⟩ = some (.int .u8 a1_0) := (blk_cell BK208.out 0).trans rfl; have hcz16_1 : w11.cell? ⟨gb208, 1, none⟩ = some (.int .u8 a1_1) := (blk_cell BK208.out 1).trans rfl; have hcz16_2 : w11.cell? ⟨gb208, 2, none⟩ = some (.int .u8 a1_2) := (blk_cell BK208.out 2).trans rfl; have hfz16_0 := blk_frozen BK208.out 0; have hfz16_1 := blk_frozen BK208.out 1; have hfz16_2 := blk_frozen BK208.out 2))
              go_ret
              exact ⟨mE, mB⟩
            · rw [if_neg c10] at H
              have c10b0 : (((rd_T69 l0_2 x10_1).f0.f0) == a1_0 && (((rd_T69 l0_2 x10_1).f0.f1) == a1_1 && (((rd_T69 l0_2 x10_1).f0.f2) == a1_2))) = false := by simpa using c10
              (try (have c10b1 : decide (((rd_T69 l0_2 x10_1).f0.f0) = a1_0 && (((rd_T69 l0_2 x10_1).f0.f1) == a1_1 && (((rd_T69 l0_2 x10_1).f0.f2) == a1_2))) = false := by simpa using c10))
              (try (have c10b2 : (((rd_T69 l0_2 x10_1).f0.f0) == a1_0 && (((rd_T69 l0_2 x10_1).f0.f1) == a1_1 && (((rd_T69 l0_2 x10_1).f0.f2) == a1_2))) = false := by simpa using c10))
              (try (have c10b3 : ¬ (((rd_T69 l0_2 x10_1).f0.f0) = a1_0 && (((rd_T69 l0_2 x10_1).f0.f1) == a1_1 && (((rd_T69 l0_2 x10_1).f0.f2) == a1_2))) := by simpa using c10))
              clear c10
              have H' := Aside0.mk H
              clear H
              have p209 : 0 ≤ (x10_1 : Int) := of_decide_eq_true mS
              have q209 : x10_1 < (l0_2.length : Int) := of_decide_eq_true mS
              obtain ⟨ad209, e209, hx209_0, hx209_1, hx209_2, hx209_3⟩ := at_T69 HR0_2.out x10_1 p209 q209
              cases e209
              replace hx209_0 := (HB.out.cell (World.block_lt_of_cell? w _ hx209_0)).trans hx209_0
              replace hx209_1 := (HB.out.cell (World.block_lt_of_cell? w _ hx209_1)).trans hx209_1
              replace hx209_2 := (HB.out.cell (World.block_lt_of_cell? w _ hx209_2)).trans hx209_2
              replace hx209_3 := (HB.out.cell (World.block_lt_of_cell? w _ hx209_3)).trans hx209_3
              replace p209 := eq_true p209
              replace q209 := eq_true q209
              go_wp2_with (first | ((with_reducible refine gate_dst (N := 6) rfl ?_); refine box_event ?hg (N := 6) ?hd (cs := #[.int .u8 0, .int .u8 0, .int .u8 0, .int .i64 0]) (t := 69) ?hr ?_; (case hd => rfl); (case hg => rfl); (case hr => first | (go_simp; done) | (go_simp; rfl)); intro gb210 hg w17 hbox hb; have n0_ := Aside0.mk (blk_below (g := gb207) (o := .cells #[.int .i64 a0_0, .int .i64 a0_1, .slice (some ad209) l0_2.length c0_2] 43 (0, 0)) (mk BK207.out) hb); have n1_ := Aside0.mk (blk_below (g := gb208) (o := .cells #[.int .u8 a1_0, .int .u8 a1_1, .int .u8 a1_2] 67 (0, 0)) (mk BK208.out) hb); have n2_ := Aside0.mk (below_step mB hb); have n3_ := Aside0.mk (hbox); have n4_ := Aside0.mk ((mG : w.heap.size ≤ gb210)); have n5_ := Aside0.mk ((mG : w.heap.size ≤ gb210)); have n6_ := Aside0.mk ((by rw [hg]; exact Nat.ne_of_lt (blk_lt (g := gb207) (o := .cells #[.int .i64 a0_0, .int .i64 a0_1, .slice (some ad209) l0_2.length c0_2] 43 (0, 0)) (mk BK207.out)) : gb207 ≠ gb210)); have n7_ := Aside0.mk ((by rw [hg]; exact Nat.ne_of_gt (blk_lt (g := gb207) (o := .cells #[.int .i64 a0_0, .int .i64 a0_1, .slice (some ad209) l0_2.length c0_2] 43 (0, 0)) (mk BK207.out)) : gb210 ≠ gb207)); have n8_ := Aside0.mk ((by rw [hg]; exact Nat.ne_of_lt (blk_lt (g := gb208) (o := .cells #[.int .u8 a1_0, .int .u8 a1_1, .int .u8 a1_2] 67 (0, 0)) (mk BK208.out)) : gb208 ≠ gb210)); have n9_ := Aside0.mk ((by rw [hg]; exact Nat.ne_of_gt (blk_lt (g := gb208) (o := .cells #[.int .u8 a1_0, .int .u8 a1_1, .int .u8 a1_2] 67 (0, 0)) (mk BK208.out)) : gb210 ≠ gb208)); clear BK207; clear BK208; clear HB; have BK207 := n0_; have BK208 := n1_; have HB := n2_; have BK210 := n3_; have GW210 := n4_; have GE210 := n5_; have NB207_210 := n6_; have NB210_207 := n7_; have NB208_210 := n8_; have NB210_208 := n9_; clear n0_ n1_ n2_ n3_ n4_ n5_ n6_ n7_ n8_ n9_; clear hb hbox hg; have hnb18 := NB210_207.out; have hnc18 := NB207_210.out; have hnb19 := NB210_208.out; have hnc19 := NB208_210.out; have hcz20_0 : w17.cell? ⟨gb210, 0, none⟩ = some (.int .u8 0) := (blk_cell BK210.out 0).trans rfl; have hcz20_1 : w17.cell? ⟨gb210, 1, none⟩ = some (.int .u8 0) := (blk_cell BK210.out 1).trans rfl; have hcz20_2 : w17.cell? ⟨gb210, 2, none⟩ = some (.int .u8 0) := (blk_cell BK210.out 2).trans rfl; have hcz20_3 : w17.cell? ⟨gb210, 3, none⟩ = some (.int .i64 0) := (blk_cell BK210.out 3).trans rfl; have hfz20_0 := blk_frozen BK210.out 0; have hfz20_1 := blk_frozen BK210.out 1; have hfz20_2 := blk_frozen BK210.out 2; have hfz20_3 := blk_frozen BK210.out 3; have hnb21 := NB208_207.out; have hnc21 := NB207_208.out; have hcz22_0 : w17.cell? ⟨gb208, 0, none⟩ = some (.int .u8 a1_0) := (blk_cell BK208.out 0).trans rfl; have hcz22_1 : w17.cell? ⟨gb208, 1, none⟩ = some (.int .u8 a1_1) := (blk_cell BK208.out 1).trans rfl; have hcz22_2 : w17.cell? ⟨gb208, 2, none⟩ = some (.int .u8 a1_2) := (blk_cell BK208.out 2).trans rfl; have hfz22_0 := blk_frozen BK208.out 0; have hfz22_1 := blk_frozen BK208.out 1; have hfz22_2 := blk_frozen BK208.out 2))
              go_roundg k1
              case measure => have := HK1.out; omega
              case rel => exact ⟨(wrap64 (x10_1 + 1)), mF, H', ⟨by have := HK1.out; omega⟩, ⟨by (with_reducible repeat (first | refine blk_drewN ?_ _ | refine blk_drew ?_ | refine blk_alloc ?_ _)); refine blk_far ?_ NB207_210.out _; (with_reducible repeat (first | refine blk_drewN ?_ _ | refine blk_drew ?_ | refine blk_alloc ?_ _)); refine blk_far ?_ NB207_210.out _; (with_reducible repeat (first | refine blk_drewN ?_ _ | refine blk_drew ?_ | refine blk_alloc ?_ _)); refine blk_far ?_ NB207_210.out _; (with_reducible repeat (first | refine blk_drewN ?_ _ | refine blk_drew ?_ | refine blk_alloc ?_ _)); refine blk_far ?_ NB207_210.out _; (with_reducible repeat (first | refine blk_drewN ?_ _ | refine blk_drew ?_ | refine blk_alloc ?_ _)); exact BK207.out⟩, ⟨by (with_reducible repeat (first | refine blk_drewN ?_ _ | refine blk_drew ?_ | refine blk_alloc ?_ _)); refine blk_far ?_ NB208_210.out _; (with_reducible repeat (first | refine blk_drewN ?_ _ | refine blk_drew ?_ | refine blk_alloc ?_ _)); refine blk_far ?_ NB208_210.out _; (with_reducible repeat (first | refine blk_drewN ?_ _ | refine blk_drew ?_ | refine blk_alloc ?_ _)); refine blk_far ?_ NB208_210.out _; (with_reducible repeat (first | refine blk_drewN ?_ _ | refine blk_drew ?_ | refine blk_alloc ?_ _)); refine blk_far ?_ NB208_210.out _; (with_reducible repeat (first | refine blk_drewN ?_ _ | refine blk_drew ?_ | refine blk_alloc ?_ _)); exact BK208.out⟩, ⟨mB⟩⟩
          · rw [if_neg c9] at H
            exact absurd H (by simp)
        · rw [if_neg c8] at H
          exact absurd H (by simp)
      · rw [if_neg c7] at H
        have c7b0 : decide (x10_1 < (l0_2.length : Int)) = false := decide_eq_false c7
        clear c7
        obtain rfl := Option.some.inj H
        go_wp2
        go_ret
        exact ⟨mE, mB⟩

/-! ### impl_row: function 52 -/
def impl_row.l0 : Nat → List Int → List (S67) → Int → Int → Int → Int → List (S69) → Option (List Int)
  | 0, _, _, _, _, _, _, _ => none
  | k + 1, x6, x16, x17, x18, x212000, x212001, x212002 => if x18 < x17 then (if 0 ≤ x18 then (if x18 < (x16.length : Int) then ((impl_coefficient.f k x212000 x212001 x212002 ((rd_T67 x16 x18).f0) ((rd_T67 x16 x18).f1) ((rd_T67 x16 x18).f2)).bind fun t220 => (if x18 < (x6.length : Int) then (impl_row.l0 k (x6.set (x18 : Int).toNat t220) x16 x17 (wrap64 (x18 + 1)) x212000 x212001 x212002) else (none))) else (none)) else (none)) else (some x6)
def impl_row.f (k : Nat) (a0_0 : Int) (a0_1 : Int) (l0_2 : List (S69)) (a1 : Int) : Option (List Int) := (impl_monomials.f k a0_1 a1).bind fun t212 => (if 0 ≤ (t212.length : Int) then (if ((t212.length : Int) : Int).toNat ≤ 35184372088832 then (impl_row.l0 k (List.replicate ((t212.length : Int) : Int).toNat 0) t212 (t212.length : Int) 0 a0_0 a0_1 l0_2) else (none)) else (none))
theorem impl_row.mono_l : ∀ k, (∀ y0 y1 y2 y3 y4 y5 y6, LeO (impl_row.l0 k y0 y1 y2 y3 y4 y5 y6) (impl_row.l0 (k + 1) y0 y1 y2 y3 y4 y5 y6))
  | 0 => fun _ _ _ _ _ _ _ r h => by simp [impl_row.l0] at h
  | k + 1 => by
    have ih0 := impl_row.mono_l k
    · intro y0 y1 y2 y3 y4 y5 y6
      unfold impl_row.l0
      repeat' first
      | (with_reducible exact ih0 _ _ _ _ _ _ _)
      | (with_reducible exact impl_coefficient.mono _ _ _ _ _ _ _)
      | (with_reducible exact impl_monomials.mono _ _ _)
      | (with_reducible exact LeO.refl _)
      | (with_reducible exact LeO.none _)
      | (with_reducible refine LeO.ite ?_ ?_)
      | (with_reducible refine LeO.bind ?_ (fun _ => ?_))
      | exact ih0 _ _ _ _ _ _ _
      | exact impl_coefficient.mono _ _ _ _ _ _ _
      | exact impl_monomials.mono _ _ _
      | exact LeO.none _
      | refine LeO.ite ?_ ?_
      | refine LeO.bind ?_ (fun _ => ?_)
theorem impl_row.mono : ∀ a0 a1 a2 a3 k, LeO (impl_row.f k a0 a1 a2 a3) (impl_row.f (k + 1) a0 a1 a2 a3) := by
  intro a0 a1 a2 a3 k
  have ih0 := impl_row.mono_l k
  unfold impl_row.f
  repeat' first
      | (with_reducible exact ih0 _ _ _ _ _ _ _)
      | (with_reducible exact impl_coefficient.mono _ _ _ _ _ _ _)
      | (with_reducible exact impl_monomials.mono _ _ _)
      | (with_reducible exact LeO.refl _)
      | (with_reducible exact LeO.none _)
      | (with_reducible refine LeO.ite ?_ ?_)
      | (with_reducible refine LeO.bind ?_ (fun _ => ?_))
      | exact ih0 _ _ _ _ _ _ _
      | exact impl_coefficient.mono _ _ _ _ _ _ _
      | exact impl_monomials.mono _ _ _
      | exact LeO.none _
      | refine LeO.ite ?_ ?_
      | refine LeO.bind ?_ (fun _ => ?_)
set_option maxHeartbeats 8000000 in
set_option maxRecDepth 100000 in
theorem impl_row.calls (k : Nat) (a0_0 : Int) (a0_1 : Int) (A0_2 : Option Addr) (c0_2 : Nat) (l0_2 : List (S69)) (a1 : Int) (r : List Int) (w : World) (hr0_2 : Kd.C k69 w A0_2 l0_2.length l0_2) (hc0_2 : l0_2.length ≤ c0_2) (h : impl_row.f k a0_0 a0_1 l0_2 a1 = some r) :
    Calls Try.prog 52 #[.agg #[.int .i64 a0_0, .int .i64 a0_1, .slice A0_2 l0_2.length c0_2], .int .i64 a1] w fun e w' => ∃ v0_ : Value, e = .returned (v0_) ∧ Kd.R (Kd.int .i64) 2 w' w.heap.size (fun _ => True) v0_ r ∧ Below w.heap.size w w' := by
  have hu43 := Try.underlying43
  have hu67 := Try.underlying67
  have HR0_2 := Aside0.mk hr0_2
  have HC0_2 := Aside0.mk hc0_2
  clear hr0_2 hc0_2
  have HB := Aside0.mk (Below.refl w.heap.size w)
  have H : ((impl_monomials.f k a0_1 a1).bind fun t212 => (if 0 ≤ (t212.length : Int) then (if ((t212.length : Int) : Int).toNat ≤ 35184372088832 then (impl_row.l0 k (List.replicate ((t212.length : Int) : Int).toNat 0) t212 (t212.length : Int) 0 a0_0 a0_1 l0_2) else (none)) else (none))) = some r := h
  clear h
  replace H := Option.bind_eq_some_iff.mp H
  obtain ⟨t212, A30, H⟩ := H
  replace H : (if 0 ≤ (t212.length : Int) then (if ((t212.length : Int) : Int).toNat ≤ 35184372088832 then (impl_row.l0 k (List.replicate ((t212.length : Int) : Int).toNat 0) t212 (t212.length : Int) 0 a0_0 a0_1 l0_2) else (none)) else (none)) = some r := H
  have A3 := Aside0.mk A30
  clear A30
  by_cases c4 : 0 ≤ (t212.length : Int)
  · rw [if_pos c4] at H
    have c4b0 := eq_true c4
    have c4b1 : decide (0 ≤ (t212.length : Int)) = true := decide_eq_true c4
    clear c4
    by_cases c5 : ((t212.length : Int) : Int).toNat ≤ 35184372088832
    · rw [if_pos c5] at H
      have c5b0 := eq_true c5
      have c5b1 : decide (((t212.length : Int) : Int).toNat ≤ 35184372088832) = true := decide_eq_true c5
      clear c5
      obtain ⟨y215, hy215⟩ : ∃ y_ : List Int, y_ = (List.replicate ((t212.length : Int) : Int).toNat 0) := ⟨_, rfl⟩
      replace H : (impl_row.l0 k y215 t212 (t212.length : Int) 0 a0_0 a0_1 l0_2) = some r := by first | (rw [hy215]; with_reducible exact H) | (have H2_ := (Option.bind_some _ _).symm.trans H; rw [hy215]; with_reducible exact H2_) | (have H2_ := (Option.bind_some _ _).symm.trans H; with_reducible exact H2_) | with_reducible exact H | (rw [hy215]; exact H) | exact H
      have Ny215 := Aside0.mk hy215
      clear hy215
      have H' := Aside0.mk H
      clear H
      go_enter Try.func52, Try.ntmps52
      go_wp2_with (first | ((with_reducible refine gate_dst (N := 2) rfl ?_); refine box_event ?hg (N := 2) ?hd (cs := #[.int .i64 a0_0, .int .i64 a0_1, .slice A0_2 l0_2.length c0_2]) (t := 43) ?hr ?_; (case hd => rfl); (case hg => rfl); (case hr => first | (go_simp; done) | (go_simp; rfl)); intro gb211 hg w6 hbox hb; have n0_ := Aside0.mk (below_step mB hb); have n1_ := Aside0.mk (hbox); have n2_ := Aside0.mk ((mG : w.heap.size ≤ gb211)); have n3_ := Aside0.mk ((mG : w.heap.size ≤ gb211)); clear HB; have HB := n0_; have BK211 := n1_; have GW211 := n2_; have GE211 := n3_; clear n0_ n1_ n2_ n3_; clear hb hbox hg; have hcz7_0 : w6.cell? ⟨gb211, 0, none⟩ = some (.int .i64 a0_0) := (blk_cell BK211.out 0).trans rfl; have hcz7_1 : w6.cell? ⟨gb211, 1, none⟩ = some (.int .i64 a0_1) := (blk_cell BK211.out 1).trans rfl; have hcz7_2 : w6.cell? ⟨gb211, 2, none⟩ = some (.slice A0_2 l0_2.length c0_2) := (blk_cell BK211.out 2).trans rfl; have hfz7_0 := blk_frozen BK211.out 0; have hfz7_1 := blk_frozen BK211.out 1; have hfz7_2 := blk_frozen BK211.out 2) | ((with_reducible refine gate_callee (f := 71) rfl ?_); refine goL (some 12) Try.func71 #[.int .i64 a0_1, .int .i64 a1] (h := ?_); (with_reducible refine (impl_monomials.calls k a0_1 a1 t212 _ A3.out).mono ?_); rintro e w8 ⟨v213, rfl, ho0, hb⟩; refine ⟨_, rfl, ?_⟩; have n0_ := Aside0.mk (Kd.R_lower ho0 (below_size mB)); have n1_ := Aside0.mk (blk_below (g := gb211) (o := .cells #[.int .i64 a0_0, .int .i64 a0_1, .slice A0_2 l0_2.length c0_2] 43 (0, 0)) (mk BK211.out) hb); have n2_ := Aside0.mk (below_step mB hb); clear BK211; clear HB; have HO214 := n0_; have BK211 := n1_; have HB := n2_; clear n0_ n1_ n2_; (try clear hb); (try clear hb2); (try clear hk); (try clear hi); (try clear ho0); obtain ⟨Ao9, co9, eo9⟩ := Kd.R_slice HO214.out; subst eo9) | ((with_reducible refine gate_dst (N := 15) rfl ?_); refine Kd.R_make (Kd.int .i64) _ 2 rfl (N := 15) rfl 22 _ _ rfl (t212.length : Int) rfl rfl Try.underlying22 (.int .i64 0) 8 info2 rfl (by decide) (by omega) 0 (ok := fun _ => True) (okp := fun _ => True) rfl (fun _ hk => hk) trivial (of_decide_eq_true mS) (Nat.le_trans (Nat.mul_le_mul_right _ (of_decide_eq_true mS : (t212.length : Int).toNat ≤ 35184372088832)) (by omega)) (Below.refl _ _) (Nat.le_refl _) ?_; intro v216 w10 ho11 hb hg_ hnew_; clear hg_ hnew_; (first | rw [← Ny215.out] at ho11 | (simp only [Int.reduceToNat] at ho11; rw [← Ny215.out] at ho11)); have n0_ := Aside0.mk (Kd.R_below (mR HO214.out) hb); have n1_ := Aside0.mk (Kd.R_lower ho11 (below_size mB)); have n2_ := Aside0.mk (blk_below (g := gb211) (o := .cells #[.int .i64 a0_0, .int .i64 a0_1, .slice A0_2 l0_2.length c0_2] 43 (0, 0)) (mk BK211.out) hb); have n3_ := Aside0.mk (below_step mB hb); clear HO214; clear BK211; clear HB; have HO214 := n0_; have HO217 := n1_; have BK211 := n2_; have HB := n3_; clear n0_ n1_ n2_ n3_; clear hb ho11))
      go_loopg [18] k (fun kq v18 w' => ∃ (x6_1 : List Int) (x18_1 : Int), v18 = .int .i64 x18_1 ∧ Aside0 (impl_row.l0 kq x6_1 t212 (t212.length : Int) x18_1 a0_0 a0_1 l0_2 = some r) ∧ Aside0 (kq ≤ k) ∧ Aside0 (Kd.R (Kd.int .i64) 2 w' w.heap.size (fun _ => True) v216 x6_1) ∧ Aside0 (Kd.R k67 67 w' w.heap.size (fun _ => True) (.slice Ao9 t212.length co9) t212) ∧ Aside0 (w'.heap[gb211]? = some (.cells #[.int .i64 a0_0, .int .i64 a0_1, (.slice A0_2 l0_2.length c0_2)] 43 (0, 0))) ∧ Aside0 (Below w.heap.size w w'))
      case atStart => exact ⟨(y215), (0), mF, H', ⟨Nat.le_refl _⟩, ⟨mR HO217.out⟩, ⟨mR HO214.out⟩, ⟨by (with_reducible repeat (first | refine blk_drewN ?_ _ | refine blk_drew ?_ | refine blk_alloc ?_ _)); exact BK211.out⟩, ⟨mB⟩⟩
      case round =>
        clear H'
        try clear p2
        try clear c4
        try clear c4b0
        try clear c4b1
        try clear c5
        try clear c5b0
        try clear c5b1
        try clear c7
        try clear hcz7_0
        try clear hcz7_1
        try clear hcz7_2
        try clear hfz7_0
        try clear hfz7_1
        try clear hfz7_2
        obtain ⟨x6_1, x18_1, rfl, HA, HK1, HO_6, HO_16, BK211, HB⟩ := hrel
        cases gk with
        | zero => exact absurd HA.out (by simp [impl_row.l0])
        | succ k1 =>
          have H := HA.out
          clear HA
          simp only [impl_row.l0] at H
          by_cases c12 : x18_1 < (t212.length : Int)
          · rw [if_pos c12] at H
            have c12b0 : decide (x18_1 < (t212.length : Int)) = true := decide_eq_true c12
            clear c12
            by_cases c13 : 0 ≤ x18_1
            · rw [if_pos c13] at H
              have c13b0 : decide (0 ≤ x18_1) = true := decide_eq_true c13
              clear c13
              by_cases c14 : x18_1 < (t212.length : Int)
              · rw [if_pos c14] at H
                have c14b0 : decide (x18_1 < (t212.length : Int)) = true := decide_eq_true c14
                clear c14
                replace H := Option.bind_eq_some_iff.mp H
                obtain ⟨t220, A150, H⟩ := H
                replace H : (if x18_1 < (x6_1.length : Int) then (impl_row.l0 k1 (x6_1.set (x18_1 : Int).toNat t220) t212 (t212.length : Int) (wrap64 (x18_1 + 1)) a0_0 a0_1 l0_2) else (none)) = some r := H
                have A15 := Aside0.mk A150
                clear A150
                by_cases c16 : x18_1 < (x6_1.length : Int)
                · rw [if_pos c16] at H
                  have c16b0 : decide (x18_1 < (x6_1.length : Int)) = true := decide_eq_true c16
                  clear c16
                  obtain ⟨y221, hy221⟩ : ∃ y_ : List Int, y_ = (x6_1.set (x18_1 : Int).toNat t220) := ⟨_, rfl⟩
                  replace H : (impl_row.l0 k1 y221 t212 (t212.length : Int) (wrap64 (x18_1 + 1)) a0_0 a0_1 l0_2) = some r := by first | (rw [hy221]; with_reducible exact H) | (have H2_ := (Option.bind_some _ _).symm.trans H; rw [hy221]; with_reducible exact H2_) | (have H2_ := (Option.bind_some _ _).symm.trans H; with_reducible exact H2_) | with_reducible exact H | (rw [hy221]; exact H) | exact H
                  have Ny221 := Aside0.mk hy221
                  clear hy221
                  have H' := Aside0.mk H
                  clear H
                  have p218 : 0 ≤ (x18_1 : Int) := of_decide_eq_true mS
                  have q218 : x18_1 < (t212.length : Int) := of_decide_eq_true mS
                  obtain ⟨ad218, e218, hx218_0, hx218_1, hx218_2⟩ := at_T67 (Kd.R_reads' HO_16.out).2.2 x18_1 p218 q218
                  cases e218
                  replace p218 := eq_true p218
                  replace q218 := eq_true q218
                  go_wp2_with (first | ((with_reducible refine gate_dst (N := 8) rfl ?_); refine box_event ?hg (N := 8) ?hd (cs := #[.int .u8 0, .int .u8 0, .int .u8 0]) (t := 67) ?hr ?_; (case hd => rfl); (case hg => rfl); (case hr => first | (go_simp; done) | (go_simp; rfl)); intro gb219 hg w18 hbox hb; have n0_ := Aside0.mk (Kd.R_below (mR HO_6.out) hb); have n1_ := Aside0.mk (Kd.R_below (Kd.R_elderB (mR HO_16.out) gb219 (Nat.le_of_eq hg.symm)) hb); have n2_ := Aside0.mk (blk_below (g := gb211) (o := .cells #[.int .i64 a0_0, .int .i64 a0_1, .slice A0_2 l0_2.length c0_2] 43 (0, 0)) (mk BK211.out) hb); have n3_ := Aside0.mk (below_step mB hb); have n4_ := Aside0.mk (hbox); have n5_ := Aside0.mk ((mG : w.heap.size ≤ gb219)); have n6_ := Aside0.mk ((mG : w.heap.size ≤ gb219)); have n7_ := Aside0.mk ((by rw [hg]; exact Nat.ne_of_lt (blk_lt (g := gb211) (o := .cells #[.int .i64 a0_0, .int .i64 a0_1, .slice A0_2 l0_2.length c0_2] 43 (0, 0)) (mk BK211.out)) : gb211 ≠ gb219)); have n8_ := Aside0.mk ((by rw [hg]; exact Nat.ne_of_gt (blk_lt (g := gb211) (o := .cells #[.int .i64 a0_0, .int .i64 a0_1, .slice A0_2 l0_2.length c0_2] 43 (0, 0)) (mk BK211.out)) : gb219 ≠ gb211)); clear HO_6; clear HO_16; clear BK211; clear HB; have HO_6 := n0_; have HO_16 := n1_; have BK211 := n2_; have HB := n3_; have BK219 := n4_; have GW219 := n5_; have GE219 := n6_; have NB211_219 := n7_; have NB219_211 := n8_; clear n0_ n1_ n2_ n3_ n4_ n5_ n6_ n7_ n8_; clear hb hbox hg; have hnb19 := NB219_211.out; have hnc19 := NB211_219.out; have hcz20_0 : w18.cell? ⟨gb219, 0, none⟩ = some (.int .u8 0) := (blk_cell BK219.out 0).trans rfl; have hcz20_1 : w18.cell? ⟨gb219, 1, none⟩ = some (.int .u8 0) := (blk_cell BK219.out 1).trans rfl; have hcz20_2 : w18.cell? ⟨gb219, 2, none⟩ = some (.int .u8 0) := (blk_cell BK219.out 2).trans rfl; have hfz20_0 := blk_frozen BK219.out 0; have hfz20_1 := blk_frozen BK219.out 1; have hfz20_2 := blk_frozen BK219.out 2; have hcz21_0 : w18.cell? ⟨gb211, 0, none⟩ = some (.int .i64 a0_0) := (blk_cell BK211.out 0).trans rfl; have hcz21_1 : w18.cell? ⟨gb211, 1, none⟩ = some (.int .i64 a0_1) := (blk_cell BK211.out 1).trans rfl; have hcz21_2 : w18.cell? ⟨gb211, 2, none⟩ = some (.slice A0_2 l0_2.length c0_2) := (blk_cell BK211.out 2).trans rfl; have hfz21_0 := blk_frozen BK211.out 0; have hfz21_1 := blk_frozen BK211.out 1; have hfz21_2 := blk_frozen BK211.out 2) | ((with_reducible refine gate_callee (f := 72) rfl ?_); refine goL (some 27) Try.func72 #[.agg #[.int .i64 a0_0, .int .i64 a0_1, .slice A0_2 l0_2.length c0_2], .agg #[.int .u8 ((rd_T67 t212 x18_1).f0), .int .u8 ((rd_T67 t212 x18_1).f1), .int .u8 ((rd_T67 t212 x18_1).f2)]] (h := ?_); (with_reducible refine (impl_coefficient.calls k1 a0_0 a0_1 _ _ l0_2 ((rd_T67 t212 x18_1).f0) ((rd_T67 t212 x18_1).f1) ((rd_T67 t212 x18_1).f2) t220 _ ?side1 ?side2 A15.out).mono ?_); (case side1 => exact Kd.C_below HR0_2.out mB); (case side2 => exact HC0_2.out); rintro e w22 ⟨rfl, hb⟩; refine ⟨_, rfl, ?_⟩; have n0_ := Aside0.mk (Kd.R_below (by (with_reducible repeat (first | apply Kd.R_alloc | apply Kd.R_drewN | apply Kd.R_drew)); exact (Kd.R_mono (Kd.R_far (p := ⟨gb219, 2, none⟩) (Kd.R_far (p := ⟨gb219, 1, none⟩) (Kd.R_far (p := ⟨gb219, 0, none⟩) (Kd.R_types HO_6.out BK219.out (by decide)) (fun _ hk => hk.2) (.int .u8 ((rd_T67 t212 x18_1).f0))) (fun _ hk => hk.2) (.int .u8 ((rd_T67 t212 x18_1).f1))) (fun _ hk => hk.2) (.int .u8 ((rd_T67 t212 x18_1).f2))) (fun _ h_ => h_.1))) hb); have n1_ := Aside0.mk (Kd.R_below (by (with_reducible repeat (first | apply Kd.R_alloc | apply Kd.R_drewN | apply Kd.R_drew)); exact (Kd.R_mono (Kd.R_far (p := ⟨gb219, 2, none⟩) (Kd.R_far (p := ⟨gb219, 1, none⟩) (Kd.R_far (p := ⟨gb219, 0, none⟩) (Kd.R_mono HO_16.out (fun k_ hk => (⟨hk, hk.2⟩ : _ ∧ k_ ≠ gb219))) (fun _ hk => hk.2) (.int .u8 ((rd_T67 t212 x18_1).f0))) (fun _ hk => hk.2) (.int .u8 ((rd_T67 t212 x18_1).f1))) (fun _ hk => hk.2) (.int .u8 ((rd_T67 t212 x18_1).f2))) (fun _ h_ => h_.1))) hb); have n2_ := Aside0.mk (blk_below (g := gb211) (o := .cells #[.int .i64 a0_0, .int .i64 a0_1, .slice A0_2 l0_2.length c0_2] 43 (0, 0)) (by (with_reducible repeat (first | refine blk_drewN ?_ _ | refine blk_drew ?_ | refine blk_alloc ?_ _)); refine blk_far ?_ NB211_219.out _; (with_reducible repeat (first | refine blk_drewN ?_ _ | refine blk_drew ?_ | refine blk_alloc ?_ _)); refine blk_far ?_ NB211_219.out _; (with_reducible repeat (first | refine blk_drewN ?_ _ | refine blk_drew ?_ | refine blk_alloc ?_ _)); refine blk_far ?_ NB211_219.out _; (with_reducible repeat (first | refine blk_drewN ?_ _ | refine blk_drew ?_ | refine blk_alloc ?_ _)); exact BK211.out) hb); have n3_ := Aside0.mk (blk_below (g := gb219) (o := .cells #[.int .u8 ((rd_T67 t212 x18_1).f0), .int .u8 ((rd_T67 t212 x18_1).f1), .int .u8 ((rd_T67 t212 x18_1).f2)] 67 (0, 0)) (by (with_reducible repeat (first | refine blk_drewN ?_ _ | refine blk_drew ?_ | refine blk_alloc ?_ _)); refine blk_put (cs := #[.int .u8 ((rd_T67 t212 x18_1).f0), .int .u8 ((rd_T67 t212 x18_1).f1), .int .u8 0]) ?_ 2 _ rfl; (with_reducible repeat (first | refine blk_drewN ?_ _ | refine blk_drew ?_ | refine blk_alloc ?_ _)); refine blk_put (cs := #[.int .u8 ((rd_T67 t212 x18_1).f0), .int .u8 0, .int .u8 0]) ?_ 1 _ rfl; (with_reducible repeat (first | refine blk_drewN ?_ _ | refine blk_drew ?_ | refine blk_alloc ?_ _)); refine blk_put (cs := #[.int .u8 0, .int .u8 0, .int .u8 0]) ?_ 0 _ rfl; (with_reducible repeat (first | refine blk_drewN ?_ _ | refine blk_drew ?_ | refine blk_alloc ?_ _)); exact BK219.out) hb); have n4_ := Aside0.mk (below_step mB hb); clear HO_6; clear HO_16; clear BK211; clear BK219; clear HB; have HO_6 := n0_; have HO_16 := n1_; have BK211 := n2_; have BK219 := n3_; have HB := n4_; clear n0_ n1_ n2_ n3_ n4_; (try clear hb); (try clear hb2); (try clear hk); (try clear hi); have p17 : 0 ≤ (x18_1 : Int) := of_decide_eq_true mS; have q17 : (x18_1 : Int) < ((x6_1.length : Int) : Int) := of_decide_eq_true mS; obtain ⟨go17, co17, eo17, gb17, gl17, cl17, HG17⟩ := Kd.R_form HO_6.out (by omega); (first | cases eo17 | (injection eo17 with ea_ en_ ec_; (first | subst ea_ | (injection ea_ with ea_; subst ea_)); subst ec_; clear en_)); have GB17 := Aside0.mk gb17; have GG17 := Aside0.mk HG17; clear gb17 gl17 HG17; obtain ⟨hx17_0, hf17_0⟩ := Kd.R_celln 0 HO_6.out (x18_1 : Int) p17 q17; replace p17 := eq_true p17; replace q17 := eq_true q17; obtain ⟨hy23_, hz23_⟩ := Kd.R_celln 0 HO_6.out (x18_1 : Int) (of_decide_eq_true mS) (of_decide_eq_true mS); have HP23 := Kd.R_putg HO_6.out (x18_1 : Int) t220) | ((with_reducible refine gate_store (t := 2) (p := 28) rfl ?_); refine store_event (t := 2) (p := 28) (v := ?vo_w24) (w1 := (w22.setCell ⟨go17, (x18_1 : Int).toNat, none⟩ (.int .i64 t220))) ?hg ?ho ?hn ?hr ?_; (case ho => rfl); (case hg => rfl); (case hn => rfl); (case hr => first | (go_simp; done) | (go_simp; rfl)); intro w24 hw; have hg : w22.grownBy w24 (some go17) := (by rw [hw]; exact HP23.2); have hp_ : Kd.R (Kd.int .i64) 2 w24 w.heap.size (fun _ => True) (.slice (some ⟨go17, 0, none⟩) x6_1.length co17) y221 := (by rw [hw, Ny221.out]; exact HP23.1); clear HP23; have n0_ := Aside0.mk (hp_); have n1_ := Aside0.mk (Kd.R_over' (v := (.slice (some ⟨go17, 0, none⟩) x6_1.length co17)) (mR HO_16.out) (Kd.R_typed HO_6.out) (by decide) hg); have n2_ := Aside0.mk (blk_grown (g := gb211) (o := .cells #[.int .i64 a0_0, .int .i64 a0_1, .slice A0_2 l0_2.length c0_2] 43 (0, 0)) (mk BK211.out) hg (Kd.R_ne HO_6.out BK211.out (by decide))); have n3_ := Aside0.mk (blk_grown (g := gb219) (o := .cells #[.int .u8 ((rd_T67 t212 x18_1).f0), .int .u8 ((rd_T67 t212 x18_1).f1), .int .u8 ((rd_T67 t212 x18_1).f2)] 67 (0, 0)) (mk BK219.out) hg (Kd.R_ne HO_6.out BK219.out (by decide))); have n4_ := Aside0.mk ((by rw [hw]; exact below_set (HB.out) GB17.out : Below w.heap.size w w24)); clear HO_6; clear HO_16; clear BK211; clear BK219; clear HB; have HO_6 := n0_; have HO_16 := n1_; have BK211 := n2_; have BK219 := n3_; have HB := n4_; clear n0_ n1_ n2_ n3_ n4_; clear hg hw hp_))
                  go_roundg k1
                  case measure => have := HK1.out; omega
                  case rel => exact ⟨(y221), (wrap64 (x18_1 + 1)), mF, H', ⟨by have := HK1.out; omega⟩, ⟨mR HO_6.out⟩, ⟨by (with_reducible repeat (first | apply Kd.R_alloc | apply Kd.R_drewN | apply Kd.R_drew)); exact Kd.R_mono HO_16.out (fun _ hk => trivial)⟩, ⟨by (with_reducible repeat (first | refine blk_drewN ?_ _ | refine blk_drew ?_ | refine blk_alloc ?_ _)); exact BK211.out⟩, ⟨mB⟩⟩
                · rw [if_neg c16] at H
                  exact absurd H (by simp)
              · rw [if_neg c14] at H
                exact absurd H (by simp)
            · rw [if_neg c13] at H
              exact absurd H (by simp)
          · rw [if_neg c12] at H
            have c12b0 : decide (x18_1 < (t212.length : Int)) = false := decide_eq_false c12
            clear c12
            obtain rfl := Option.some.inj H
            go_wp2
            go_ret
            exact ⟨_, mE, mR HO_6.out, mB⟩
    · rw [if_neg c5] at H
      exact absurd H (by simp)
  · rw [if_neg c4] at H
    exact absurd H (by simp)

/-! ### impl_RowOfPoly: function 27 -/
def impl_RowOfPoly.f (k : Nat) (a0_0 : Int) (a0_1 : Int) (l0_2 : List (S69)) (a1 : Int) : Option (List Int × Int) := (impl_IsPoly.f k a0_0 a0_1 l0_2).bind fun t223 => (if t223 = true then ((impl_isDegree.f a1).bind fun t224 => (if t224 = true then ((impl_row.f k a0_0 a0_1 l0_2 a1).bind fun t225 => (some (t225, 0))) else (some (([] : List Int), 2)))) else (some (([] : List Int), 1)))
theorem impl_RowOfPoly.mono : ∀ a0 a1 a2 a3 k, LeO (impl_RowOfPoly.f k a0 a1 a2 a3) (impl_RowOfPoly.f (k + 1) a0 a1 a2 a3) := by
  intro a0 a1 a2 a3 k
  unfold impl_RowOfPoly.f
  repeat' first
      | (with_reducible exact impl_IsPoly.mono _ _ _ _)
      | (with_reducible exact impl_row.mono _ _ _ _ _)
      | (with_reducible exact LeO.refl _)
      | (with_reducible exact LeO.none _)
      | (with_reducible refine LeO.ite ?_ ?_)
      | (with_reducible refine LeO.bind ?_ (fun _ => ?_))
      | exact impl_IsPoly.mono _ _ _ _
      | exact impl_row.mono _ _ _ _ _
      | exact LeO.none _
      | refine LeO.ite ?_ ?_
      | refine LeO.bind ?_ (fun _ => ?_)
set_option maxHeartbeats 8000000 in
set_option maxRecDepth 100000 in
theorem impl_RowOfPoly.calls (k : Nat) (a0_0 : Int) (a0_1 : Int) (A0_2 : Option Addr) (c0_2 : Nat) (l0_2 : List (S69)) (a1 : Int) (r1 : List Int) (r2 : Int) (w : World) (hr0_2 : Kd.C k69 w A0_2 l0_2.length l0_2) (hc0_2 : l0_2.length ≤ c0_2) (h : impl_RowOfPoly.f k a0_0 a0_1 l0_2 a1 = some (r1, r2)) :
    Calls Try.prog 27 #[.agg #[.int .i64 a0_0, .int .i64 a0_1, .slice A0_2 l0_2.length c0_2], .int .i64 a1] w fun e w' => ∃ v0_ : Value, e = .returned (.tuple #[v0_, .int .i64 r2]) ∧ Kd.R (Kd.int .i64) 2 w' w.heap.size (fun _ => True) v0_ r1 ∧ Below w.heap.size w w' := by
  have hu43 := Try.underlying43
  have HR0_2 := Aside0.mk hr0_2
  have HC0_2 := Aside0.mk hc0_2
  clear hr0_2 hc0_2
  have HB := Aside0.mk (Below.refl w.heap.size w)
  have H : ((impl_IsPoly.f k a0_0 a0_1 l0_2).bind fun t223 => (if t223 = true then ((impl_isDegree.f a1).bind fun t224 => (if t224 = true then ((impl_row.f k a0_0 a0_1 l0_2 a1).bind fun t225 => (some (t225, 0))) else (some (([] : List Int), 2)))) else (some (([] : List Int), 1)))) = some (r1, r2) := h
  clear h
  replace H := Option.bind_eq_some_iff.mp H
  obtain ⟨t223, A30, H⟩ := H
  replace H : (if t223 = true then ((impl_isDegree.f a1).bind fun t224 => (if t224 = true then ((impl_row.f k a0_0 a0_1 l0_2 a1).bind fun t225 => (some (t225, 0))) else (some (([] : List Int), 2)))) else (some (([] : List Int), 1))) = some (r1, r2) := H
  have A3 := Aside0.mk A30
  clear A30
  by_cases c4 : t223 = true
  · subst c4
    have H1 : ((impl_isDegree.f a1).bind fun t224 => (if t224 = true then ((impl_row.f k a0_0 a0_1 l0_2 a1).bind fun t225 => (some (t225, 0))) else (some (([] : List Int), 2)))) = some (r1, r2) := by rw [if_pos rfl] at H; exact H
    clear H
    have H := H1
    clear H1
    replace H := Option.bind_eq_some_iff.mp H
    obtain ⟨t224, A50, H⟩ := H
    replace H : (if t224 = true then ((impl_row.f k a0_0 a0_1 l0_2 a1).bind fun t225 => (some (t225, 0))) else (some (([] : List Int), 2))) = some (r1, r2) := H
    have A5 := Aside0.mk A50
    clear A50
    by_cases c6 : t224 = true
    · subst c6
      have H1 : ((impl_row.f k a0_0 a0_1 l0_2 a1).bind fun t225 => (some (t225, 0))) = some (r1, r2) := by rw [if_pos rfl] at H; exact H
      clear H
      have H := H1
      clear H1
      replace H := Option.bind_eq_some_iff.mp H
      obtain ⟨t225, A70, H⟩ := H
      replace H : (some (t225, 0)) = some (r1, r2) := H
      have A7 := Aside0.mk A70
      clear A70
      simp only [Option.some.injEq, Prod.mk.injEq] at H
      obtain ⟨rfl, rfl⟩ := H
      go_enter Try.func27, Try.ntmps27
      go_wp2_with (first | ((with_reducible refine gate_dst (N := 2) rfl ?_); refine box_event ?hg (N := 2) ?hd (cs := #[.int .i64 a0_0, .int .i64 a0_1, .slice A0_2 l0_2.length c0_2]) (t := 43) ?hr ?_; (case hd => rfl); (case hg => rfl); (case hr => first | (go_simp; done) | (go_simp; rfl)); intro gb222 hg w8 hbox hb; have n0_ := Aside0.mk (below_step mB hb); have n1_ := Aside0.mk (hbox); have n2_ := Aside0.mk ((mG : w.heap.size ≤ gb222)); have n3_ := Aside0.mk ((mG : w.heap.size ≤ gb222)); clear HB; have HB := n0_; have BK222 := n1_; have GW222 := n2_; have GE222 := n3_; clear n0_ n1_ n2_ n3_; clear hb hbox hg; have hcz9_0 : w8.cell? ⟨gb222, 0, none⟩ = some (.int .i64 a0_0) := (blk_cell BK222.out 0).trans rfl; have hcz9_1 : w8.cell? ⟨gb222, 1, none⟩ = some (.int .i64 a0_1) := (blk_cell BK222.out 1).trans rfl; have hcz9_2 : w8.cell? ⟨gb222, 2, none⟩ = some (.slice A0_2 l0_2.length c0_2) := (blk_cell BK222.out 2).trans rfl; have hfz9_0 := blk_frozen BK222.out 0; have hfz9_1 := blk_frozen BK222.out 1; have hfz9_2 := blk_frozen BK222.out 2) | ((with_reducible refine gate_callee (f := 50) rfl ?_); refine goL (some 8) Try.func50 #[.agg #[.int .i64 a0_0, .int .i64 a0_1, .slice A0_2 l0_2.length c0_2]] (h := ?_); (with_reducible refine (impl_IsPoly.calls k a0_0 a0_1 _ _ l0_2 true _ ?side1 ?side2 A3.out).mono ?_); (case side1 => repeat (first | exact (Kd.C_below HR0_2.out HB.out) | (with_reducible refine Kd.C_alloc ?_ _) | (with_reducible refine Kd.C_drewN ?_ _) | (with_reducible refine Kd.C_drew ?_))); (case side2 => exact HC0_2.out); rintro e w10 ⟨rfl, hb⟩; refine ⟨_, rfl, ?_⟩; have n0_ := Aside0.mk (blk_below (g := gb222) (o := .cells #[.int .i64 a0_0, .int .i64 a0_1, .slice A0_2 l0_2.length c0_2] 43 (0, 0)) (mk BK222.out) hb); have n1_ := Aside0.mk (below_step mB hb); clear BK222; clear HB; have BK222 := n0_; have HB := n1_; clear n0_ n1_; (try clear hb); (try clear hb2); (try clear hk); (try clear hi)) | ((with_reducible refine gate_callee (f := 51) rfl ?_); refine goL (some 12) Try.func51 #[.int .i64 a1] (h := ?_); (with_reducible refine (impl_isDegree.calls a1 true _ A5.out).mono ?_); rintro e w' ⟨rfl, ⟨nd, rfl⟩⟩; refine ⟨_, rfl, ?_⟩; have hcz11_0 : w10.cell? ⟨gb222, 0, none⟩ = some (.int .i64 a0_0) := (blk_cell BK222.out 0).trans rfl; have hcz11_1 : w10.cell? ⟨gb222, 1, none⟩ = some (.int .i64 a0_1) := (blk_cell BK222.out 1).trans rfl; have hcz11_2 : w10.cell? ⟨gb222, 2, none⟩ = some (.slice A0_2 l0_2.length c0_2) := (blk_cell BK222.out 2).trans rfl; have hfz11_0 := blk_frozen BK222.out 0; have hfz11_1 := blk_frozen BK222.out 1; have hfz11_2 := blk_frozen BK222.out 2) | ((with_reducible refine gate_callee (f := 52) rfl ?_); refine goL (some 16) Try.func52 #[.agg #[.int .i64 a0_0, .int .i64 a0_1, .slice A0_2 l0_2.length c0_2], .int .i64 a1] (h := ?_); (with_reducible refine (impl_row.calls k a0_0 a0_1 _ _ l0_2 a1 t225 _ ?side1 ?side2 A7.out).mono ?_); (case side1 => repeat (first | exact (Kd.C_below HR0_2.out mB) | (with_reducible refine Kd.C_alloc ?_ _) | (with_reducible refine Kd.C_drewN ?_ _) | (with_reducible refine Kd.C_drew ?_))); (case side2 => exact HC0_2.out); rintro e w12 ⟨v226, rfl, ho0, hb⟩; refine ⟨_, rfl, ?_⟩; have n0_ := Aside0.mk (Kd.R_lower ho0 (below_size mB)); have n1_ := Aside0.mk (blk_below (g := gb222) (o := .cells #[.int .i64 a0_0, .int .i64 a0_1, .slice A0_2 l0_2.length c0_2] 43 (0, 0)) (mk BK222.out) hb); have n2_ := Aside0.mk (below_step mB hb); clear BK222; clear HB; have HO227 := n0_; have BK222 := n1_; have HB := n2_; clear n0_ n1_ n2_; (try clear hb); (try clear hb2); (try clear hk); (try clear hi); (try clear ho0)))
      go_ret2
      exact ⟨_, mE, mR HO227.out, mB⟩
    · replace c6 := Bool.eq_false_iff.mpr c6
      subst c6
      have H1 : (some (([] : List Int), 2)) = some (r1, r2) := by rw [if_neg (show ¬ (false = true) by decide)] at H; exact H
      clear H
      have H := H1
      clear H1
      simp only [Option.some.injEq, Prod.mk.injEq] at H
      obtain ⟨rfl, rfl⟩ := H
      go_enter Try.func27, Try.ntmps27
      go_wp2_with (first | ((with_reducible refine gate_dst (N := 2) rfl ?_); refine box_event ?hg (N := 2) ?hd (cs := #[.int .i64 a0_0, .int .i64 a0_1, .slice A0_2 l0_2.length c0_2]) (t := 43) ?hr ?_; (case hd => rfl); (case hg => rfl); (case hr => first | (go_simp; done) | (go_simp; rfl)); intro gb222 hg w13 hbox hb; have n0_ := Aside0.mk (below_step mB hb); have n1_ := Aside0.mk (hbox); have n2_ := Aside0.mk ((mG : w.heap.size ≤ gb222)); have n3_ := Aside0.mk ((mG : w.heap.size ≤ gb222)); clear HB; have HB := n0_; have BK222 := n1_; have GW222 := n2_; have GE222 := n3_; clear n0_ n1_ n2_ n3_; clear hb hbox hg; have hcz14_0 : w13.cell? ⟨gb222, 0, none⟩ = some (.int .i64 a0_0) := (blk_cell BK222.out 0).trans rfl; have hcz14_1 : w13.cell? ⟨gb222, 1, none⟩ = some (.int .i64 a0_1) := (blk_cell BK222.out 1).trans rfl; have hcz14_2 : w13.cell? ⟨gb222, 2, none⟩ = some (.slice A0_2 l0_2.length c0_2) := (blk_cell BK222.out 2).trans rfl; have hfz14_0 := blk_frozen BK222.out 0; have hfz14_1 := blk_frozen BK222.out 1; have hfz14_2 := blk_frozen BK222.out 2) | ((with_reducible refine gate_callee (f := 50) rfl ?_); refine goL (some 8) Try.func50 #[.agg #[.int .i64 a0_0, .int .i64 a0_1, .slice A0_2 l0_2.length c0_2]] (h := ?_); (with_reducible refine (impl_IsPoly.calls k a0_0 a0_1 _ _ l0_2 true _ ?side1 ?side2 A3.out).mono ?_); (case side1 => repeat (first | exact (Kd.C_below HR0_2.out HB.out) | (with_reducible refine Kd.C_alloc ?_ _) | (with_reducible refine Kd.C_drewN ?_ _) | (with_reducible refine Kd.C_drew ?_))); (case side2 => exact HC0_2.out); rintro e w15 ⟨rfl, hb⟩; refine ⟨_, rfl, ?_⟩; have n0_ := Aside0.mk (blk_below (g := gb222) (o := .cells #[.int .i64 a0_0, .int .i64 a0_1, .slice A0_2 l0_2.length c0_2] 43 (0, 0)) (mk BK222.out) hb); have n1_ := Aside0.mk (below_step mB hb); clear BK222; clear HB; have BK222 := n0_; have HB := n1_; clear n0_ n1_; (try clear hb); (try clear hb2); (try clear hk); (try clear hi)) | ((with_reducible refine gate_callee (f := 51) rfl ?_); refine goL (some 12) Try.func51 #[.int .i64 a1] (h := ?_); (with_reducible refine (impl_isDegree.calls a1 false _ A5.out).mono ?_); rintro e w' ⟨rfl, ⟨nd, rfl⟩⟩; refine ⟨_, rfl, ?_⟩))
      go_ret2
      exact ⟨_, mE, by first | exact Kd.R_nil _ _ _ _ _ | exact Kd.N_nil _ _ _ _ _ | exact Kd.V_nil _ _ _ _ _ | exact Kd.Q_nil _ _ _ _ _ | exact Kd.S_nil _ _ _ _ _, mB⟩
  · replace c4 := Bool.eq_false_iff.mpr c4
    subst c4
    have H1 : (some (([] : List Int), 1)) = some (r1, r2) := by rw [if_neg (show ¬ (false = true) by decide)] at H; exact H
    clear H
    have H := H1
    clear H1
    simp only [Option.some.injEq, Prod.mk.injEq] at H
    obtain ⟨rfl, rfl⟩ := H
    go_enter Try.func27, Try.ntmps27
    go_wp2_with (first | ((with_reducible refine gate_dst (N := 2) rfl ?_); refine box_event ?hg (N := 2) ?hd (cs := #[.int .i64 a0_0, .int .i64 a0_1, .slice A0_2 l0_2.length c0_2]) (t := 43) ?hr ?_; (case hd => rfl); (case hg => rfl); (case hr => first | (go_simp; done) | (go_simp; rfl)); intro gb222 hg w16 hbox hb; have n0_ := Aside0.mk (below_step mB hb); have n1_ := Aside0.mk (hbox); have n2_ := Aside0.mk ((mG : w.heap.size ≤ gb222)); have n3_ := Aside0.mk ((mG : w.heap.size ≤ gb222)); clear HB; have HB := n0_; have BK222 := n1_; have GW222 := n2_; have GE222 := n3_; clear n0_ n1_ n2_ n3_; clear hb hbox hg; have hcz17_0 : w16.cell? ⟨gb222, 0, none⟩ = some (.int .i64 a0_0) := (blk_cell BK222.out 0).trans rfl; have hcz17_1 : w16.cell? ⟨gb222, 1, none⟩ = some (.int .i64 a0_1) := (blk_cell BK222.out 1).trans rfl; have hcz17_2 : w16.cell? ⟨gb222, 2, none⟩ = some (.slice A0_2 l0_2.length c0_2) := (blk_cell BK222.out 2).trans rfl; have hfz17_0 := blk_frozen BK222.out 0; have hfz17_1 := blk_frozen BK222.out 1; have hfz17_2 := blk_frozen BK222.out 2) | ((with_reducible refine gate_callee (f := 50) rfl ?_); refine goL (some 8) Try.func50 #[.agg #[.int .i64 a0_0, .int .i64 a0_1, .slice A0_2 l0_2.length c0_2]] (h := ?_); (with_reducible refine (impl_IsPoly.calls k a0_0 a0_1 _ _ l0_2 false _ ?side1 ?side2 A3.out).mono ?_); (case side1 => repeat (first | exact (Kd.C_below HR0_2.out HB.out) | (with_reducible refine Kd.C_alloc ?_ _) | (with_reducible refine Kd.C_drewN ?_ _) | (with_reducible refine Kd.C_drew ?_))); (case side2 => exact HC0_2.out); rintro e w18 ⟨rfl, hb⟩; refine ⟨_, rfl, ?_⟩; have n0_ := Aside0.mk (blk_below (g := gb222) (o := .cells #[.int .i64 a0_0, .int .i64 a0_1, .slice A0_2 l0_2.length c0_2] 43 (0, 0)) (mk BK222.out) hb); have n1_ := Aside0.mk (below_step mB hb); clear BK222; clear HB; have BK222 := n0_; have HB := n1_; clear n0_ n1_; (try clear hb); (try clear hb2); (try clear hk); (try clear hi)))
    go_ret2
    exact ⟨_, mE, by first | exact Kd.R_nil _ _ _ _ _ | exact Kd.N_nil _ _ _ _ _ | exact Kd.V_nil _ _ _ _ _ | exact Kd.Q_nil _ _ _ _ _ | exact Kd.S_nil _ _ _ _ _, mB⟩

/-! ### laws_eqExps: function 79 -/
def laws_eqExps.l0 : Nat → Int → Int → Int → Int → Int → Int → Int → Option (Bool)
  | 0, _, _, _, _, _, _, _ => none
  | k + 1, x5, x229000, x229001, x229002, x230000, x230001, x230002 => if x5 < 3 then (if x5 = 0 then (if x229000 = x230000 then (laws_eqExps.l0 k (0 + 1) x229000 x229001 x229002 x230000 x230001 x230002) else (some false)) else (if x5 = 1 then (if x229001 = x230001 then (laws_eqExps.l0 k (1 + 1) x229000 x229001 x229002 x230000 x230001 x230002) else (some false)) else (if x5 = 2 then (if x229002 = x230002 then (laws_eqExps.l0 k (2 + 1) x229000 x229001 x229002 x230000 x230001 x230002) else (some false)) else (none)))) else (some true)
def laws_eqExps.f (k : Nat) (a0_0 : Int) (a0_1 : Int) (a0_2 : Int) (a1_0 : Int) (a1_1 : Int) (a1_2 : Int) : Option (Bool) := laws_eqExps.l0 k 0 a0_0 a0_1 a0_2 a1_0 a1_1 a1_2
theorem laws_eqExps.mono_l : ∀ k, (∀ y0 y1 y2 y3 y4 y5 y6, LeO (laws_eqExps.l0 k y0 y1 y2 y3 y4 y5 y6) (laws_eqExps.l0 (k + 1) y0 y1 y2 y3 y4 y5 y6))
  | 0 => fun _ _ _ _ _ _ _ r h => by simp [laws_eqExps.l0] at h
  | k + 1 => by
    have ih0 := laws_eqExps.mono_l k
    · intro y0 y1 y2 y3 y4 y5 y6
      unfold laws_eqExps.l0
      repeat' first
      | (with_reducible exact ih0 _ _ _ _ _ _ _)
      | (with_reducible exact LeO.refl _)
      | (with_reducible exact LeO.none _)
      | (with_reducible refine LeO.ite ?_ ?_)
      | (with_reducible refine LeO.bind ?_ (fun _ => ?_))
      | exact ih0 _ _ _ _ _ _ _
      | exact LeO.none _
      | refine LeO.ite ?_ ?_
      | refine LeO.bind ?_ (fun _ => ?_)
theorem laws_eqExps.mono : ∀ a0 a1 a2 a3 a4 a5 k, LeO (laws_eqExps.f k a0 a1 a2 a3 a4 a5) (laws_eqExps.f (k + 1) a0 a1 a2 a3 a4 a5) := by
  intro a0 a1 a2 a3 a4 a5 k
  have ih0 := laws_eqExps.mono_l k
  unfold laws_eqExps.f
  repeat' first
      | (with_reducible exact ih0 _ _ _ _ _ _ _)
      | (with_reducible exact LeO.refl _)
      | (with_reducible exact LeO.none _)
      | (with_reducible refine LeO.ite ?_ ?_)
      | (with_reducible refine LeO.bind ?_ (fun _ => ?_))
      | exact ih0 _ _ _ _ _ _ _
      | exact LeO.none _
      | refine LeO.ite ?_ ?_
      | refine LeO.bind ?_ (fun _ => ?_)
set_option maxHeartbeats 8000000 in
set_option maxRecDepth 100000 in
theorem laws_eqExps.calls (k : Nat) (a0_0 : Int) (a0_1 : Int) (a0_2 : Int) (a1_0 : Int) (a1_1 : Int) (a1_2 : Int) (r : Bool) (w : World) (h : laws_eqExps.f k a0_0 a0_1 a0_2 a1_0 a1_1 a1_2 = some r) :
    Calls Try.prog 79 #[.agg #[.int .u8 a0_0, .int .u8 a0_1, .int .u8 a0_2], .agg #[.int .u8 a1_0, .int .u8 a1_1, .int .u8 a1_2]] w fun e w' => e = .returned (.bool r) ∧ Below w.heap.size w w' := by
  have hu67 := Try.underlying67
  have HB := Aside0.mk (Below.refl w.heap.size w)
  have H : (laws_eqExps.l0 k 0 a0_0 a0_1 a0_2 a1_0 a1_1 a1_2) = some r := h
  clear h
  have H' := Aside0.mk H
  clear H
  go_enter Try.func79, Try.ntmps79
  go_wp2_with (first | ((with_reducible refine gate_dst (N := 2) rfl ?_); refine box_event ?hg (N := 2) ?hd (cs := #[.int .u8 a0_0, .int .u8 a0_1, .int .u8 a0_2]) (t := 67) ?hr ?_; (case hd => rfl); (case hg => rfl); (case hr => first | (go_simp; done) | (go_simp; rfl)); intro gb228 hg w3 hbox hb; have n0_ := Aside0.mk (below_step mB hb); have n1_ := Aside0.mk (hbox); have n2_ := Aside0.mk ((mG : w.heap.size ≤ gb228)); have n3_ := Aside0.mk ((mG : w.heap.size ≤ gb228)); clear HB; have HB := n0_; have BK228 := n1_; have GW228 := n2_; have GE228 := n3_; clear n0_ n1_ n2_ n3_; clear hb hbox hg) | ((with_reducible refine gate_dst (N := 3) rfl ?_); refine box_event ?hg (N := 3) ?hd (cs := #[.int .u8 a1_0, .int .u8 a1_1, .int .u8 a1_2]) (t := 67) ?hr ?_; (case hd => rfl); (case hg => rfl); (case hr => first | (go_simp; done) | (go_simp; rfl)); intro gb229 hg w4 hbox hb; have n0_ := Aside0.mk (blk_below (g := gb228) (o := .cells #[.int .u8 a0_0, .int .u8 a0_1, .int .u8 a0_2] 67 (0, 0)) (mk BK228.out) hb); have n1_ := Aside0.mk (below_step mB hb); have n2_ := Aside0.mk (hbox); have n3_ := Aside0.mk ((mG : w.heap.size ≤ gb229)); have n4_ := Aside0.mk ((mG : w.heap.size ≤ gb229)); have n5_ := Aside0.mk ((by rw [hg]; exact Nat.ne_of_lt (blk_lt (g := gb228) (o := .cells #[.int .u8 a0_0, .int .u8 a0_1, .int .u8 a0_2] 67 (0, 0)) (mk BK228.out)) : gb228 ≠ gb229)); have n6_ := Aside0.mk ((by rw [hg]; exact Nat.ne_of_gt (blk_lt (g := gb228) (o := .cells #[.int .u8 a0_0, .int .u8 a0_1, .int .u8 a0_2] 67 (0, 0)) (mk BK228.out)) : gb229 ≠ gb228)); clear BK228; clear HB; have BK228 := n0_; have HB := n1_; have BK229 := n2_; have GW229 := n3_; have GE229 := n4_; have NB228_229 := n5_; have NB229_228 := n6_; clear n0_ n1_ n2_ n3_ n4_ n5_ n6_; clear hb hbox hg))
  repeat (go_quiet (first | ((with_reducible refine gate_dst (N := 2) rfl ?_); refine box_event ?hg (N := 2) ?hd (cs := #[.int .u8 a0_0, .int .u8 a0_1, .int .u8 a0_2]) (t := 67) ?hr ?_; (case hd => rfl); (case hg => rfl); (case hr => first | (go_simp; done) | (go_simp; rfl)); intro gb228 hg w3 hbox hb; have n0_ := Aside0.mk (below_step mB hb); have n1_ := Aside0.mk (hbox); have n2_ := Aside0.mk ((mG : w.heap.size ≤ gb228)); have n3_ := Aside0.mk ((mG : w.heap.size ≤ gb228)); clear HB; have HB := n0_; have BK228 := n1_; have GW228 := n2_; have GE228 := n3_; clear n0_ n1_ n2_ n3_; clear hb hbox hg) | ((with_reducible refine gate_dst (N := 3) rfl ?_); refine box_event ?hg (N := 3) ?hd (cs := #[.int .u8 a1_0, .int .u8 a1_1, .int .u8 a1_2]) (t := 67) ?hr ?_; (case hd => rfl); (case hg => rfl); (case hr => first | (go_simp; done) | (go_simp; rfl)); intro gb229 hg w4 hbox hb; have n0_ := Aside0.mk (blk_below (g := gb228) (o := .cells #[.int .u8 a0_0, .int .u8 a0_1, .int .u8 a0_2] 67 (0, 0)) (mk BK228.out) hb); have n1_ := Aside0.mk (below_step mB hb); have n2_ := Aside0.mk (hbox); have n3_ := Aside0.mk ((mG : w.heap.size ≤ gb229)); have n4_ := Aside0.mk ((mG : w.heap.size ≤ gb229)); have n5_ := Aside0.mk ((by rw [hg]; exact Nat.ne_of_lt (blk_lt (g := gb228) (o := .cells #[.int .u8 a0_0, .int .u8 a0_1, .int .u8 a0_2] 67 (0, 0)) (mk BK228.out)) : gb228 ≠ gb229)); have n6_ := Aside0.mk ((by rw [hg]; exact Nat.ne_of_gt (blk_lt (g := gb228) (o := .cells #[.int .u8 a0_0, .int .u8 a0_1, .int .u8 a0_2] 67 (0, 0)) (mk BK228.out)) : gb229 ≠ gb228)); clear BK228; clear HB; have BK228 := n0_; have HB := n1_; have BK229 := n2_; have GW229 := n3_; have GE229 := n4_; have NB228_229 := n5_; have NB229_228 := n6_; clear n0_ n1_ n2_ n3_ n4_ n5_ n6_; clear hb hbox hg)); try go_wp2_with (first | ((with_reducible refine gate_dst (N := 2) rfl ?_); refine box_event ?hg (N := 2) ?hd (cs := #[.int .u8 a0_0, .int .u8 a0_1, .int .u8 a0_2]) (t := 67) ?hr ?_; (case hd => rfl); (case hg => rfl); (case hr => first | (go_simp; done) | (go_simp; rfl)); intro gb228 hg w3 hbox hb; have n0_ := Aside0.mk (below_step mB hb); have n1_ := Aside0.mk (hbox); have n2_ := Aside0.mk ((mG : w.heap.size ≤ gb228)); have n3_ := Aside0.mk ((mG : w.heap.size ≤ gb228)); clear HB; have HB := n0_; have BK228 := n1_; have GW228 := n2_; have GE228 := n3_; clear n0_ n1_ n2_ n3_; clear hb hbox hg) | ((with_reducible refine gate_dst (N := 3) rfl ?_); refine box_event ?hg (N := 3) ?hd (cs := #[.int .u8 a1_0, .int .u8 a1_1, .int .u8 a1_2]) (t := 67) ?hr ?_; (case hd => rfl); (case hg => rfl); (case hr => first | (go_simp; done) | (go_simp; rfl)); intro gb229 hg w4 hbox hb; have n0_ := Aside0.mk (blk_below (g := gb228) (o := .cells #[.int .u8 a0_0, .int .u8 a0_1, .int .u8 a0_2] 67 (0, 0)) (mk BK228.out) hb); have n1_ := Aside0.mk (below_step mB hb); have n2_ := Aside0.mk (hbox); have n3_ := Aside0.mk ((mG : w.heap.size ≤ gb229)); have n4_ := Aside0.mk ((mG : w.heap.size ≤ gb229)); have n5_ := Aside0.mk ((by rw [hg]; exact Nat.ne_of_lt (blk_lt (g := gb228) (o := .cells #[.int .u8 a0_0, .int .u8 a0_1, .int .u8 a0_2] 67 (0, 0)) (mk BK228.out)) : gb228 ≠ gb229)); have n6_ := Aside0.mk ((by rw [hg]; exact Nat.ne_of_gt (blk_lt (g := gb228) (o := .cells #[.int .u8 a0_0, .int .u8 a0_1, .int .u8 a0_2] 67 (0, 0)) (mk BK228.out)) : gb229 ≠ gb228)); clear BK228; clear HB; have BK228 := n0_; have HB := n1_; have BK229 := n2_; have GW229 := n3_; have GE229 := n4_; have NB228_229 := n5_; have NB229_228 := n6_; clear n0_ n1_ n2_ n3_ n4_ n5_ n6_; clear hb hbox hg)))
  go_loopg [5] k (fun kq v5 w' => ∃ (x5_1 : Int), v5 = .int .i64 x5_1 ∧ Aside0 (laws_eqExps.l0 kq x5_1 a0_0 a0_1 a0_2 a1_0 a1_1 a1_2 = some r) ∧ Aside0 (kq ≤ k) ∧ Aside0 (w'.heap[gb228]? = some (.cells #[.int .u8 a0_0, .int .u8 a0_1, .int .u8 a0_2] 67 (0, 0))) ∧ Aside0 (w'.heap[gb229]? = some (.cells #[.int .u8 a1_0, .int .u8 a1_1, .int .u8 a1_2] 67 (0, 0))) ∧ Aside0 (Below w.heap.size w w'))
  case atStart => exact ⟨(0), mF, H', ⟨Nat.le_refl _⟩, ⟨by (with_reducible repeat (first | refine blk_drewN ?_ _ | refine blk_drew ?_ | refine blk_alloc ?_ _)); exact BK228.out⟩, ⟨by (with_reducible repeat (first | refine blk_drewN ?_ _ | refine blk_drew ?_ | refine blk_alloc ?_ _)); exact BK229.out⟩, ⟨mB⟩⟩
  case round =>
    clear H'
    try clear p2
    obtain ⟨x5_1, rfl, HA, HK1, BK228, BK229, HB⟩ := hrel
    cases gk with
    | zero => exact absurd HA.out (by simp [laws_eqExps.l0])
    | succ k1 =>
      have H := HA.out
      clear HA
      simp only [laws_eqExps.l0] at H
      by_cases c5 : x5_1 < 3
      · rw [if_pos c5] at H
        have c5b0 : decide (x5_1 < 3) = true := decide_eq_true c5
        clear c5
        by_cases c6 : x5_1 = 0
        · subst c6
          have H1 : (if a0_0 = a1_0 then (laws_eqExps.l0 k1 (0 + 1) a0_0 a0_1 a0_2 a1_0 a1_1 a1_2) else (some false)) = some r := by rw [if_pos rfl] at H; exact H
          clear H
          have H := H1
          clear H1
          by_cases c7 : a0_0 = a1_0
          · rw [if_pos c7] at H
            have c7b0 : (a0_0 == a1_0) = true := beq_iff_eq.mpr c7
            have c7b1 : (a0_0 != a1_0) = false := bne_eq_false_iff_eq.mpr c7
            clear c7
            have H' := Aside0.mk H
            clear H
            have hnb8 := NB228_229.out
            have hnc8 := NB229_228.out
            have hcz9_0 : wr.cell? ⟨gb228, 0, none⟩ = some (.int .u8 a0_0) := (blk_cell BK228.out 0).trans rfl
            have hcz9_1 : wr.cell? ⟨gb228, 1, none⟩ = some (.int .u8 a0_1) := (blk_cell BK228.out 1).trans rfl
            have hcz9_2 : wr.cell? ⟨gb228, 2, none⟩ = some (.int .u8 a0_2) := (blk_cell BK228.out 2).trans rfl
            have hfz9_0 := blk_frozen BK228.out 0
            have hfz9_1 := blk_frozen BK228.out 1
            have hfz9_2 := blk_frozen BK228.out 2
            have hcz10_0 : wr.cell? ⟨gb229, 0, none⟩ = some (.int .u8 a1_0) := (blk_cell BK229.out 0).trans rfl
            have hcz10_1 : wr.cell? ⟨gb229, 1, none⟩ = some (.int .u8 a1_1) := (blk_cell BK229.out 1).trans rfl
            have hcz10_2 : wr.cell? ⟨gb229, 2, none⟩ = some (.int .u8 a1_2) := (blk_cell BK229.out 2).trans rfl
            have hfz10_0 := blk_frozen BK229.out 0
            have hfz10_1 := blk_frozen BK229.out 1
            have hfz10_2 := blk_frozen BK229.out 2
            go_wp2
            repeat (go_quiet (fail); try go_wp2)
            go_roundg k1
            case measure => have := HK1.out; omega
            case rel => exact ⟨(0 + 1), mF, H', ⟨by have := HK1.out; omega⟩, ⟨by (with_reducible repeat (first | refine blk_drewN ?_ _ | refine blk_drew ?_ | refine blk_alloc ?_ _)); exact BK228.out⟩, ⟨by (with_reducible repeat (first | refine blk_drewN ?_ _ | refine blk_drew ?_ | refine blk_alloc ?_ _)); exact BK229.out⟩, ⟨mB⟩⟩
          · rw [if_neg c7] at H
            have c7b0 : (a0_0 == a1_0) = false := beq_eq_false_iff_ne.mpr c7
            have c7b1 : (a0_0 != a1_0) = true := bne_iff_ne.mpr c7
            obtain rfl := Option.some.inj H
            have hnb11 := NB228_229.out
            have hnc11 := NB229_228.out
            have hcz12_0 : wr.cell? ⟨gb228, 0, none⟩ = some (.int .u8 a0_0) := (blk_cell BK228.out 0).trans rfl
            have hcz12_1 : wr.cell? ⟨gb228, 1, none⟩ = some (.int .u8 a0_1) := (blk_cell BK228.out 1).trans rfl
            have hcz12_2 : wr.cell? ⟨gb228, 2, none⟩ = some (.int .u8 a0_2) := (blk_cell BK228.out 2).trans rfl
            have hfz12_0 := blk_frozen BK228.out 0
            have hfz12_1 := blk_frozen BK228.out 1
            have hfz12_2 := blk_frozen BK228.out 2
            have hcz13_0 : wr.cell? ⟨gb229, 0, none⟩ = some (.int .u8 a1_0) := (blk_cell BK229.out 0).trans rfl
            have hcz13_1 : wr.cell? ⟨gb229, 1, none⟩ = some (.int .u8 a1_1) := (blk_cell BK229.out 1).trans rfl
            have hcz13_2 : wr.cell? ⟨gb229, 2, none⟩ = some (.int .u8 a1_2) := (blk_cell BK229.out 2).trans rfl
            have hfz13_0 := blk_frozen BK229.out 0
            have hfz13_1 := blk_frozen BK229.out 1
            have hfz13_2 := blk_frozen BK229.out 2
            go_wp2
            repeat (go_quiet (fail); try go_wp2)
            go_ret
            exact ⟨mE, mB⟩
        · rw [if_neg c6] at H
          by_cases c14 : x5_1 = 1
          · subst c14
            have H1 : (if a0_1 = a1_1 then (laws_eqExps.l0 k1 (1 + 1) a0_0 a0_1 a0_2 a1_0 a1_1 a1_2) else (some false)) = some r := by rw [if_pos rfl] at H; exact H
            clear H
            have H := H1
            clear H1
            by_cases c15 : a0_1 = a1_1
            · rw [if_pos c15] at H
              have c15b0 : (a0_1 == a1_1) = true := beq_iff_eq.mpr c15
              have c15b1 : (a0_1 != a1_1) = false := bne_eq_false_iff_eq.mpr c15
              clear c15
              have H' := Aside0.mk H
              clear H
              have hnb16 := NB228_229.out
              have hnc16 := NB229_228.out
              have hcz17_0 : wr.cell? ⟨gb228, 0, none⟩ = some (.int .u8 a0_0) := (blk_cell BK228.out 0).trans rfl
              have hcz17_1 : wr.cell? ⟨gb228, 1, none⟩ = some (.int .u8 a0_1) := (blk_cell BK228.out 1).trans rfl
              have hcz17_2 : wr.cell? ⟨gb228, 2, none⟩ = some (.int .u8 a0_2) := (blk_cell BK228.out 2).trans rfl
              have hfz17_0 := blk_frozen BK228.out 0
              have hfz17_1 := blk_frozen BK228.out 1
              have hfz17_2 := blk_frozen BK228.out 2
              have hcz18_0 : wr.cell? ⟨gb229, 0, none⟩ = some (.int .u8 a1_0) := (blk_cell BK229.out 0).trans rfl
              have hcz18_1 : wr.cell? ⟨gb229, 1, none⟩ = some (.int .u8 a1_1) := (blk_cell BK229.out 1).trans rfl
              have hcz18_2 : wr.cell? ⟨gb229, 2, none⟩ = some (.int .u8 a1_2) := (blk_cell BK229.out 2).trans rfl
              have hfz18_0 := blk_frozen BK229.out 0
              have hfz18_1 := blk_frozen BK229.out 1
              have hfz18_2 := blk_frozen BK229.out 2
              go_wp2
              repeat (go_quiet (fail); try go_wp2)
              go_roundg k1
              case measure => have := HK1.out; omega
              case rel => exact ⟨(1 + 1), mF, H', ⟨by have := HK1.out; omega⟩, ⟨by (with_reducible repeat (first | refine blk_drewN ?_ _ | refine blk_drew ?_ | refine blk_alloc ?_ _)); exact BK228.out⟩, ⟨by (with_reducible repeat (first | refine blk_drewN ?_ _ | refine blk_drew ?_ | refine blk_alloc ?_ _)); exact BK229.out⟩, ⟨mB⟩⟩
            · rw [if_neg c15] at H
              have c15b0 : (a0_1 == a1_1) = false := beq_eq_false_iff_ne.mpr c15
              have c15b1 : (a0_1 != a1_1) = true := bne_iff_ne.mpr c15
              obtain rfl := Option.some.inj H
              have hnb19 := NB228_229.out
              have hnc19 := NB229_228.out
              have hcz20_0 : wr.cell? ⟨gb228, 0, none⟩ = some (.int .u8 a0_0) := (blk_cell BK228.out 0).trans rfl
              have hcz20_1 : wr.cell? ⟨gb228, 1, none⟩ = some (.int .u8 a0_1) := (blk_cell BK228.out 1).trans rfl
              have hcz20_2 : wr.cell? ⟨gb228, 2, none⟩ = some (.int .u8 a0_2) := (blk_cell BK228.out 2).trans rfl
              have hfz20_0 := blk_frozen BK228.out 0
              have hfz20_1 := blk_frozen BK228.out 1
              have hfz20_2 := blk_frozen BK228.out 2
              have hcz21_0 : wr.cell? ⟨gb229, 0, none⟩ = some (.int .u8 a1_0) := (blk_cell BK229.out 0).trans rfl
              have hcz21_1 : wr.cell? ⟨gb229, 1, none⟩ = some (.int .u8 a1_1) := (blk_cell BK229.out 1).trans rfl
              have hcz21_2 : wr.cell? ⟨gb229, 2, none⟩ = some (.int .u8 a1_2) := (blk_cell BK229.out 2).trans rfl
              have hfz21_0 := blk_frozen BK229.out 0
              have hfz21_1 := blk_frozen BK229.out 1
              have hfz21_2 := blk_frozen BK229.out 2
              go_wp2
              repeat (go_quiet (fail); try go_wp2)
              go_ret
              exact ⟨mE, mB⟩
          · rw [if_neg c14] at H
            by_cases c22 : x5_1 = 2
            · subst c22
              have H1 : (if a0_2 = a1_2 then (laws_eqExps.l0 k1 (2 + 1) a0_0 a0_1 a0_2 a1_0 a1_1 a1_2) else (some false)) = some r := by rw [if_pos rfl] at H; exact H
              clear H
              have H := H1
              clear H1
              by_cases c23 : a0_2 = a1_2
              · rw [if_pos c23] at H
                have c23b0 : (a0_2 == a1_2) = true := beq_iff_eq.mpr c23
                have c23b1 : (a0_2 != a1_2) = false := bne_eq_false_iff_eq.mpr c23
                clear c23
                have H' := Aside0.mk H
                clear H
                have hnb24 := NB228_229.out
                have hnc24 := NB229_228.out
                have hcz25_0 : wr.cell? ⟨gb228, 0, none⟩ = some (.int .u8 a0_0) := (blk_cell BK228.out 0).trans rfl
                have hcz25_1 : wr.cell? ⟨gb228, 1, none⟩ = some (.int .u8 a0_1) := (blk_cell BK228.out 1).trans rfl
                have hcz25_2 : wr.cell? ⟨gb228, 2, none⟩ = some (.int .u8 a0_2) := (blk_cell BK228.out 2).trans rfl
                have hfz25_0 := blk_frozen BK228.out 0
                have hfz25_1 := blk_frozen BK228.out 1
                have hfz25_2 := blk_frozen BK228.out 2
                have hcz26_0 : wr.cell? ⟨gb229, 0, none⟩ = some (.int .u8 a1_0) := (blk_cell BK229.out 0).trans rfl
                have hcz26_1 : wr.cell? ⟨gb229, 1, none⟩ = some (.int .u8 a1_1) := (blk_cell BK229.out 1).trans rfl
                have hcz26_2 : wr.cell? ⟨gb229, 2, none⟩ = some (.int .u8 a1_2) := (blk_cell BK229.out 2).trans rfl
                have hfz26_0 := blk_frozen BK229.out 0
                have hfz26_1 := blk_frozen BK229.out 1
                have hfz26_2 := blk_frozen BK229.out 2
                go_wp2
                repeat (go_quiet (fail); try go_wp2)
                go_roundg k1
                case measure => have := HK1.out; omega
                case rel => exact ⟨(2 + 1), mF, H', ⟨by have := HK1.out; omega⟩, ⟨by (with_reducible repeat (first | refine blk_drewN ?_ _ | refine blk_drew ?_ | refine blk_alloc ?_ _)); exact BK228.out⟩, ⟨by (with_reducible repeat (first | refine blk_drewN ?_ _ | refine blk_drew ?_ | refine blk_alloc ?_ _)); exact BK229.out⟩, ⟨mB⟩⟩
              · rw [if_neg c23] at H
                have c23b0 : (a0_2 == a1_2) = false := beq_eq_false_iff_ne.mpr c23
                have c23b1 : (a0_2 != a1_2) = true := bne_iff_ne.mpr c23
                obtain rfl := Option.some.inj H
                have hnb27 := NB228_229.out
                have hnc27 := NB229_228.out
                have hcz28_0 : wr.cell? ⟨gb228, 0, none⟩ = some (.int .u8 a0_0) := (blk_cell BK228.out 0).trans rfl
                have hcz28_1 : wr.cell? ⟨gb228, 1, none⟩ = some (.int .u8 a0_1) := (blk_cell BK228.out 1).trans rfl
                have hcz28_2 : wr.cell? ⟨gb228, 2, none⟩ = some (.int .u8 a0_2) := (blk_cell BK228.out 2).trans rfl
                have hfz28_0 := blk_frozen BK228.out 0
                have hfz28_1 := blk_frozen BK228.out 1
                have hfz28_2 := blk_frozen BK228.out 2
                have hcz29_0 : wr.cell? ⟨gb229, 0, none⟩ = some (.int .u8 a1_0) := (blk_cell BK229.out 0).trans rfl
                have hcz29_1 : wr.cell? ⟨gb229, 1, none⟩ = some (.int .u8 a1_1) := (blk_cell BK229.out 1).trans rfl
                have hcz29_2 : wr.cell? ⟨gb229, 2, none⟩ = some (.int .u8 a1_2) := (blk_cell BK229.out 2).trans rfl
                have hfz29_0 := blk_frozen BK229.out 0
                have hfz29_1 := blk_frozen BK229.out 1
                have hfz29_2 := blk_frozen BK229.out 2
                go_wp2
                repeat (go_quiet (fail); try go_wp2)
                go_ret
                exact ⟨mE, mB⟩
            · rw [if_neg c22] at H
              exact absurd H (by simp)
      · rw [if_neg c5] at H
        have c5b0 : decide (x5_1 < 3) = false := decide_eq_false c5
        clear c5
        obtain rfl := Option.some.inj H
        go_wp2
        repeat (go_quiet (fail); try go_wp2)
        go_ret
        exact ⟨mE, mB⟩

end Go.Proofs.Ytdnpenpfadfehaa.EFnExactRowOfPoly
