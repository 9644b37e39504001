/- The functions that the law uses, as plain functions, and that the code comes to what they say. -/
import Derived.Test.YtpeihdjefpnoaaaEFnExactFreeNumberx0
namespace Go.Proofs.Ytpeihdjefpnoaaa.EFnExactFreeNumber
open Go.RowKit Go.Proofs.YtpeihdjefpnoaaaW.PrintWords Go.Proofs.YtpeihdjefpnoaaaW.PrintLast Go.Proofs.YtpeihdjefpnoaaaW.PrintMore Go.Proofs.YtpeihdjefpnoaaaX
attribute [local go_sem] max2_int min2_int max_two min_two max_three min_three max_four min_four   -- for this text's walks alone
set_option linter.unusedVariables false
set_option linter.unusedSimpArgs false

/-! ### laws_eqExps: function 52 -/
def laws_eqExps.l0 : Nat → Int → Int → Int → Int → Int → Int → Int → Option (Bool)
  | 0, _, _, _, _, _, _, _ => none
  | k + 1, x5, x276000, x276001, x276002, x277000, x277001, x277002 => if x5 < 3 then (if x5 = 0 then (if x276000 = x277000 then (laws_eqExps.l0 k (0 + 1) x276000 x276001 x276002 x277000 x277001 x277002) else (some false)) else (if x5 = 1 then (if x276001 = x277001 then (laws_eqExps.l0 k (1 + 1) x276000 x276001 x276002 x277000 x277001 x277002) else (some false)) else (if x5 = 2 then (if x276002 = x277002 then (laws_eqExps.l0 k (2 + 1) x276000 x276001 x276002 x277000 x277001 x277002) else (some false)) else (none)))) else (some true)
def laws_eqExps.f (k : Nat) (a0_0 : Int) (a0_1 : Int) (a0_2 : Int) (a1_0 : Int) (a1_1 : Int) (a1_2 : Int) : Option (Bool) := laws_eqExps.l0 k 0 a0_0 a0_1 a0_2 a1_0 a1_1 a1_2
theorem laws_eqExps.mono_l : ∀ k, (∀ y0 y1 y2 y3 y4 y5 y6, LeO (laws_eqExps.l0 k y0 y1 y2 y3 y4 y5 y6) (laws_eqExps.l0 (k + 1) y0 y1 y2 y3 y4 y5 y6))
  | 0 => fun _ _ _ _ _ _ _ r h => by simp [laws_eqExps.l0] at h
  | k + 1 => by
    have ih0 := laws_eqExps.mono_l k
    · intro y0 y1 y2 y3 y4 y5 y6
      unfold laws_eqExps.l0
      repeat' first
      | (with_reducible exact ih0 _ _ _ _ _ _ _)
      | (with_reducible exact LeO.refl _)
      | (with_reducible exact LeO.none _)
      | (with_reducible refine LeO.ite ?_ ?_)
      | (with_reducible refine LeO.bind ?_ (fun _ => ?_))
      | exact ih0 _ _ _ _ _ _ _
      | exact LeO.none _
      | refine LeO.ite ?_ ?_
      | refine LeO.bind ?_ (fun _ => ?_)
theorem laws_eqExps.mono : ∀ a0 a1 a2 a3 a4 a5 k, LeO (laws_eqExps.f k a0 a1 a2 a3 a4 a5) (laws_eqExps.f (k + 1) a0 a1 a2 a3 a4 a5) := by
  intro a0 a1 a2 a3 a4 a5 k
  have ih0 := laws_eqExps.mono_l k
  unfold laws_eqExps.f
  repeat' first
      | (with_reducible exact ih0 _ _ _ _ _ _ _)
      | (with_reducible exact LeO.refl _)
      | (with_reducible exact LeO.none _)
      | (with_reducible refine LeO.ite ?_ ?_)
      | (with_reducible refine LeO.bind ?_ (fun _ => ?_))
      | exact ih0 _ _ _ _ _ _ _
      | exact LeO.none _
      | refine LeO.ite ?_ ?_
      | refine LeO.bind ?_ (fun _ => ?_)
set_option maxHeartbeats 8000000 in
set_option maxRecDepth 100000 in
theorem laws_eqExps.calls (k : Nat) (a0_0 : Int) (a0_1 : Int) (a0_2 : Int) (a1_0 : Int) (a1_1 : Int) (a1_2 : Int) (r : Bool) (w : World) (h : laws_eqExps.f k a0_0 a0_1 a0_2 a1_0 a1_1 a1_2 = some r) :
    Calls Try.prog 52 #[.agg #[.int .u8 a0_0, .int .u8 a0_1, .int .u8 a0_2], .agg #[.int .u8 a1_0, .int .u8 a1_1, .int .u8 a1_2]] w fun e w' => e = .returned (.bool r) ∧ Below w.heap.size w w' := by
  have hu64 := Try.underlying64
  have HB := Aside0.mk (Below.refl w.heap.size w)
  have H : (laws_eqExps.l0 k 0 a0_0 a0_1 a0_2 a1_0 a1_1 a1_2) = some r := h
  clear h
  have H' := Aside0.mk H
  clear H
  go_enter Try.func52, Try.ntmps52
  go_wp2_with (first | ((with_reducible refine gate_dst (N := 2) rfl ?_); refine box_event ?hg (N := 2) ?hd (cs := #[.int .u8 a0_0, .int .u8 a0_1, .int .u8 a0_2]) (t := 64) ?hr ?_; (case hd => rfl); (case hg => rfl); (case hr => first | (go_simp; done) | (go_simp; rfl)); intro gb275 hg w3 hbox hb; have n0_ := Aside0.mk (below_step mB hb); have n1_ := Aside0.mk (hbox); have n2_ := Aside0.mk ((mG : w.heap.size ≤ gb275)); have n3_ := Aside0.mk ((mG : w.heap.size ≤ gb275)); clear HB; have HB := n0_; have BK275 := n1_; have GW275 := n2_; have GE275 := n3_; clear n0_ n1_ n2_ n3_; clear hb hbox hg) | ((with_reducible refine gate_dst (N := 3) rfl ?_); refine box_event ?hg (N := 3) ?hd (cs := #[.int .u8 a1_0, .int .u8 a1_1, .int .u8 a1_2]) (t := 64) ?hr ?_; (case hd => rfl); (case hg => rfl); (case hr => first | (go_simp; done) | (go_simp; rfl)); intro gb276 hg w4 hbox hb; have n0_ := Aside0.mk (blk_below (g := gb275) (o := .cells #[.int .u8 a0_0, .int .u8 a0_1, .int .u8 a0_2] 64 (0, 0)) (mk BK275.out) hb); have n1_ := Aside0.mk (below_step mB hb); have n2_ := Aside0.mk (hbox); have n3_ := Aside0.mk ((mG : w.heap.size ≤ gb276)); have n4_ := Aside0.mk ((mG : w.heap.size ≤ gb276)); have n5_ := Aside0.mk ((by rw [hg]; exact Nat.ne_of_lt (blk_lt (g := gb275) (o := .cells #[.int .u8 a0_0, .int .u8 a0_1, .int .u8 a0_2] 64 (0, 0)) (mk BK275.out)) : gb275 ≠ gb276)); have n6_ := Aside0.mk ((by rw [hg]; exact Nat.ne_of_gt (blk_lt (g := gb275) (o := .cells #[.int .u8 a0_0, .int .u8 a0_1, .int .u8 a0_2] 64 (0, 0)) (mk BK275.out)) : gb276 ≠ gb275)); clear BK275; clear HB; have BK275 := n0_; have HB := n1_; have BK276 := n2_; have GW276 := n3_; have GE276 := n4_; have NB275_276 := n5_; have NB276_275 := n6_; clear n0_ n1_ n2_ n3_ n4_ n5_ n6_; clear hb hbox hg))
  repeat (go_quiet (first | ((with_reducible refine gate_dst (N := 2) rfl ?_); refine box_event ?hg (N := 2) ?hd (cs := #[.int .u8 a0_0, .int .u8 a0_1, .int .u8 a0_2]) (t := 64) ?hr ?_; (case hd => rfl); (case hg => rfl); (case hr => first | (go_simp; done) | (go_simp; rfl)); intro gb275 hg w3 hbox hb; have n0_ := Aside0.mk (below_step mB hb); have n1_ := Aside0.mk (hbox); have n2_ := Aside0.mk ((mG : w.heap.size ≤ gb275)); have n3_ := Aside0.mk ((mG : w.heap.size ≤ gb275)); clear HB; have HB := n0_; have BK275 := n1_; have GW275 := n2_; have GE275 := n3_; clear n0_ n1_ n2_ n3_; clear hb hbox hg) | ((with_reducible refine gate_dst (N := 3) rfl ?_); refine box_event ?hg (N := 3) ?hd (cs := #[.int .u8 a1_0, .int .u8 a1_1, .int .u8 a1_2]) (t := 64) ?hr ?_; (case hd => rfl); (case hg => rfl); (case hr => first | (go_simp; done) | (go_simp; rfl)); intro gb276 hg w4 hbox hb; have n0_ := Aside0.mk (blk_below (g := gb275) (o := .cells #[.int .u8 a0_0, .int .u8 a0_1, .int .u8 a0_2] 64 (0, 0)) (mk BK275.out) hb); have n1_ := Aside0.mk (below_step mB hb); have n2_ := Aside0.mk (hbox); have n3_ := Aside0.mk ((mG : w.heap.size ≤ gb276)); have n4_ := Aside0.mk ((mG : w.heap.size ≤ gb276)); have n5_ := Aside0.mk ((by rw [hg]; exact Nat.ne_of_lt (blk_lt (g := gb275) (o := .cells #[.int .u8 a0_0, .int .u8 a0_1, .int .u8 a0_2] 64 (0, 0)) (mk BK275.out)) : gb275 ≠ gb276)); have n6_ := Aside0.mk ((by rw [hg]; exact Nat.ne_of_gt (blk_lt (g := gb275) (o := .cells #[.int .u8 a0_0, .int .u8 a0_1, .int .u8 a0_2] 64 (0, 0)) (mk BK275.out)) : gb276 ≠ gb275)); clear BK275; clear HB; have BK275 := n0_; have HB := n1_; have BK276 := n2_; have GW276 := n3_; have GE276 := n4_; have NB275_276 := n5_; have NB276_275 := n6_; clear n0_ n1_ n2_ n3_ n4_ n5_ n6_; clear hb hbox hg)); try go_wp2_with (first | ((with_reducible refine gate_dst (N := 2) rfl ?_); refine box_event ?hg (N := 2) ?hd (cs := #[.int .u8 a0_0, .int .u8 a0_1, .int .u8 a0_2]) (t := 64) ?hr ?_; (case hd => rfl); (case hg => rfl); (case hr => first | (go_simp; done) | (go_simp; rfl)); intro gb275 hg w3 hbox hb; have n0_ := Aside0.mk (below_step mB hb); have n1_ := Aside0.mk (hbox); have n2_ := Aside0.mk ((mG : w.heap.size ≤ gb275)); have n3_ := Aside0.mk ((mG : w.heap.size ≤ gb275)); clear HB; have HB := n0_; have BK275 := n1_; have GW275 := n2_; have GE275 := n3_; clear n0_ n1_ n2_ n3_; clear hb hbox hg) | ((with_reducible refine gate_dst (N := 3) rfl ?_); refine box_event ?hg (N := 3) ?hd (cs := #[.int .u8 a1_0, .int .u8 a1_1, .int .u8 a1_2]) (t := 64) ?hr ?_; (case hd => rfl); (case hg => rfl); (case hr => first | (go_simp; done) | (go_simp; rfl)); intro gb276 hg w4 hbox hb; have n0_ := Aside0.mk (blk_below (g := gb275) (o := .cells #[.int .u8 a0_0, .int .u8 a0_1, .int .u8 a0_2] 64 (0, 0)) (mk BK275.out) hb); have n1_ := Aside0.mk (below_step mB hb); have n2_ := Aside0.mk (hbox); have n3_ := Aside0.mk ((mG : w.heap.size ≤ gb276)); have n4_ := Aside0.mk ((mG : w.heap.size ≤ gb276)); have n5_ := Aside0.mk ((by rw [hg]; exact Nat.ne_of_lt (blk_lt (g := gb275) (o := .cells #[.int .u8 a0_0, .int .u8 a0_1, .int .u8 a0_2] 64 (0, 0)) (mk BK275.out)) : gb275 ≠ gb276)); have n6_ := Aside0.mk ((by rw [hg]; exact Nat.ne_of_gt (blk_lt (g := gb275) (o := .cells #[.int .u8 a0_0, .int .u8 a0_1, .int .u8 a0_2] 64 (0, 0)) (mk BK275.out)) : gb276 ≠ gb275)); clear BK275; clear HB; have BK275 := n0_; have HB := n1_; have BK276 := n2_; have GW276 := n3_; have GE276 := n4_; have NB275_276 := n5_; have NB276_275 := n6_; clear n0_ n1_ n2_ n3_ n4_ n5_ n6_; clear hb hbox hg)))
  go_loopg [5] k (fun kq v5 w' => ∃ (x5_1 : Int), v5 = .int .i64 x5_1 ∧ Aside0 (laws_eqExps.l0 kq x5_1 a0_0 a0_1 a0_2 a1_0 a1_1 a1_2 = some r) ∧ Aside0 (kq ≤ k) ∧ Aside0 (w'.heap[gb275]? = some (.cells #[.int .u8 a0_0, .int .u8 a0_1, .int .u8 a0_2] 64 (0, 0))) ∧ Aside0 (w'.heap[gb276]? = some (.cells #[.int .u8 a1_0, .int .u8 a1_1, .int .u8 a1_2] 64 (0, 0))) ∧ Aside0 (Below w.heap.size w w'))
  case atStart => exact ⟨(0), mF, H', ⟨Nat.le_refl _⟩, ⟨by (with_reducible repeat (first | refine blk_drewN ?_ _ | refine blk_drew ?_ | refine blk_alloc ?_ _)); exact BK275.out⟩, ⟨by (with_reducible repeat (first | refine blk_drewN ?_ _ | refine blk_drew ?_ | refine blk_alloc ?_ _)); exact BK276.out⟩, ⟨mB⟩⟩
  case round =>
    clear H'
    try clear p2
    obtain ⟨x5_1, rfl, HA, HK1, BK275, BK276, HB⟩ := hrel
    cases gk with
    | zero => exact absurd HA.out (by simp [laws_eqExps.l0])
    | succ k1 =>
      have H := HA.out
      clear HA
      simp only [laws_eqExps.l0] at H
      by_cases c5 : x5_1 < 3
      · rw [if_pos c5] at H
        have c5b0 : decide (x5_1 < 3) = true := decide_eq_true c5
        clear c5
        by_cases c6 : x5_1 = 0
        · subst c6
          have H1 : (if a0_0 = a1_0 then (laws_eqExps.l0 k1 (0 + 1) a0_0 a0_1 a0_2 a1_0 a1_1 a1_2) else (some false)) = some r := by rw [if_pos rfl] at H; exact H
          clear H
          have H := H1
          clear H1
          by_cases c7 : a0_0 = a1_0
          · rw [if_pos c7] at H
            have c7b0 : (a0_0 == a1_0) = true := beq_iff_eq.mpr c7
            have c7b1 : (a0_0 != a1_0) = false := bne_eq_false_iff_eq.mpr c7
            clear c7
            have H' := Aside0.mk H
            clear H
            have hnb8 := NB275_276.out
            have hnc8 := NB276_275.out
            have hcz9_0 : wr.cell? ⟨gb275, 0, none⟩ = some (.int .u8 a0_0) := (blk_cell BK275.out 0).trans rfl
            have hcz9_1 : wr.cell? ⟨gb275, 1, none⟩ = some (.int .u8 a0_1) := (blk_cell BK275.out 1).trans rfl
            have hcz9_2 : wr.cell? ⟨gb275, 2, none⟩ = some (.int .u8 a0_2) := (blk_cell BK275.out 2).trans rfl
            have hfz9_0 := blk_frozen BK275.out 0
            have hfz9_1 := blk_frozen BK275.out 1
            have hfz9_2 := blk_frozen BK275.out 2
            have hcz10_0 : wr.cell? ⟨gb276, 0, none⟩ = some (.int .u8 a1_0) := (blk_cell BK276.out 0).trans rfl
            have hcz10_1 : wr.cell? ⟨gb276, 1, none⟩ = some (.int .u8 a1_1) := (blk_cell BK276.out 1).trans rfl
            have hcz10_2 : wr.cell? ⟨gb276, 2, none⟩ = some (.int .u8 a1_2) := (blk_cell BK276.out 2).trans rfl
            have hfz10_0 := blk_frozen BK276.out 0
            have hfz10_1 := blk_frozen BK276.out 1
            have hfz10_2 := blk_frozen BK276.out 2
            go_wp2
            repeat (go_quiet (fail); try go_wp2)
            go_roundg k1
            case measure => have := HK1.out; omega
            case rel => exact ⟨(0 + 1), mF, H', ⟨by have := HK1.out; omega⟩, ⟨by (with_reducible repeat (first | refine blk_drewN ?_ _ | refine blk_drew ?_ | refine blk_alloc ?_ _)); exact BK275.out⟩, ⟨by (with_reducible repeat (first | refine blk_drewN ?_ _ | refine blk_drew ?_ | refine blk_alloc ?_ _)); exact BK276.out⟩, ⟨mB⟩⟩
          · rw [if_neg c7] at H
            have c7b0 : (a0_0 == a1_0) = false := beq_eq_false_iff_ne.mpr c7
            have c7b1 : (a0_0 != a1_0) = true := bne_iff_ne.mpr c7
            obtain rfl := Option.some.inj H
            have hnb11 := NB275_276.out
            have hnc11 := NB276_275.out
            have hcz12_0 : wr.cell? ⟨gb275, 0, none⟩ = some (.int .u8 a0_0) := (blk_cell BK275.out 0).trans rfl
            have hcz12_1 : wr.cell? ⟨gb275, 1, none⟩ = some (.int .u8 a0_1) := (blk_cell BK275.out 1).trans rfl
            have hcz12_2 : wr.cell? ⟨gb275, 2, none⟩ = some (.int .u8 a0_2) := (blk_cell BK275.out 2).trans rfl
            have hfz12_0 := blk_frozen BK275.out 0
            have hfz12_1 := blk_frozen BK275.out 1
            have hfz12_2 := blk_frozen BK275.out 2
            have hcz13_0 : wr.cell? ⟨gb276, 0, none⟩ = some (.int .u8 a1_0) := (blk_cell BK276.out 0).trans rfl
            have hcz13_1 : wr.cell? ⟨gb276, 1, none⟩ = some (.int .u8 a1_1) := (blk_cell BK276.out 1).trans rfl
            have hcz13_2 : wr.cell? ⟨gb276, 2, none⟩ = some (.int .u8 a1_2) := (blk_cell BK276.out 2).trans rfl
            have hfz13_0 := blk_frozen BK276.out 0
            have hfz13_1 := blk_frozen BK276.out 1
            have hfz13_2 := blk_frozen BK276.out 2
            go_wp2
            repeat (go_quiet (fail); try go_wp2)
            go_ret
            exact ⟨mE, mB⟩
        · rw [if_neg c6] at H
          by_cases c14 : x5_1 = 1
          · subst c14
            have H1 : (if a0_1 = a1_1 then (laws_eqExps.l0 k1 (1 + 1) a0_0 a0_1 a0_2 a1_0 a1_1 a1_2) else (some false)) = some r := by rw [if_pos rfl] at H; exact H
            clear H
            have H := H1
            clear H1
            by_cases c15 : a0_1 = a1_1
            · rw [if_pos c15] at H
              have c15b0 : (a0_1 == a1_1) = true := beq_iff_eq.mpr c15
              have c15b1 : (a0_1 != a1_1) = false := bne_eq_false_iff_eq.mpr c15
              clear c15
              have H' := Aside0.mk H
              clear H
              have hnb16 := NB275_276.out
              have hnc16 := NB276_275.out
              have hcz17_0 : wr.cell? ⟨gb275, 0, none⟩ = some (.int .u8 a0_0) := (blk_cell BK275.out 0).trans rfl
              have hcz17_1 : wr.cell? ⟨gb275, 1, none⟩ = some (.int .u8 a0_1) := (blk_cell BK275.out 1).trans rfl
              have hcz17_2 : wr.cell? ⟨gb275, 2, none⟩ = some (.int .u8 a0_2) := (blk_cell BK275.out 2).trans rfl
              have hfz17_0 := blk_frozen BK275.out 0
              have hfz17_1 := blk_frozen BK275.out 1
              have hfz17_2 := blk_frozen BK275.out 2
              have hcz18_0 : wr.cell? ⟨gb276, 0, none⟩ = some (.int .u8 a1_0) := (blk_cell BK276.out 0).trans rfl
              have hcz18_1 : wr.cell? ⟨gb276, 1, none⟩ = some (.int .u8 a1_1) := (blk_cell BK276.out 1).trans rfl
              have hcz18_2 : wr.cell? ⟨gb276, 2, none⟩ = some (.int .u8 a1_2) := (blk_cell BK276.out 2).trans rfl
              have hfz18_0 := blk_frozen BK276.out 0
              have hfz18_1 := blk_frozen BK276.out 1
              have hfz18_2 := blk_frozen BK276.out 2
              go_wp2
              repeat (go_quiet (fail); try go_wp2)
              go_roundg k1
              case measure => have := HK1.out; omega
              case rel => exact ⟨(1 + 1), mF, H', ⟨by have := HK1.out; omega⟩, ⟨by (with_reducible repeat (first | refine blk_drewN ?_ _ | refine blk_drew ?_ | refine blk_alloc ?_ _)); exact BK275.out⟩, ⟨by (with_reducible repeat (first | refine blk_drewN ?_ _ | refine blk_drew ?_ | refine blk_alloc ?_ _)); exact BK276.out⟩, ⟨mB⟩⟩
            · rw [if_neg c15] at H
              have c15b0 : (a0_1 == a1_1) = false := beq_eq_false_iff_ne.mpr c15
              have c15b1 : (a0_1 != a1_1) = true := bne_iff_ne.mpr c15
              obtain rfl := Option.some.inj H
              have hnb19 := NB275_276.out
              have hnc19 := NB276_275.out
              have hcz20_0 : wr.cell? ⟨gb275, 0, none⟩ = some (.int .u8 a0_0) := (blk_cell BK275.out 0).trans rfl
              have hcz20_1 : wr.cell? ⟨gb275, 1, none⟩ = some (.int .u8 a0_1) := (blk_cell BK275.out 1).trans rfl
              have hcz20_2 : wr.cell? ⟨gb275, 2, none⟩ = some (.int .u8 a0_2) := (blk_cell BK275.out 2).trans rfl
              have hfz20_0 := blk_frozen BK275.out 0
              have hfz20_1 := blk_frozen BK275.out 1
              have hfz20_2 := blk_frozen BK275.out 2
              have hcz21_0 : wr.cell? ⟨gb276, 0, none⟩ = some (.int .u8 a1_0) := (blk_cell BK276.out 0).trans rfl
              have hcz21_1 : wr.cell? ⟨gb276, 1, none⟩ = some (.int .u8 a1_1) := (blk_cell BK276.out 1).trans rfl
              have hcz21_2 : wr.cell? ⟨gb276, 2, none⟩ = some (.int .u8 a1_2) := (blk_cell BK276.out 2).trans rfl
              have hfz21_0 := blk_frozen BK276.out 0
              have hfz21_1 := blk_frozen BK276.out 1
              have hfz21_2 := blk_frozen BK276.out 2
              go_wp2
              repeat (go_quiet (fail); try go_wp2)
              go_ret
              exact ⟨mE, mB⟩
          · rw [if_neg c14] at H
            by_cases c22 : x5_1 = 2
            · subst c22
              have H1 : (if a0_2 = a1_2 then (laws_eqExps.l0 k1 (2 + 1) a0_0 a0_1 a0_2 a1_0 a1_1 a1_2) else (some false)) = some r := by rw [if_pos rfl] at H; exact H
              clear H
              have H := H1
              clear H1
              by_cases c23 : a0_2 = a1_2
              · rw [if_pos c23] at H
                have c23b0 : (a0_2 == a1_2) = true := beq_iff_eq.mpr c23
                have c23b1 : (a0_2 != a1_2) = false := bne_eq_false_iff_eq.mpr c23
                clear c23
                have H' := Aside0.mk H
                clear H
                have hnb24 := NB275_276.out
                have hnc24 := NB276_275.out
                have hcz25_0 : wr.cell? ⟨gb275, 0, none⟩ = some (.int .u8 a0_0) := (blk_cell BK275.out 0).trans rfl
                have hcz25_1 : wr.cell? ⟨gb275, 1, none⟩ = some (.int .u8 a0_1) := (blk_cell BK275.out 1).trans rfl
                have hcz25_2 : wr.cell? ⟨gb275, 2, none⟩ = some (.int .u8 a0_2) := (blk_cell BK275.out 2).trans rfl
                have hfz25_0 := blk_frozen BK275.out 0
                have hfz25_1 := blk_frozen BK275.out 1
                have hfz25_2 := blk_frozen BK275.out 2
                have hcz26_0 : wr.cell? ⟨gb276, 0, none⟩ = some (.int .u8 a1_0) := (blk_cell BK276.out 0).trans rfl
                have hcz26_1 : wr.cell? ⟨gb276, 1, none⟩ = some (.int .u8 a1_1) := (blk_cell BK276.out 1).trans rfl
                have hcz26_2 : wr.cell? ⟨gb276, 2, none⟩ = some (.int .u8 a1_2) := (blk_cell BK276.out 2).trans rfl
                have hfz26_0 := blk_frozen BK276.out 0
                have hfz26_1 := blk_frozen BK276.out 1
                have hfz26_2 := blk_frozen BK276.out 2
                go_wp2
                repeat (go_quiet (fail); try go_wp2)
                go_roundg k1
                case measure => have := HK1.out; omega
                case rel => exact ⟨(2 + 1), mF, H', ⟨by have := HK1.out; omega⟩, ⟨by (with_reducible repeat (first | refine blk_drewN ?_ _ | refine blk_drew ?_ | refine blk_alloc ?_ _)); exact BK275.out⟩, ⟨by (with_reducible repeat (first | refine blk_drewN ?_ _ | refine blk_drew ?_ | refine blk_alloc ?_ _)); exact BK276.out⟩, ⟨mB⟩⟩
              · rw [if_neg c23] at H
                have c23b0 : (a0_2 == a1_2) = false := beq_eq_false_iff_ne.mpr c23
                have c23b1 : (a0_2 != a1_2) = true := bne_iff_ne.mpr c23
                obtain rfl := Option.some.inj H
                have hnb27 := NB275_276.out
                have hnc27 := NB276_275.out
                have hcz28_0 : wr.cell? ⟨gb275, 0, none⟩ = some (.int .u8 a0_0) := (blk_cell BK275.out 0).trans rfl
                have hcz28_1 : wr.cell? ⟨gb275, 1, none⟩ = some (.int .u8 a0_1) := (blk_cell BK275.out 1).trans rfl
                have hcz28_2 : wr.cell? ⟨gb275, 2, none⟩ = some (.int .u8 a0_2) := (blk_cell BK275.out 2).trans rfl
                have hfz28_0 := blk_frozen BK275.out 0
                have hfz28_1 := blk_frozen BK275.out 1
                have hfz28_2 := blk_frozen BK275.out 2
                have hcz29_0 : wr.cell? ⟨gb276, 0, none⟩ = some (.int .u8 a1_0) := (blk_cell BK276.out 0).trans rfl
                have hcz29_1 : wr.cell? ⟨gb276, 1, none⟩ = some (.int .u8 a1_1) := (blk_cell BK276.out 1).trans rfl
                have hcz29_2 : wr.cell? ⟨gb276, 2, none⟩ = some (.int .u8 a1_2) := (blk_cell BK276.out 2).trans rfl
                have hfz29_0 := blk_frozen BK276.out 0
                have hfz29_1 := blk_frozen BK276.out 1
                have hfz29_2 := blk_frozen BK276.out 2
                go_wp2
                repeat (go_quiet (fail); try go_wp2)
                go_ret
                exact ⟨mE, mB⟩
            · rw [if_neg c22] at H
              exact absurd H (by simp)
      · rw [if_neg c5] at H
        have c5b0 : decide (x5_1 < 3) = false := decide_eq_false c5
        clear c5
        obtain rfl := Option.some.inj H
        go_wp2
        repeat (go_quiet (fail); try go_wp2)
        go_ret
        exact ⟨mE, mB⟩

/-! ### laws_eqTerm: function 45 -/
def laws_eqTerm.f (k : Nat) (a0_0 : Int) (a0_1 : Int) (a0_2 : Int) (a0_3 : Int) (a1_0 : Int) (a1_1 : Int) (a1_2 : Int) (a1_3 : Int) : Option (Bool) := (laws_eqExps.f k a0_0 a0_1 a0_2 a1_0 a1_1 a1_2).bind fun t279 => (if t279 = true then (if a0_3 = a1_3 then (some true) else (some false)) else (some false))
theorem laws_eqTerm.mono : ∀ a0 a1 a2 a3 a4 a5 a6 a7 k, LeO (laws_eqTerm.f k a0 a1 a2 a3 a4 a5 a6 a7) (laws_eqTerm.f (k + 1) a0 a1 a2 a3 a4 a5 a6 a7) := by
  intro a0 a1 a2 a3 a4 a5 a6 a7 k
  unfold laws_eqTerm.f
  repeat' first
      | (with_reducible exact laws_eqExps.mono _ _ _ _ _ _ _)
      | (with_reducible exact LeO.refl _)
      | (with_reducible exact LeO.none _)
      | (with_reducible refine LeO.ite ?_ ?_)
      | (with_reducible refine LeO.bind ?_ (fun _ => ?_))
      | exact laws_eqExps.mono _ _ _ _ _ _ _
      | exact LeO.none _
      | refine LeO.ite ?_ ?_
      | refine LeO.bind ?_ (fun _ => ?_)
set_option maxHeartbeats 8000000 in
set_option maxRecDepth 100000 in
theorem laws_eqTerm.calls (k : Nat) (a0_0 : Int) (a0_1 : Int) (a0_2 : Int) (a0_3 : Int) (a1_0 : Int) (a1_1 : Int) (a1_2 : Int) (a1_3 : Int) (r : Bool) (w : World) (h : laws_eqTerm.f k a0_0 a0_1 a0_2 a0_3 a1_0 a1_1 a1_2 a1_3 = some r) :
    Calls Try.prog 45 #[.agg #[.int .u8 a0_0, .int .u8 a0_1, .int .u8 a0_2, .int .i64 a0_3], .agg #[.int .u8 a1_0, .int .u8 a1_1, .int .u8 a1_2, .int .i64 a1_3]] w fun e w' => e = .returned (.bool r) ∧ Below w.heap.size w w' := by
  have hu66 := Try.underlying66
  have hu64 := Try.underlying64
  have HB := Aside0.mk (Below.refl w.heap.size w)
  have H : ((laws_eqExps.f k a0_0 a0_1 a0_2 a1_0 a1_1 a1_2).bind fun t279 => (if t279 = true then (if a0_3 = a1_3 then (some true) else (some false)) else (some false))) = some r := h
  clear h
  replace H := Option.bind_eq_some_iff.mp H
  obtain ⟨t279, A30, H⟩ := H
  replace H : (if t279 = true then (if a0_3 = a1_3 then (some true) else (some false)) else (some false)) = some r := H
  have A3 := Aside0.mk A30
  clear A30
  by_cases c4 : t279 = true
  · subst c4
    have H1 : (if a0_3 = a1_3 then (some true) else (some false)) = some r := by rw [if_pos rfl] at H; exact H
    clear H
    have H := H1
    clear H1
    by_cases c5 : a0_3 = a1_3
    · rw [if_pos c5] at H
      have c5b0 : (a0_3 == a1_3) = true := beq_iff_eq.mpr c5
      have c5b1 : (a0_3 != a1_3) = false := bne_eq_false_iff_eq.mpr c5
      clear c5
      obtain rfl := Option.some.inj H
      go_enter Try.func45, Try.ntmps45
      go_wp2_with (first | ((with_reducible refine gate_dst (N := 2) rfl ?_); refine box_event ?hg (N := 2) ?hd (cs := #[.int .u8 a0_0, .int .u8 a0_1, .int .u8 a0_2, .int .i64 a0_3]) (t := 66) ?hr ?_; (case hd => rfl); (case hg => rfl); (case hr => first | (go_simp; done) | (go_simp; rfl)); intro gb277 hg w6 hbox hb; have n0_ := Aside0.mk (below_step mB hb); have n1_ := Aside0.mk (hbox); have n2_ := Aside0.mk ((mG : w.heap.size ≤ gb277)); have n3_ := Aside0.mk ((mG : w.heap.size ≤ gb277)); clear HB; have HB := n0_; have BK277 := n1_; have GW277 := n2_; have GE277 := n3_; clear n0_ n1_ n2_ n3_; clear hb hbox hg) | ((with_reducible refine gate_dst (N := 3) rfl ?_); refine box_event ?hg (N := 3) ?hd (cs := #[.int .u8 a1_0, .int .u8 a1_1, .int .u8 a1_2, .int .i64 a1_3]) (t := 66) ?hr ?_; (case hd => rfl); (case hg => rfl); (case hr => first | (go_simp; done) | (go_simp; rfl)); intro gb278 hg w7 hbox hb; have n0_ := Aside0.mk (blk_below (g := gb277) (o := .cells #[.int .u8 a0_0, .int .u8 a0_1, .int .u8 a0_2, .int .i64 a0_3] 66 (0, 0)) (mk BK277.out) hb); have n1_ := Aside0.mk (below_step mB hb); have n2_ := Aside0.mk (hbox); have n3_ := Aside0.mk ((mG : w.heap.size ≤ gb278)); have n4_ := Aside0.mk ((mG : w.heap.size ≤ gb278)); have n5_ := Aside0.mk ((by rw [hg]; exact Nat.ne_of_lt (blk_lt (g := gb277) (o := .cells #[.int .u8 a0_0, .int .u8 a0_1, .int .u8 a0_2, .int .i64 a0_3] 66 (0, 0)) (mk BK277.out)) : gb277 ≠ gb278)); have n6_ := Aside0.mk ((by rw [hg]; exact Nat.ne_of_gt (blk_lt (g := gb277) (o := .cells #[.int .u8 a0_0, .int .u8 a0_1, .int .u8 a0_2, .int .i64 a0_3] 66 (0, 0)) (mk BK277.out)) : gb278 ≠ gb277)); clear BK277; clear HB; have BK277 := n0_; have HB := n1_; have BK278 := n2_; have GW278 := n3_; have GE278 := n4_; have NB277_278 := n5_; have NB278_277 := n6_; clear n0_ n1_ n2_ n3_ n4_ n5_ n6_; clear hb hbox hg; have hnb8 := NB277_278.out; have hnc8 := NB278_277.out; have hcz9_0 : w7.cell? ⟨gb277, 0, none⟩ = some (.int .u8 a0_0) := (blk_cell BK277.out 0).trans rfl; have hcz9_1 : w7.cell? ⟨gb277, 1, none⟩ = some (.int .u8 a0_1) := (blk_cell BK277.out 1).trans rfl; have hcz9_2 : w7.cell? ⟨gb277, 2, none⟩ = some (.int .u8 a0_2) := (blk_cell BK277.out 2).trans rfl; have hcz9_3 : w7.cell? ⟨gb277, 3, none⟩ = some (.int .i64 a0_3) := (blk_cell BK277.out 3).trans rfl; have hfz9_0 := blk_frozen BK277.out 0; have hfz9_1 := blk_frozen BK277.out 1; have hfz9_2 := blk_frozen BK277.out 2; have hfz9_3 := blk_frozen BK277.out 3; have hcz10_0 : w7.cell? ⟨gb278, 0, none⟩ = some (.int .u8 a1_0) := (blk_cell BK278.out 0).trans rfl; have hcz10_1 : w7.cell? ⟨gb278, 1, none⟩ = some (.int .u8 a1_1) := (blk_cell BK278.out 1).trans rfl; have hcz10_2 : w7.cell? ⟨gb278, 2, none⟩ = some (.int .u8 a1_2) := (blk_cell BK278.out 2).trans rfl; have hcz10_3 : w7.cell? ⟨gb278, 3, none⟩ = some (.int .i64 a1_3) := (blk_cell BK278.out 3).trans rfl; have hfz10_0 := blk_frozen BK278.out 0; have hfz10_1 := blk_frozen BK278.out 1; have hfz10_2 := blk_frozen BK278.out 2; have hfz10_3 := blk_frozen BK278.out 3) | ((with_reducible refine gate_callee (f := 52) rfl ?_); refine goL (some 9) Try.func52 #[.agg #[.int .u8 a0_0, .int .u8 a0_1, .int .u8 a0_2], .agg #[.int .u8 a1_0, .int .u8 a1_1, .int .u8 a1_2]] (h := ?_); (with_reducible refine (laws_eqExps.calls k a0_0 a0_1 a0_2 a1_0 a1_1 a1_2 true _ A3.out).mono ?_); rintro e w11 ⟨rfl, hb⟩; refine ⟨_, rfl, ?_⟩; have n0_ := Aside0.mk (blk_below (g := gb277) (o := .cells #[.int .u8 a0_0, .int .u8 a0_1, .int .u8 a0_2, .int .i64 a0_3] 66 (0, 0)) (mk BK277.out) hb); have n1_ := Aside0.mk (blk_below (g := gb278) (o := .cells #[.int .u8 a1_0, .int .u8 a1_1, .int .u8 a1_2, .int .i64 a1_3] 66 (0, 0)) (mk BK278.out) hb); have n2_ := Aside0.mk (below_step mB hb); clear BK277; clear BK278; clear HB; have BK277 := n0_; have BK278 := n1_; have HB := n2_; clear n0_ n1_ n2_; (try clear hb); (try clear hb2); (try clear hk); (try clear hi); have hcz12_0 : w11.cell? ⟨gb277, 0, none⟩ = some (.int .u8 a0_0) := (blk_cell BK277.out 0).trans rfl; have hcz12_1 : w11.cell? ⟨gb277, 1, none⟩ = some (.int .u8 a0_1) := (blk_cell BK277.out 1).trans rfl; have hcz12_2 : w11.cell? ⟨gb277, 2, none⟩ = some (.int .u8 a0_2) := (blk_cell BK277.out 2).trans rfl; have hcz12_3 : w11.cell? ⟨gb277, 3, none⟩ = some (.int .i64 a0_3) := (blk_cell BK277.out 3).trans rfl; have hfz12_0 := blk_frozen BK277.out 0; have hfz12_1 := blk_frozen BK277.out 1; have hfz12_2 := blk_frozen BK277.out 2; have hfz12_3 := blk_frozen BK277.out 3; have hcz13_0 : w11.cell? ⟨gb278, 0, none⟩ = some (.int .u8 a1_0) := (blk_cell BK278.out 0).trans rfl; have hcz13_1 : w11.cell? ⟨gb278, 1, none⟩ = some (.int .u8 a1_1) := (blk_cell BK278.out 1).trans rfl; have hcz13_2 : w11.cell? ⟨gb278, 2, none⟩ = some (.int .u8 a1_2) := (blk_cell BK278.out 2).trans rfl; have hcz13_3 : w11.cell? ⟨gb278, 3, none⟩ = some (.int .i64 a1_3) := (blk_cell BK278.out 3).trans rfl; have hfz13_0 := blk_frozen BK278.out 0; have hfz13_1 := blk_frozen BK278.out 1; have hfz13_2 := blk_frozen BK278.out 2; have hfz13_3 := blk_frozen BK278.out 3))
      go_ret
      exact ⟨mE, mB⟩
    · rw [if_neg c5] at H
      have c5b0 : (a0_3 == a1_3) = false := beq_eq_false_iff_ne.mpr c5
      have c5b1 : (a0_3 != a1_3) = true := bne_iff_ne.mpr c5
      obtain rfl := Option.some.inj H
      go_enter Try.func45, Try.ntmps45
      go_wp2_with (first | ((with_reducible refine gate_dst (N := 2) rfl ?_); refine box_event ?hg (N := 2) ?hd (cs := #[.int .u8 a0_0, .int .u8 a0_1, .int .u8 a0_2, .int .i64 a0_3]) (t := 66) ?hr ?_; (case hd => rfl); (case hg => rfl); (case hr => first | (go_simp; done) | (go_simp; rfl)); intro gb277 hg w14 hbox hb; have n0_ := Aside0.mk (below_step mB hb); have n1_ := Aside0.mk (hbox); have n2_ := Aside0.mk ((mG : w.heap.size ≤ gb277)); have n3_ := Aside0.mk ((mG : w.heap.size ≤ gb277)); clear HB; have HB := n0_; have BK277 := n1_; have GW277 := n2_; have GE277 := n3_; clear n0_ n1_ n2_ n3_; clear hb hbox hg) | ((with_reducible refine gate_dst (N := 3) rfl ?_); refine box_event ?hg (N := 3) ?hd (cs := #[.int .u8 a1_0, .int .u8 a1_1, .int .u8 a1_2, .int .i64 a1_3]) (t := 66) ?hr ?_; (case hd => rfl); (case hg => rfl); (case hr => first | (go_simp; done) | (go_simp; rfl)); intro gb278 hg w15 hbox hb; have n0_ := Aside0.mk (blk_below (g := gb277) (o := .cells #[.int .u8 a0_0, .int .u8 a0_1, .int .u8 a0_2, .int .i64 a0_3] 66 (0, 0)) (mk BK277.out) hb); have n1_ := Aside0.mk (below_step mB hb); have n2_ := Aside0.mk (hbox); have n3_ := Aside0.mk ((mG : w.heap.size ≤ gb278)); have n4_ := Aside0.mk ((mG : w.heap.size ≤ gb278)); have n5_ := Aside0.mk ((by rw [hg]; exact Nat.ne_of_lt (blk_lt (g := gb277) (o := .cells #[.int .u8 a0_0, .int .u8 a0_1, .int .u8 a0_2, .int .i64 a0_3] 66 (0, 0)) (mk BK277.out)) : gb277 ≠ gb278)); have n6_ := Aside0.mk ((by rw [hg]; exact Nat.ne_of_gt (blk_lt (g := gb277) (o := .cells #[.int .u8 a0_0, .int .u8 a0_1, .int .u8 a0_2, .int .i64 a0_3] 66 (0, 0)) (mk BK277.out)) : gb278 ≠ gb277)); clear BK277; clear HB; have BK277 := n0_; have HB := n1_; have BK278 := n2_; have GW278 := n3_; have GE278 := n4_; have NB277_278 := n5_; have NB278_277 := n6_; clear n0_ n1_ n2_ n3_ n4_ n5_ n6_; clear hb hbox hg; have hnb16 := NB277_278.out; have hnc16 := NB278_277.out; have hcz17_0 : w15.cell? ⟨gb277, 0, none⟩ = some (.int .u8 a0_0) := (blk_cell BK277.out 0).trans rfl; have hcz17_1 : w15.cell? ⟨gb277, 1, none⟩ = some (.int .u8 a0_1) := (blk_cell BK277.out 1).trans rfl; have hcz17_2 : w15.cell? ⟨gb277, 2, none⟩ = some (.int .u8 a0_2) := (blk_cell BK277.out 2).trans rfl; have hcz17_3 : w15.cell? ⟨gb277, 3, none⟩ = some (.int .i64 a0_3) := (blk_cell BK277.out 3).trans rfl; have hfz17_0 := blk_frozen BK277.out 0; have hfz17_1 := blk_frozen BK277.out 1; have hfz17_2 := blk_frozen BK277.out 2; have hfz17_3 := blk_frozen BK277.out 3; have hcz18_0 : w15.cell? ⟨gb278, 0, none⟩ = some (.int .u8 a1_0) := (blk_cell BK278.out 0).trans rfl; have hcz18_1 : w15.cell? ⟨gb278, 1, none⟩ = some (.int .u8 a1_1) := (blk_cell BK278.out 1).trans rfl; have hcz18_2 : w15.cell? ⟨gb278, 2, none⟩ = some (.int .u8 a1_2) := (blk_cell BK278.out 2).trans rfl; have hcz18_3 : w15.cell? ⟨gb278, 3, none⟩ = some (.int .i64 a1_3) := (blk_cell BK278.out 3).trans rfl; have hfz18_0 := blk_frozen BK278.out 0; have hfz18_1 := blk_frozen BK278.out 1; have hfz18_2 := blk_frozen BK278.out 2; have hfz18_3 := blk_frozen BK278.out 3) | ((with_reducible refine gate_callee (f := 52) rfl ?_); refine goL (some 9) Try.func52 #[.agg #[.int .u8 a0_0, .int .u8 a0_1, .int .u8 a0_2], .agg #[.int .u8 a1_0, .int .u8 a1_1, .int .u8 a1_2]] (h := ?_); (with_reducible refine (laws_eqExps.calls k a0_0 a0_1 a0_2 a1_0 a1_1 a1_2 true _ A3.out).mono ?_); rintro e w19 ⟨rfl, hb⟩; refine ⟨_, rfl, ?_⟩; have n0_ := Aside0.mk (blk_below (g := gb277) (o := .cells #[.int .u8 a0_0, .int .u8 a0_1, .int .u8 a0_2, .int .i64 a0_3] 66 (0, 0)) (mk BK277.out) hb); have n1_ := Aside0.mk (blk_below (g := gb278) (o := .cells #[.int .u8 a1_0, .int .u8 a1_1, .int .u8 a1_2, .int .i64 a1_3] 66 (0, 0)) (mk BK278.out) hb); have n2_ := Aside0.mk (below_step mB hb); clear BK277; clear BK278; clear HB; have BK277 := n0_; have BK278 := n1_; have HB := n2_; clear n0_ n1_ n2_; (try clear hb); (try clear hb2); (try clear hk); (try clear hi); have hcz20_0 : w19.cell? ⟨gb277, 0, none⟩ = some (.int .u8 a0_0) := (blk_cell BK277.out 0).trans rfl; have hcz20_1 : w19.cell? ⟨gb277, 1, none⟩ = some (.int .u8 a0_1) := (blk_cell BK277.out 1).trans rfl; have hcz20_2 : w19.cell? ⟨gb277, 2, none⟩ = some (.int .u8 a0_2) := (blk_cell BK277.out 2).trans rfl; have hcz20_3 : w19.cell? ⟨gb277, 3, none⟩ = some (.int .i64 a0_3) := (blk_cell BK277.out 3).trans rfl; have hfz20_0 := blk_frozen BK277.out 0; have hfz20_1 := blk_frozen BK277.out 1; have hfz20_2 := blk_frozen BK277.out 2; have hfz20_3 := blk_frozen BK277.out 3; have hcz21_0 : w19.cell? ⟨gb278, 0, none⟩ = some (.int .u8 a1_0) := (blk_cell BK278.out 0).trans rfl; have hcz21_1 : w19.cell? ⟨gb278, 1, none⟩ = some (.int .u8 a1_1) := (blk_cell BK278.out 1).trans rfl; have hcz21_2 : w19.cell? ⟨gb278, 2, none⟩ = some (.int .u8 a1_2) := (blk_cell BK278.out 2).trans rfl; have hcz21_3 : w19.cell? ⟨gb278, 3, none⟩ = some (.int .i64 a1_3) := (blk_cell BK278.out 3).trans rfl; have hfz21_0 := blk_frozen BK278.out 0; have hfz21_1 := blk_frozen BK278.out 1; have hfz21_2 := blk_frozen BK278.out 2; have hfz21_3 := blk_frozen BK278.out 3))
      go_ret
      exact ⟨mE, mB⟩
  · replace c4 := Bool.eq_false_iff.mpr c4
    subst c4
    have H1 : (some false) = some r := by rw [if_neg (show ¬ (false = true) by decide)] at H; exact H
    clear H
    have H := H1
    clear H1
    obtain rfl := Option.some.inj H
    go_enter Try.func45, Try.ntmps45
    go_wp2_with (first | ((with_reducible refine gate_dst (N := 2) rfl ?_); refine box_event ?hg (N := 2) ?hd (cs := #[.int .u8 a0_0, .int .u8 a0_1, .int .u8 a0_2, .int .i64 a0_3]) (t := 66) ?hr ?_; (case hd => rfl); (case hg => rfl); (case hr => first | (go_simp; done) | (go_simp; rfl)); intro gb277 hg w22 hbox hb; have n0_ := Aside0.mk (below_step mB hb); have n1_ := Aside0.mk (hbox); have n2_ := Aside0.mk ((mG : w.heap.size ≤ gb277)); have n3_ := Aside0.mk ((mG : w.heap.size ≤ gb277)); clear HB; have HB := n0_; have BK277 := n1_; have GW277 := n2_; have GE277 := n3_; clear n0_ n1_ n2_ n3_; clear hb hbox hg) | ((with_reducible refine gate_dst (N := 3) rfl ?_); refine box_event ?hg (N := 3) ?hd (cs := #[.int .u8 a1_0, .int .u8 a1_1, .int .u8 a1_2, .int .i64 a1_3]) (t := 66) ?hr ?_; (case hd => rfl); (case hg => rfl); (case hr => first | (go_simp; done) | (go_simp; rfl)); intro gb278 hg w23 hbox hb; have n0_ := Aside0.mk (blk_below (g := gb277) (o := .cells #[.int .u8 a0_0, .int .u8 a0_1, .int .u8 a0_2, .int .i64 a0_3] 66 (0, 0)) (mk BK277.out) hb); have n1_ := Aside0.mk (below_step mB hb); have n2_ := Aside0.mk (hbox); have n3_ := Aside0.mk ((mG : w.heap.size ≤ gb278)); have n4_ := Aside0.mk ((mG : w.heap.size ≤ gb278)); have n5_ := Aside0.mk ((by rw [hg]; exact Nat.ne_of_lt (blk_lt (g := gb277) (o := .cells #[.int .u8 a0_0, .int .u8 a0_1, .int .u8 a0_2, .int .i64 a0_3] 66 (0, 0)) (mk BK277.out)) : gb277 ≠ gb278)); have n6_ := Aside0.mk ((by rw [hg]; exact Nat.ne_of_gt (blk_lt (g := gb277) (o := .cells #[.int .u8 a0_0, .int .u8 a0_1, .int .u8 a0_2, .int .i64 a0_3] 66 (0, 0)) (mk BK277.out)) : gb278 ≠ gb277)); clear BK277; clear HB; have BK277 := n0_; have HB := n1_; have BK278 := n2_; have GW278 := n3_; have GE278 := n4_; have NB277_278 := n5_; have NB278_277 := n6_; clear n0_ n1_ n2_ n3_ n4_ n5_ n6_; clear hb hbox hg; have hnb24 := NB277_278.out; have hnc24 := NB278_277.out; have hcz25_0 : w23.cell? ⟨gb277, 0, none⟩ = some (.int .u8 a0_0) := (blk_cell BK277.out 0).trans rfl; have hcz25_1 : w23.cell? ⟨gb277, 1, none⟩ = some (.int .u8 a0_1) := (blk_cell BK277.out 1).trans rfl; have hcz25_2 : w23.cell? ⟨gb277, 2, none⟩ = some (.int .u8 a0_2) := (blk_cell BK277.out 2).trans rfl; have hcz25_3 : w23.cell? ⟨gb277, 3, none⟩ = some (.int .i64 a0_3) := (blk_cell BK277.out 3).trans rfl; have hfz25_0 := blk_frozen BK277.out 0; have hfz25_1 := blk_frozen BK277.out 1; have hfz25_2 := blk_frozen BK277.out 2; have hfz25_3 := blk_frozen BK277.out 3; have hcz26_0 : w23.cell? ⟨gb278, 0, none⟩ = some (.int .u8 a1_0) := (blk_cell BK278.out 0).trans rfl; have hcz26_1 : w23.cell? ⟨gb278, 1, none⟩ = some (.int .u8 a1_1) := (blk_cell BK278.out 1).trans rfl; have hcz26_2 : w23.cell? ⟨gb278, 2, none⟩ = some (.int .u8 a1_2) := (blk_cell BK278.out 2).trans rfl; have hcz26_3 : w23.cell? ⟨gb278, 3, none⟩ = some (.int .i64 a1_3) := (blk_cell BK278.out 3).trans rfl; have hfz26_0 := blk_frozen BK278.out 0; have hfz26_1 := blk_frozen BK278.out 1; have hfz26_2 := blk_frozen BK278.out 2; have hfz26_3 := blk_frozen BK278.out 3) | ((with_reducible refine gate_callee (f := 52) rfl ?_); refine goL (some 9) Try.func52 #[.agg #[.int .u8 a0_0, .int .u8 a0_1, .int .u8 a0_2], .agg #[.int .u8 a1_0, .int .u8 a1_1, .int .u8 a1_2]] (h := ?_); (with_reducible refine (laws_eqExps.calls k a0_0 a0_1 a0_2 a1_0 a1_1 a1_2 false _ A3.out).mono ?_); rintro e w27 ⟨rfl, hb⟩; refine ⟨_, rfl, ?_⟩; have n0_ := Aside0.mk (blk_below (g := gb277) (o := .cells #[.int .u8 a0_0, .int .u8 a0_1, .int .u8 a0_2, .int .i64 a0_3] 66 (0, 0)) (mk BK277.out) hb); have n1_ := Aside0.mk (blk_below (g := gb278) (o := .cells #[.int .u8 a1_0, .int .u8 a1_1, .int .u8 a1_2, .int .i64 a1_3] 66 (0, 0)) (mk BK278.out) hb); have n2_ := Aside0.mk (below_step mB hb); clear BK277; clear BK278; clear HB; have BK277 := n0_; have BK278 := n1_; have HB := n2_; clear n0_ n1_ n2_; (try clear hb); (try clear hb2); (try clear hk); (try clear hi)))
    go_ret
    exact ⟨mE, mB⟩

/-! ### laws_eqTermS: function 38 -/
def laws_eqTermS.l0 : Nat → List (S66) → List (S66) → Int → Option (Bool)
  | 0, _, _, _ => none
  | k + 1, x0, x1, x5 => if x5 < (x0.length : Int) then (if 0 ≤ x5 then (if x5 < (x1.length : Int) then ((laws_eqTerm.f k ((rd_T66 x0 x5).f0.f0) ((rd_T66 x0 x5).f0.f1) ((rd_T66 x0 x5).f0.f2) ((rd_T66 x0 x5).f1) ((rd_T66 x1 x5).f0.f0) ((rd_T66 x1 x5).f0.f1) ((rd_T66 x1 x5).f0.f2) ((rd_T66 x1 x5).f1)).bind fun t282 => (if t282 = true then (laws_eqTermS.l0 k x0 x1 (wrap64 (x5 + 1))) else (some false))) else (none)) else (none)) else (some true)
def laws_eqTermS.f (k : Nat) (l0 : List (S66)) (l1 : List (S66)) : Option (Bool) := if (l0.length : Int) = (l1.length : Int) then (laws_eqTermS.l0 k l0 l1 0) else (some false)
theorem laws_eqTermS.mono_l : ∀ k, (∀ y0 y1 y2, LeO (laws_eqTermS.l0 k y0 y1 y2) (laws_eqTermS.l0 (k + 1) y0 y1 y2))
  | 0 => fun _ _ _ r h => by simp [laws_eqTermS.l0] at h
  | k + 1 => by
    have ih0 := laws_eqTermS.mono_l k
    · intro y0 y1 y2
      unfold laws_eqTermS.l0
      repeat' first
      | (with_reducible exact ih0 _ _ _)
      | (with_reducible exact laws_eqTerm.mono _ _ _ _ _ _ _ _ _)
      | (with_reducible exact LeO.refl _)
      | (with_reducible exact LeO.none _)
      | (with_reducible refine LeO.ite ?_ ?_)
      | (with_reducible refine LeO.bind ?_ (fun _ => ?_))
      | exact ih0 _ _ _
      | exact laws_eqTerm.mono _ _ _ _ _ _ _ _ _
      | exact LeO.none _
      | refine LeO.ite ?_ ?_
      | refine LeO.bind ?_ (fun _ => ?_)
theorem laws_eqTermS.mono : ∀ a0 a1 k, LeO (laws_eqTermS.f k a0 a1) (laws_eqTermS.f (k + 1) a0 a1) := by
  intro a0 a1 k
  have ih0 := laws_eqTermS.mono_l k
  unfold laws_eqTermS.f
  repeat' first
      | (with_reducible exact ih0 _ _ _)
      | (with_reducible exact laws_eqTerm.mono _ _ _ _ _ _ _ _ _)
      | (with_reducible exact LeO.refl _)
      | (with_reducible exact LeO.none _)
      | (with_reducible refine LeO.ite ?_ ?_)
      | (with_reducible refine LeO.bind ?_ (fun _ => ?_))
      | exact ih0 _ _ _
      | exact laws_eqTerm.mono _ _ _ _ _ _ _ _ _
      | exact LeO.none _
      | refine LeO.ite ?_ ?_
      | refine LeO.bind ?_ (fun _ => ?_)
def laws_eqTermS.T6 : Bool × List (List Nat × List Nat) := (true, [([], []), ([], []), ([0, 1], [0, 1]), ([2], [2]), ([], []), ([], []), ([4, 5], [4, 5]), ([6], [6]), ([3, 7], [3, 7]), ([8], [8])])
def laws_eqTermS.B6 : List Nat := [0, 0, 3, 7, 0, 0, 48, 112, 255, 511]
theorem laws_eqTermS.tab6 : rtab .any (opsOf Try.f38 6) = laws_eqTermS.T6 := by kernel_rfl
theorem laws_eqTermS.bits6 : waitsOk laws_eqTermS.T6.2 laws_eqTermS.B6 = true := by kernel_rfl
set_option maxHeartbeats 8000000 in
set_option maxRecDepth 100000 in
theorem laws_eqTermS.calls (k : Nat) (A0 : Option Addr) (c0 : Nat) (l0 : List (S66)) (A1 : Option Addr) (c1 : Nat) (l1 : List (S66)) (r : Bool) (w : World) (hr0 : Kd.C k66 w A0 l0.length l0) (hc0 : l0.length ≤ c0) (hr1 : Kd.C k66 w A1 l1.length l1) (hc1 : l1.length ≤ c1) (h : laws_eqTermS.f k l0 l1 = some r) :
    Calls Try.prog 38 #[.slice A0 l0.length c0, .slice A1 l1.length c1] w fun e w' => e = .returned (.bool r) ∧ Below w.heap.size w w' := by
  have hu66 := Try.underlying66
  have HR0 := Aside0.mk hr0
  have HC0 := Aside0.mk hc0
  clear hr0 hc0
  have HR1 := Aside0.mk hr1
  have HC1 := Aside0.mk hc1
  clear hr1 hc1
  have HB := Aside0.mk (Below.refl w.heap.size w)
  have H : (if (l0.length : Int) = (l1.length : Int) then (laws_eqTermS.l0 k l0 l1 0) else (some false)) = some r := h
  clear h
  by_cases c3 : (l0.length : Int) = (l1.length : Int)
  · rw [if_pos c3] at H
    have c3b0 : ((l0.length : Int) == (l1.length : Int)) = true := beq_iff_eq.mpr c3
    have c3b1 : ((l0.length : Int) != (l1.length : Int)) = false := bne_eq_false_iff_eq.mpr c3
    have c3b2 : (l0.length == l1.length) = true := by first | simpa using c3 | (simp at c3 ⊢; omega)
    clear c3
    have H' := Aside0.mk H
    clear H
    go_enter Try.func38, Try.ntmps38
    go_wp2
    go_loopg [5] k (fun kq v5 w' => ∃ (x5_1 : Int), v5 = .int .i64 x5_1 ∧ Aside0 (laws_eqTermS.l0 kq l0 l1 x5_1 = some r) ∧ Aside0 (kq ≤ k) ∧ Aside0 (Below w.heap.size w w'))
    case atStart => exact ⟨(0), mF, H', ⟨Nat.le_refl _⟩, ⟨mB⟩⟩
    case round =>
      clear H'
      try clear c1
      try clear p2
      try clear c3
      try clear c3b0
      try clear c3b1
      try clear c3b2
      obtain ⟨x5_1, rfl, HA, HK1, HB⟩ := hrel
      cases gk with
      | zero => exact absurd HA.out (by simp [laws_eqTermS.l0])
      | succ k1 =>
        have H := HA.out
        clear HA
        simp only [laws_eqTermS.l0] at H
        by_cases c4 : x5_1 < (l0.length : Int)
        · rw [if_pos c4] at H
          have c4b0 : decide (x5_1 < (l0.length : Int)) = true := decide_eq_true c4
          clear c4
          by_cases c5 : 0 ≤ x5_1
          · rw [if_pos c5] at H
            have c5b0 : decide (0 ≤ x5_1) = true := decide_eq_true c5
            clear c5
            by_cases c6 : x5_1 < (l1.length : Int)
            · rw [if_pos c6] at H
              have c6b0 : decide (x5_1 < (l1.length : Int)) = true := decide_eq_true c6
              clear c6
              replace H := Option.bind_eq_some_iff.mp H
              obtain ⟨t282, A70, H⟩ := H
              replace H : (if t282 = true then (laws_eqTermS.l0 k1 l0 l1 (wrap64 (x5_1 + 1))) else (some false)) = some r := H
              have A7 := Aside0.mk A70
              clear A70
              by_cases c8 : t282 = true
              · subst c8
                have H1 : (laws_eqTermS.l0 k1 l0 l1 (wrap64 (x5_1 + 1))) = some r := by rw [if_pos rfl] at H; exact H
                clear H
                have H := H1
                clear H1
                have H' := Aside0.mk H
                clear H
                try go_wp2
                have n0_ := Aside0.mk (below_drew1 HB.out)
                clear HB
                have HB := n0_
                clear n0_
                have p280 : 0 ≤ (x5_1 : Int) := of_decide_eq_true mS
                have q280 : x5_1 < (l0.length : Int) := of_decide_eq_true mS
                obtain ⟨ad280, e280, hx280_0, hx280_1, hx280_2, hx280_3⟩ := at_T66 HR0.out x5_1 p280 q280
                have hw280_3 := hx280_3
                have hw280_2 := hx280_2
                have hw280_1 := hx280_1
                have hw280_0 := hx280_0
                cases e280
                replace hx280_0 := cB HB hx280_0
                replace hx280_1 := cB HB hx280_1
                replace hx280_2 := cB HB hx280_2
                replace hx280_3 := cB HB hx280_3
                replace p280 := eq_true p280
                replace q280 := eq_true q280
                have p281 : 0 ≤ (x5_1 : Int) := of_decide_eq_true mS
                have q281 : x5_1 < (l1.length : Int) := of_decide_eq_true mS
                obtain ⟨ad281, e281, hx281_0, hx281_1, hx281_2, hx281_3⟩ := at_T66 HR1.out x5_1 p281 q281
                have hw281_3 := hx281_3
                have hw281_2 := hx281_2
                have hw281_1 := hx281_1
                have hw281_0 := hx281_0
                cases e281
                replace hx281_0 := cB HB hx281_0
                replace hx281_1 := cB HB hx281_1
                replace hx281_2 := cB HB hx281_2
                replace hx281_3 := cB HB hx281_3
                replace p281 := eq_true p281
                replace q281 := eq_true q281
                refine start_ (n := 10) (S := fun w' => w'.cell? (ad280.add ((x5_1).toNat * 4)) = some (.int .u8 ((rd_T66 l0 x5_1).f0.f0)) ∧ w'.cell? ⟨(ad280.add ((x5_1).toNat * 4)).block, (ad280.add ((x5_1).toNat * 4)).off + 1, none⟩ = some (.int .u8 ((rd_T66 l0 x5_1).f0.f1)) ∧ w'.cell? ⟨(ad280.add ((x5_1).toNat * 4)).block, (ad280.add ((x5_1).toNat * 4)).off + 2, none⟩ = some (.int .u8 ((rd_T66 l0 x5_1).f0.f2)) ∧ w'.cell? ⟨(ad280.add ((x5_1).toNat * 4)).block, (ad280.add ((x5_1).toNat * 4)).off + 3, none⟩ = some (.int .i64 ((rd_T66 l0 x5_1).f1)) ∧ w'.cell? (ad281.add ((x5_1).toNat * 4)) = some (.int .u8 ((rd_T66 l1 x5_1).f0.f0)) ∧ w'.cell? ⟨(ad281.add ((x5_1).toNat * 4)).block, (ad281.add ((x5_1).toNat * 4)).off + 1, none⟩ = some (.int .u8 ((rd_T66 l1 x5_1).f0.f1)) ∧ w'.cell? ⟨(ad281.add ((x5_1).toNat * 4)).block, (ad281.add ((x5_1).toNat * 4)).off + 2, none⟩ = some (.int .u8 ((rd_T66 l1 x5_1).f0.f2)) ∧ w'.cell? ⟨(ad281.add ((x5_1).toNat * 4)).block, (ad281.add ((x5_1).toNat * 4)).off + 3, none⟩ = some (.int .i64 ((rd_T66 l1 x5_1).f1))) (ds := []) #[false, false, false, false, false, false, false, false, false, false] (by kernel_rfl) rfl rfl ⟨(cD HB hw280_0), (cD HB hw280_1), (cD HB hw280_2), (cD HB hw280_3), (cD HB hw281_0), (cD HB hw281_1), (cD HB hw281_2), (cD HB hw281_3)⟩ (fun hHeld => ?_); refine with_tabW laws_eqTermS.tab6 laws_eqTermS.bits6 (fun HT_ HW_ => ?_)
                generalize wr.drew = w9 at HB hx280_0 hx280_1 hx280_2 hx280_3 hx281_0 hx281_1 hx281_2 hx281_3 hHeld ⊢
                refine pu 0 17 HT_ (h := ?_)
                refine pu 1 18 HT_ (h := ?_)
                refine pu 2 19 HT_ (h := ?_)
                refine pu 4 21 HT_ (h := ?_)
                refine pu 5 22 HT_ (h := ?_)
                refine pu 6 23 HT_ (h := ?_)
                refine ta 3 20 HT_ HW_ hHeld (hy := by rintro w' ⟨s0, s1, s2, s3, s4, s5, s6, s7⟩; go_simp; with_reducible rfl) (h := ?_)
                refine ta 7 24 HT_ HW_ hHeld (hy := by rintro w' ⟨s0, s1, s2, s3, s4, s5, s6, s7⟩; go_simp; with_reducible rfl) (h := ?_)
                refine one_ (i := 8) (N := some 25) #[true, true, true, true, true, true, true, true, true, false] rfl rfl (one_of HT_.out (by kernel_rfl)) (by decide) (fun K hK => ?_)
                refine go_ Try.func45 #[.agg #[.int .u8 ((rd_T66 l0 x5_1).f0.f0), .int .u8 ((rd_T66 l0 x5_1).f0.f1), .int .u8 ((rd_T66 l0 x5_1).f0.f2), .int .i64 ((rd_T66 l0 x5_1).f1)], .agg #[.int .u8 ((rd_T66 l1 x5_1).f0.f0), .int .u8 ((rd_T66 l1 x5_1).f0.f1), .int .u8 ((rd_T66 l1 x5_1).f0.f2), .int .i64 ((rd_T66 l1 x5_1).f1)]] (h := ?_)
                with_reducible refine (laws_eqTerm.calls k1 ((rd_T66 l0 x5_1).f0.f0) ((rd_T66 l0 x5_1).f0.f1) ((rd_T66 l0 x5_1).f0.f2) ((rd_T66 l0 x5_1).f1) ((rd_T66 l1 x5_1).f0.f0) ((rd_T66 l1 x5_1).f0.f1) ((rd_T66 l1 x5_1).f0.f2) ((rd_T66 l1 x5_1).f1) true _ A7.out).mono ?_
                rintro e w10 ⟨rfl, hb⟩
                refine ⟨_, rfl, ?_⟩
                have n0_ := Aside0.mk (below_step mB hb)
                clear HB
                have HB := n0_
                clear n0_
                (try clear hb)
                (try clear hb2)
                (try clear hk)
                (try clear hi)
                refine hK.out _ _ ⟨(cD HB hw280_0), (cD HB hw280_1), (cD HB hw280_2), (cD HB hw280_3), (cD HB hw281_0), (cD HB hw281_1), (cD HB hw281_2), (cD HB hw281_3)⟩ (fun hHeld => ?_)
                clear hK K
                refine nm (h := ?_)
                refine pu 9 26 HT_ (h := ?_)
                refine done_ (done_of HT_.out (by kernel_rfl)) ?_
                try go_wp2
                go_roundg k1
                case measure => have := HK1.out; omega
                case rel => exact ⟨(wrap64 (x5_1 + 1)), mF, H', ⟨by have := HK1.out; omega⟩, ⟨mB⟩⟩
              · replace c8 := Bool.eq_false_iff.mpr c8
                subst c8
                have H1 : (some false) = some r := by rw [if_neg (show ¬ (false = true) by decide)] at H; exact H
                clear H
                have H := H1
                clear H1
                obtain rfl := Option.some.inj H
                try go_wp2
                have n0_ := Aside0.mk (below_drew1 HB.out)
                clear HB
                have HB := n0_
                clear n0_
                have p280 : 0 ≤ (x5_1 : Int) := of_decide_eq_true mS
                have q280 : x5_1 < (l0.length : Int) := of_decide_eq_true mS
                obtain ⟨ad280, e280, hx280_0, hx280_1, hx280_2, hx280_3⟩ := at_T66 HR0.out x5_1 p280 q280
                have hw280_3 := hx280_3
                have hw280_2 := hx280_2
                have hw280_1 := hx280_1
                have hw280_0 := hx280_0
                cases e280
                replace hx280_0 := cB HB hx280_0
                replace hx280_1 := cB HB hx280_1
                replace hx280_2 := cB HB hx280_2
                replace hx280_3 := cB HB hx280_3
                replace p280 := eq_true p280
                replace q280 := eq_true q280
                have p281 : 0 ≤ (x5_1 : Int) := of_decide_eq_true mS
                have q281 : x5_1 < (l1.length : Int) := of_decide_eq_true mS
                obtain ⟨ad281, e281, hx281_0, hx281_1, hx281_2, hx281_3⟩ := at_T66 HR1.out x5_1 p281 q281
                have hw281_3 := hx281_3
                have hw281_2 := hx281_2
                have hw281_1 := hx281_1
                have hw281_0 := hx281_0
                cases e281
                replace hx281_0 := cB HB hx281_0
                replace hx281_1 := cB HB hx281_1
                replace hx281_2 := cB HB hx281_2
                replace hx281_3 := cB HB hx281_3
                replace p281 := eq_true p281
                replace q281 := eq_true q281
                refine start_ (n := 10) (S := fun w' => w'.cell? (ad280.add ((x5_1).toNat * 4)) = some (.int .u8 ((rd_T66 l0 x5_1).f0.f0)) ∧ w'.cell? ⟨(ad280.add ((x5_1).toNat * 4)).block, (ad280.add ((x5_1).toNat * 4)).off + 1, none⟩ = some (.int .u8 ((rd_T66 l0 x5_1).f0.f1)) ∧ w'.cell? ⟨(ad280.add ((x5_1).toNat * 4)).block, (ad280.add ((x5_1).toNat * 4)).off + 2, none⟩ = some (.int .u8 ((rd_T66 l0 x5_1).f0.f2)) ∧ w'.cell? ⟨(ad280.add ((x5_1).toNat * 4)).block, (ad280.add ((x5_1).toNat * 4)).off + 3, none⟩ = some (.int .i64 ((rd_T66 l0 x5_1).f1)) ∧ w'.cell? (ad281.add ((x5_1).toNat * 4)) = some (.int .u8 ((rd_T66 l1 x5_1).f0.f0)) ∧ w'.cell? ⟨(ad281.add ((x5_1).toNat * 4)).block, (ad281.add ((x5_1).toNat * 4)).off + 1, none⟩ = some (.int .u8 ((rd_T66 l1 x5_1).f0.f1)) ∧ w'.cell? ⟨(ad281.add ((x5_1).toNat * 4)).block, (ad281.add ((x5_1).toNat * 4)).off + 2, none⟩ = some (.int .u8 ((rd_T66 l1 x5_1).f0.f2)) ∧ w'.cell? ⟨(ad281.add ((x5_1).toNat * 4)).block, (ad281.add ((x5_1).toNat * 4)).off + 3, none⟩ = some (.int .i64 ((rd_T66 l1 x5_1).f1))) (ds := []) #[false, false, false, false, false, false, false, false, false, false] (by kernel_rfl) rfl rfl ⟨(cD HB hw280_0), (cD HB hw280_1), (cD HB hw280_2), (cD HB hw280_3), (cD HB hw281_0), (cD HB hw281_1), (cD HB hw281_2), (cD HB hw281_3)⟩ (fun hHeld => ?_); refine with_tabW laws_eqTermS.tab6 laws_eqTermS.bits6 (fun HT_ HW_ => ?_)
                generalize wr.drew = w11 at HB hx280_0 hx280_1 hx280_2 hx280_3 hx281_0 hx281_1 hx281_2 hx281_3 hHeld ⊢
                refine pu 0 17 HT_ (h := ?_)
                refine pu 1 18 HT_ (h := ?_)
                refine pu 2 19 HT_ (h := ?_)
                refine pu 4 21 HT_ (h := ?_)
                refine pu 5 22 HT_ (h := ?_)
                refine pu 6 23 HT_ (h := ?_)
                refine ta 3 20 HT_ HW_ hHeld (hy := by rintro w' ⟨s0, s1, s2, s3, s4, s5, s6, s7⟩; go_simp; with_reducible rfl) (h := ?_)
                refine ta 7 24 HT_ HW_ hHeld (hy := by rintro w' ⟨s0, s1, s2, s3, s4, s5, s6, s7⟩; go_simp; with_reducible rfl) (h := ?_)
                refine one_ (i := 8) (N := some 25) #[true, true, true, true, true, true, true, true, true, false] rfl rfl (one_of HT_.out (by kernel_rfl)) (by decide) (fun K hK => ?_)
                refine go_ Try.func45 #[.agg #[.int .u8 ((rd_T66 l0 x5_1).f0.f0), .int .u8 ((rd_T66 l0 x5_1).f0.f1), .int .u8 ((rd_T66 l0 x5_1).f0.f2), .int .i64 ((rd_T66 l0 x5_1).f1)], .agg #[.int .u8 ((rd_T66 l1 x5_1).f0.f0), .int .u8 ((rd_T66 l1 x5_1).f0.f1), .int .u8 ((rd_T66 l1 x5_1).f0.f2), .int .i64 ((rd_T66 l1 x5_1).f1)]] (h := ?_)
                with_reducible refine (laws_eqTerm.calls k1 ((rd_T66 l0 x5_1).f0.f0) ((rd_T66 l0 x5_1).f0.f1) ((rd_T66 l0 x5_1).f0.f2) ((rd_T66 l0 x5_1).f1) ((rd_T66 l1 x5_1).f0.f0) ((rd_T66 l1 x5_1).f0.f1) ((rd_T66 l1 x5_1).f0.f2) ((rd_T66 l1 x5_1).f1) false _ A7.out).mono ?_
                rintro e w12 ⟨rfl, hb⟩
                refine ⟨_, rfl, ?_⟩
                have n0_ := Aside0.mk (below_step mB hb)
                clear HB
                have HB := n0_
                clear n0_
                (try clear hb)
                (try clear hb2)
                (try clear hk)
                (try clear hi)
                refine hK.out _ _ ⟨(cD HB hw280_0), (cD HB hw280_1), (cD HB hw280_2), (cD HB hw280_3), (cD HB hw281_0), (cD HB hw281_1), (cD HB hw281_2), (cD HB hw281_3)⟩ (fun hHeld => ?_)
                clear hK K
                refine nm (h := ?_)
                refine pu 9 26 HT_ (h := ?_)
                refine done_ (done_of HT_.out (by kernel_rfl)) ?_
                try go_wp2
                go_ret
                exact ⟨mE, mB⟩
            · rw [if_neg c6] at H
              exact absurd H (by simp)
          · rw [if_neg c5] at H
            exact absurd H (by simp)
        · rw [if_neg c4] at H
          have c4b0 : decide (x5_1 < (l0.length : Int)) = false := decide_eq_false c4
          clear c4
          obtain rfl := Option.some.inj H
          go_wp2
          go_ret
          exact ⟨mE, mB⟩
  · rw [if_neg c3] at H
    have c3b0 : ((l0.length : Int) == (l1.length : Int)) = false := beq_eq_false_iff_ne.mpr c3
    have c3b1 : ((l0.length : Int) != (l1.length : Int)) = true := bne_iff_ne.mpr c3
    have c3b2 : (l0.length == l1.length) = false := by first | simpa using c3 | (simp at c3 ⊢; omega)
    obtain rfl := Option.some.inj H
    go_enter Try.func38, Try.ntmps38
    go_wp2
    go_ret
    exact ⟨mE, mB⟩

/-! ### laws_eqPoly: function 23 -/
def laws_eqPoly.f (k : Nat) (a0_0 : Int) (a0_1 : Int) (l0_2 : List (S66)) (a1_0 : Int) (a1_1 : Int) (l1_2 : List (S66)) : Option (Bool) := if a0_0 = a1_0 then (if a0_1 = a1_1 then ((laws_eqTermS.f k l0_2 l1_2).bind fun t285 => (if t285 = true then (some true) else (some false))) else (some false)) else (some false)
theorem laws_eqPoly.mono : ∀ a0 a1 a2 a3 a4 a5 k, LeO (laws_eqPoly.f k a0 a1 a2 a3 a4 a5) (laws_eqPoly.f (k + 1) a0 a1 a2 a3 a4 a5) := by
  intro a0 a1 a2 a3 a4 a5 k
  unfold laws_eqPoly.f
  repeat' first
      | (with_reducible exact laws_eqTermS.mono _ _ _)
      | (with_reducible exact LeO.refl _)
      | (with_reducible exact LeO.none _)
      | (with_reducible refine LeO.ite ?_ ?_)
      | (with_reducible refine LeO.bind ?_ (fun _ => ?_))
      | exact laws_eqTermS.mono _ _ _
      | exact LeO.none _
      | refine LeO.ite ?_ ?_
      | refine LeO.bind ?_ (fun _ => ?_)
set_option maxHeartbeats 8000000 in
set_option maxRecDepth 100000 in
theorem laws_eqPoly.calls (k : Nat) (a0_0 : Int) (a0_1 : Int) (A0_2 : Option Addr) (c0_2 : Nat) (l0_2 : List (S66)) (a1_0 : Int) (a1_1 : Int) (A1_2 : Option Addr) (c1_2 : Nat) (l1_2 : List (S66)) (r : Bool) (w : World) (hr0_2 : Kd.C k66 w A0_2 l0_2.length l0_2) (hc0_2 : l0_2.length ≤ c0_2) (hr1_2 : Kd.C k66 w A1_2 l1_2.length l1_2) (hc1_2 : l1_2.length ≤ c1_2) (h : laws_eqPoly.f k a0_0 a0_1 l0_2 a1_0 a1_1 l1_2 = some r) :
    Calls Try.prog 23 #[.agg #[.int .i64 a0_0, .int .i64 a0_1, .slice A0_2 l0_2.length c0_2], .agg #[.int .i64 a1_0, .int .i64 a1_1, .slice A1_2 l1_2.length c1_2]] w fun e w' => e = .returned (.bool r) ∧ Below w.heap.size w w' := by
  have hu44 := Try.underlying44
  have HR0_2 := Aside0.mk hr0_2
  have HC0_2 := Aside0.mk hc0_2
  clear hr0_2 hc0_2
  have HR1_2 := Aside0.mk hr1_2
  have HC1_2 := Aside0.mk hc1_2
  clear hr1_2 hc1_2
  have HB := Aside0.mk (Below.refl w.heap.size w)
  have H : (if a0_0 = a1_0 then (if a0_1 = a1_1 then ((laws_eqTermS.f k l0_2 l1_2).bind fun t285 => (if t285 = true then (some true) else (some false))) else (some false)) else (some false)) = some r := h
  clear h
  by_cases c3 : a0_0 = a1_0
  · rw [if_pos c3] at H
    have c3b0 : (a0_0 == a1_0) = true := beq_iff_eq.mpr c3
    have c3b1 : (a0_0 != a1_0) = false := bne_eq_false_iff_eq.mpr c3
    clear c3
    by_cases c4 : a0_1 = a1_1
    · rw [if_pos c4] at H
      have c4b0 : (a0_1 == a1_1) = true := beq_iff_eq.mpr c4
      have c4b1 : (a0_1 != a1_1) = false := bne_eq_false_iff_eq.mpr c4
      clear c4
      replace H := Option.bind_eq_some_iff.mp H
      obtain ⟨t285, A50, H⟩ := H
      replace H : (if t285 = true then (some true) else (some false)) = some r := H
      have A5 := Aside0.mk A50
      clear A50
      by_cases c6 : t285 = true
      · subst c6
        have H1 : (some true) = some r := by rw [if_pos rfl] at H; exact H
        clear H
        have H := H1
        clear H1
        obtain rfl := Option.some.inj H
        go_enter Try.func23, Try.ntmps23
        go_wp2_with (first | ((with_reducible refine gate_dst (N := 2) rfl ?_); refine box_event ?hg (N := 2) ?hd (cs := #[.int .i64 a0_0, .int .i64 a0_1, .slice A0_2 l0_2.length c0_2]) (t := 44) ?hr ?_; (case hd => rfl); (case hg => rfl); (case hr => first | (go_simp; done) | (go_simp; rfl)); intro gb283 hg w7 hbox hb; have n0_ := Aside0.mk (below_step mB hb); have n1_ := Aside0.mk (hbox); have n2_ := Aside0.mk ((mG : w.heap.size ≤ gb283)); have n3_ := Aside0.mk ((mG : w.heap.size ≤ gb283)); clear HB; have HB := n0_; have BK283 := n1_; have GW283 := n2_; have GE283 := n3_; clear n0_ n1_ n2_ n3_; clear hb hbox hg) | ((with_reducible refine gate_dst (N := 3) rfl ?_); refine box_event ?hg (N := 3) ?hd (cs := #[.int .i64 a1_0, .int .i64 a1_1, .slice A1_2 l1_2.length c1_2]) (t := 44) ?hr ?_; (case hd => rfl); (case hg => rfl); (case hr => first | (go_simp; done) | (go_simp; rfl)); intro gb284 hg w8 hbox hb; have n0_ := Aside0.mk (blk_below (g := gb283) (o := .cells #[.int .i64 a0_0, .int .i64 a0_1, .slice A0_2 l0_2.length c0_2] 44 (0, 0)) (mk BK283.out) hb); have n1_ := Aside0.mk (below_step mB hb); have n2_ := Aside0.mk (hbox); have n3_ := Aside0.mk ((mG : w.heap.size ≤ gb284)); have n4_ := Aside0.mk ((mG : w.heap.size ≤ gb284)); have n5_ := Aside0.mk ((by rw [hg]; exact Nat.ne_of_lt (blk_lt (g := gb283) (o := .cells #[.int .i64 a0_0, .int .i64 a0_1, .slice A0_2 l0_2.length c0_2] 44 (0, 0)) (mk BK283.out)) : gb283 ≠ gb284)); have n6_ := Aside0.mk ((by rw [hg]; exact Nat.ne_of_gt (blk_lt (g := gb283) (o := .cells #[.int .i64 a0_0, .int .i64 a0_1, .slice A0_2 l0_2.length c0_2] 44 (0, 0)) (mk BK283.out)) : gb284 ≠ gb283)); clear BK283; clear HB; have BK283 := n0_; have HB := n1_; have BK284 := n2_; have GW284 := n3_; have GE284 := n4_; have NB283_284 := n5_; have NB284_283 := n6_; clear n0_ n1_ n2_ n3_ n4_ n5_ n6_; clear hb hbox hg; have hnb9 := NB283_284.out; have hnc9 := NB284_283.out; have hcz10_0 : w8.cell? ⟨gb283, 0, none⟩ = some (.int .i64 a0_0) := (blk_cell BK283.out 0).trans rfl; have hcz10_1 : w8.cell? ⟨gb283, 1, none⟩ = some (.int .i64 a0_1) := (blk_cell BK283.out 1).trans rfl; have hcz10_2 : w8.cell? ⟨gb283, 2, none⟩ = some (.slice A0_2 l0_2.length c0_2) := (blk_cell BK283.out 2).trans rfl; have hfz10_0 := blk_frozen BK283.out 0; have hfz10_1 := blk_frozen BK283.out 1; have hfz10_2 := blk_frozen BK283.out 2; have hcz11_0 : w8.cell? ⟨gb284, 0, none⟩ = some (.int .i64 a1_0) := (blk_cell BK284.out 0).trans rfl; have hcz11_1 : w8.cell? ⟨gb284, 1, none⟩ = some (.int .i64 a1_1) := (blk_cell BK284.out 1).trans rfl; have hcz11_2 : w8.cell? ⟨gb284, 2, none⟩ = some (.slice A1_2 l1_2.length c1_2) := (blk_cell BK284.out 2).trans rfl; have hfz11_0 := blk_frozen BK284.out 0; have hfz11_1 := blk_frozen BK284.out 1; have hfz11_2 := blk_frozen BK284.out 2) | ((with_reducible refine gate_callee (f := 38) rfl ?_); refine goL (some 19) Try.func38 #[.slice A0_2 l0_2.length c0_2, .slice A1_2 l1_2.length c1_2] (h := ?_); (with_reducible refine (laws_eqTermS.calls k _ _ l0_2 _ _ l1_2 true _ ?side1 ?side2 ?side3 ?side4 A5.out).mono ?_); (case side1 => exact mC (Kd.C_below HR0_2.out HB.out)); (case side2 => exact HC0_2.out); (case side3 => exact mC (Kd.C_below HR1_2.out HB.out)); (case side4 => exact HC1_2.out); rintro e w12 ⟨rfl, hb⟩; refine ⟨_, rfl, ?_⟩; have n0_ := Aside0.mk (blk_below (g := gb283) (o := .cells #[.int .i64 a0_0, .int .i64 a0_1, .slice A0_2 l0_2.length c0_2] 44 (0, 0)) (mk BK283.out) hb); have n1_ := Aside0.mk (blk_below (g := gb284) (o := .cells #[.int .i64 a1_0, .int .i64 a1_1, .slice A1_2 l1_2.length c1_2] 44 (0, 0)) (mk BK284.out) hb); have n2_ := Aside0.mk (below_step mB hb); clear BK283; clear BK284; clear HB; have BK283 := n0_; have BK284 := n1_; have HB := n2_; clear n0_ n1_ n2_; (try clear hb); (try clear hb2); (try clear hk); (try clear hi)))
        go_ret
        exact ⟨mE, mB⟩
      · replace c6 := Bool.eq_false_iff.mpr c6
        subst c6
        have H1 : (some false) = some r := by rw [if_neg (show ¬ (false = true) by decide)] at H; exact H
        clear H
        have H := H1
        clear H1
        obtain rfl := Option.some.inj H
        go_enter Try.func23, Try.ntmps23
        go_wp2_with (first | ((with_reducible refine gate_dst (N := 2) rfl ?_); refine box_event ?hg (N := 2) ?hd (cs := #[.int .i64 a0_0, .int .i64 a0_1, .slice A0_2 l0_2.length c0_2]) (t := 44) ?hr ?_; (case hd => rfl); (case hg => rfl); (case hr => first | (go_simp; done) | (go_simp; rfl)); intro gb283 hg w13 hbox hb; have n0_ := Aside0.mk (below_step mB hb); have n1_ := Aside0.mk (hbox); have n2_ := Aside0.mk ((mG : w.heap.size ≤ gb283)); have n3_ := Aside0.mk ((mG : w.heap.size ≤ gb283)); clear HB; have HB := n0_; have BK283 := n1_; have GW283 := n2_; have GE283 := n3_; clear n0_ n1_ n2_ n3_; clear hb hbox hg) | ((with_reducible refine gate_dst (N := 3) rfl ?_); refine box_event ?hg (N := 3) ?hd (cs := #[.int .i64 a1_0, .int .i64 a1_1, .slice A1_2 l1_2.length c1_2]) (t := 44) ?hr ?_; (case hd => rfl); (case hg => rfl); (case hr => first | (go_simp; done) | (go_simp; rfl)); intro gb284 hg w14 hbox hb; have n0_ := Aside0.mk (blk_below (g := gb283) (o := .cells #[.int .i64 a0_0, .int .i64 a0_1, .slice A0_2 l0_2.length c0_2] 44 (0, 0)) (mk BK283.out) hb); have n1_ := Aside0.mk (below_step mB hb); have n2_ := Aside0.mk (hbox); have n3_ := Aside0.mk ((mG : w.heap.size ≤ gb284)); have n4_ := Aside0.mk ((mG : w.heap.size ≤ gb284)); have n5_ := Aside0.mk ((by rw [hg]; exact Nat.ne_of_lt (blk_lt (g := gb283) (o := .cells #[.int .i64 a0_0, .int .i64 a0_1, .slice A0_2 l0_2.length c0_2] 44 (0, 0)) (mk BK283.out)) : gb283 ≠ gb284)); have n6_ := Aside0.mk ((by rw [hg]; exact Nat.ne_of_gt (blk_lt (g := gb283) (o := .cells #[.int .i64 a0_0, .int .i64 a0_1, .slice A0_2 l0_2.length c0_2] 44 (0, 0)) (mk BK283.out)) : gb284 ≠ gb283)); clear BK283; clear HB; have BK283 := n0_; have HB := n1_; have BK284 := n2_; have GW284 := n3_; have GE284 := n4_; have NB283_284 := n5_; have NB284_283 := n6_; clear n0_ n1_ n2_ n3_ n4_ n5_ n6_; clear hb hbox hg; have hnb15 := NB283_284.out; have hnc15 := NB284_283.out; have hcz16_0 : w14.cell? ⟨gb283, 0, none⟩ = some (.int .i64 a0_0) := (blk_cell BK283.out 0).trans rfl; have hcz16_1 : w14.cell? ⟨gb283, 1, none⟩ = some (.int .i64 a0_1) := (blk_cell BK283.out 1).trans rfl; have hcz16_2 : w14.cell? ⟨gb283, 2, none⟩ = some (.slice A0_2 l0_2.length c0_2) := (blk_cell BK283.out 2).trans rfl; have hfz16_0 := blk_frozen BK283.out 0; have hfz16_1 := blk_frozen BK283.out 1; have hfz16_2 := blk_frozen BK283.out 2; have hcz17_0 : w14.cell? ⟨gb284, 0, none⟩ = some (.int .i64 a1_0) := (blk_cell BK284.out 0).trans rfl; have hcz17_1 : w14.cell? ⟨gb284, 1, none⟩ = some (.int .i64 a1_1) := (blk_cell BK284.out 1).trans rfl; have hcz17_2 : w14.cell? ⟨gb284, 2, none⟩ = some (.slice A1_2 l1_2.length c1_2) := (blk_cell BK284.out 2).trans rfl; have hfz17_0 := blk_frozen BK284.out 0; have hfz17_1 := blk_frozen BK284.out 1; have hfz17_2 := blk_frozen BK284.out 2) | ((with_reducible refine gate_callee (f := 38) rfl ?_); refine goL (some 19) Try.func38 #[.slice A0_2 l0_2.length c0_2, .slice A1_2 l1_2.length c1_2] (h := ?_); (with_reducible refine (laws_eqTermS.calls k _ _ l0_2 _ _ l1_2 false _ ?side1 ?side2 ?side3 ?side4 A5.out).mono ?_); (case side1 => exact mC (Kd.C_below HR0_2.out HB.out)); (case side2 => exact HC0_2.out); (case side3 => exact mC (Kd.C_below HR1_2.out HB.out)); (case side4 => exact HC1_2.out); rintro e w18 ⟨rfl, hb⟩; refine ⟨_, rfl, ?_⟩; have n0_ := Aside0.mk (blk_below (g := gb283) (o := .cells #[.int .i64 a0_0, .int .i64 a0_1, .slice A0_2 l0_2.length c0_2] 44 (0, 0)) (mk BK283.out) hb); have n1_ := Aside0.mk (blk_below (g := gb284) (o := .cells #[.int .i64 a1_0, .int .i64 a1_1, .slice A1_2 l1_2.length c1_2] 44 (0, 0)) (mk BK284.out) hb); have n2_ := Aside0.mk (below_step mB hb); clear BK283; clear BK284; clear HB; have BK283 := n0_; have BK284 := n1_; have HB := n2_; clear n0_ n1_ n2_; (try clear hb); (try clear hb2); (try clear hk); (try clear hi)))
        go_ret
        exact ⟨mE, mB⟩
    · rw [if_neg c4] at H
      have c4b0 : (a0_1 == a1_1) = false := beq_eq_false_iff_ne.mpr c4
      have c4b1 : (a0_1 != a1_1) = true := bne_iff_ne.mpr c4
      obtain rfl := Option.some.inj H
      go_enter Try.func23, Try.ntmps23
      go_wp2_with (first | ((with_reducible refine gate_dst (N := 2) rfl ?_); refine box_event ?hg (N := 2) ?hd (cs := #[.int .i64 a0_0, .int .i64 a0_1, .slice A0_2 l0_2.length c0_2]) (t := 44) ?hr ?_; (case hd => rfl); (case hg => rfl); (case hr => first | (go_simp; done) | (go_simp; rfl)); intro gb283 hg w19 hbox hb; have n0_ := Aside0.mk (below_step mB hb); have n1_ := Aside0.mk (hbox); have n2_ := Aside0.mk ((mG : w.heap.size ≤ gb283)); have n3_ := Aside0.mk ((mG : w.heap.size ≤ gb283)); clear HB; have HB := n0_; have BK283 := n1_; have GW283 := n2_; have GE283 := n3_; clear n0_ n1_ n2_ n3_; clear hb hbox hg) | ((with_reducible refine gate_dst (N := 3) rfl ?_); refine box_event ?hg (N := 3) ?hd (cs := #[.int .i64 a1_0, .int .i64 a1_1, .slice A1_2 l1_2.length c1_2]) (t := 44) ?hr ?_; (case hd => rfl); (case hg => rfl); (case hr => first | (go_simp; done) | (go_simp; rfl)); intro gb284 hg w20 hbox hb; have n0_ := Aside0.mk (blk_below (g := gb283) (o := .cells #[.int .i64 a0_0, .int .i64 a0_1, .slice A0_2 l0_2.length c0_2] 44 (0, 0)) (mk BK283.out) hb); have n1_ := Aside0.mk (below_step mB hb); have n2_ := Aside0.mk (hbox); have n3_ := Aside0.mk ((mG : w.heap.size ≤ gb284)); have n4_ := Aside0.mk ((mG : w.heap.size ≤ gb284)); have n5_ := Aside0.mk ((by rw [hg]; exact Nat.ne_of_lt (blk_lt (g := gb283) (o := .cells #[.int .i64 a0_0, .int .i64 a0_1, .slice A0_2 l0_2.length c0_2] 44 (0, 0)) (mk BK283.out)) : gb283 ≠ gb284)); have n6_ := Aside0.mk ((by rw [hg]; exact Nat.ne_of_gt (blk_lt (g := gb283) (o := .cells #[.int .i64 a0_0, .int .i64 a0_1, .slice A0_2 l0_2.length c0_2] 44 (0, 0)) (mk BK283.out)) : gb284 ≠ gb283)); clear BK283; clear HB; have BK283 := n0_; have HB := n1_; have BK284 := n2_; have GW284 := n3_; have GE284 := n4_; have NB283_284 := n5_; have NB284_283 := n6_; clear n0_ n1_ n2_ n3_ n4_ n5_ n6_; clear hb hbox hg; have hnb21 := NB283_284.out; have hnc21 := NB284_283.out; have hcz22_0 : w20.cell? ⟨gb283, 0, none⟩ = some (.int .i64 a0_0) := (blk_cell BK283.out 0).trans rfl; have hcz22_1 : w20.cell? ⟨gb283, 1, none⟩ = some (.int .i64 a0_1) := (blk_cell BK283.out 1).trans rfl; have hcz22_2 : w20.cell? ⟨gb283, 2, none⟩ = some (.slice A0_2 l0_2.length c0_2) := (blk_cell BK283.out 2).trans rfl; have hfz22_0 := blk_frozen BK283.out 0; have hfz22_1 := blk_frozen BK283.out 1; have hfz22_2 := blk_frozen BK283.out 2; have hcz23_0 : w20.cell? ⟨gb284, 0, none⟩ = some (.int .i64 a1_0) := (blk_cell BK284.out 0).trans rfl; have hcz23_1 : w20.cell? ⟨gb284, 1, none⟩ = some (.int .i64 a1_1) := (blk_cell BK284.out 1).trans rfl; have hcz23_2 : w20.cell? ⟨gb284, 2, none⟩ = some (.slice A1_2 l1_2.length c1_2) := (blk_cell BK284.out 2).trans rfl; have hfz23_0 := blk_frozen BK284.out 0; have hfz23_1 := blk_frozen BK284.out 1; have hfz23_2 := blk_frozen BK284.out 2))
      go_ret
      exact ⟨mE, mB⟩
  · rw [if_neg c3] at H
    have c3b0 : (a0_0 == a1_0) = false := beq_eq_false_iff_ne.mpr c3
    have c3b1 : (a0_0 != a1_0) = true := bne_iff_ne.mpr c3
    obtain rfl := Option.some.inj H
    go_enter Try.func23, Try.ntmps23
    go_wp2_with (first | ((with_reducible refine gate_dst (N := 2) rfl ?_); refine box_event ?hg (N := 2) ?hd (cs := #[.int .i64 a0_0, .int .i64 a0_1, .slice A0_2 l0_2.length c0_2]) (t := 44) ?hr ?_; (case hd => rfl); (case hg => rfl); (case hr => first | (go_simp; done) | (go_simp; rfl)); intro gb283 hg w24 hbox hb; have n0_ := Aside0.mk (below_step mB hb); have n1_ := Aside0.mk (hbox); have n2_ := Aside0.mk ((mG : w.heap.size ≤ gb283)); have n3_ := Aside0.mk ((mG : w.heap.size ≤ gb283)); clear HB; have HB := n0_; have BK283 := n1_; have GW283 := n2_; have GE283 := n3_; clear n0_ n1_ n2_ n3_; clear hb hbox hg) | ((with_reducible refine gate_dst (N := 3) rfl ?_); refine box_event ?hg (N := 3) ?hd (cs := #[.int .i64 a1_0, .int .i64 a1_1, .slice A1_2 l1_2.length c1_2]) (t := 44) ?hr ?_; (case hd => rfl); (case hg => rfl); (case hr => first | (go_simp; done) | (go_simp; rfl)); intro gb284 hg w25 hbox hb; have n0_ := Aside0.mk (blk_below (g := gb283) (o := .cells #[.int .i64 a0_0, .int .i64 a0_1, .slice A0_2 l0_2.length c0_2] 44 (0, 0)) (mk BK283.out) hb); have n1_ := Aside0.mk (below_step mB hb); have n2_ := Aside0.mk (hbox); have n3_ := Aside0.mk ((mG : w.heap.size ≤ gb284)); have n4_ := Aside0.mk ((mG : w.heap.size ≤ gb284)); have n5_ := Aside0.mk ((by rw [hg]; exact Nat.ne_of_lt (blk_lt (g := gb283) (o := .cells #[.int .i64 a0_0, .int .i64 a0_1, .slice A0_2 l0_2.length c0_2] 44 (0, 0)) (mk BK283.out)) : gb283 ≠ gb284)); have n6_ := Aside0.mk ((by rw [hg]; exact Nat.ne_of_gt (blk_lt (g := gb283) (o := .cells #[.int .i64 a0_0, .int .i64 a0_1, .slice A0_2 l0_2.length c0_2] 44 (0, 0)) (mk BK283.out)) : gb284 ≠ gb283)); clear BK283; clear HB; have BK283 := n0_; have HB := n1_; have BK284 := n2_; have GW284 := n3_; have GE284 := n4_; have NB283_284 := n5_; have NB284_283 := n6_; clear n0_ n1_ n2_ n3_ n4_ n5_ n6_; clear hb hbox hg; have hnb26 := NB283_284.out; have hnc26 := NB284_283.out; have hcz27_0 : w25.cell? ⟨gb283, 0, none⟩ = some (.int .i64 a0_0) := (blk_cell BK283.out 0).trans rfl; have hcz27_1 : w25.cell? ⟨gb283, 1, none⟩ = some (.int .i64 a0_1) := (blk_cell BK283.out 1).trans rfl; have hcz27_2 : w25.cell? ⟨gb283, 2, none⟩ = some (.slice A0_2 l0_2.length c0_2) := (blk_cell BK283.out 2).trans rfl; have hfz27_0 := blk_frozen BK283.out 0; have hfz27_1 := blk_frozen BK283.out 1; have hfz27_2 := blk_frozen BK283.out 2; have hcz28_0 : w25.cell? ⟨gb284, 0, none⟩ = some (.int .i64 a1_0) := (blk_cell BK284.out 0).trans rfl; have hcz28_1 : w25.cell? ⟨gb284, 1, none⟩ = some (.int .i64 a1_1) := (blk_cell BK284.out 1).trans rfl; have hcz28_2 : w25.cell? ⟨gb284, 2, none⟩ = some (.slice A1_2 l1_2.length c1_2) := (blk_cell BK284.out 2).trans rfl; have hfz28_0 := blk_frozen BK284.out 0; have hfz28_1 := blk_frozen BK284.out 1; have hfz28_2 := blk_frozen BK284.out 2))
    go_ret
    exact ⟨mE, mB⟩

end Go.Proofs.Ytpeihdjefpnoaaa.EFnExactFreeNumber
