/- The library contracts for rows of whole numbers (slices.Sort, Reverse, Compact), laid over this program in plain words, and told in the words of the printed texts. -/
import Derived.Shelf.SortM.Plain
import Derived.Shelf.SlicesE.Reverse
import Derived.Shelf.SlicesE.Compact
import Derived.Sort.OwnSortedInts
import Derived.Test.YtpegpdcdcfcgdaaProg
import Derived.Test.YtpegpdcdcfcgdaaWKept
import Derived.Test.YtpegpdcdcfcgdaaWShare
import Derived.Test.YtpegpdcdcfcgdaaWMore
namespace Go.Proofs
open Go.Shelf
def Try.l40_ren : Go.Shelf.Ren := ⟨fun | 5 => 40 | 8 => 44 | 7 => 43 | 19 => 54 | 20 => 55 | 10 => 45 | 11 => 46 | 12 => 47 | 13 => 48 | 14 => 49 | 15 => 50 | 16 => 51 | 17 => 52 | 18 => 53 | 30 => 56 | 31 => 57 | 32 => 58 | 33 => 59 | 34 => 60 | 35 => 61 | 40 => 62 | n => n, fun | 23 => 22 | 25 => 2 | 3 => 3 | 32 => 57 | 22 => 22 | 0 => 0 | 44 => 70 | 46 => 54 | 4 => 4 | 36 => 62 | 35 => 61 | 41 => 67 | 5 => 5 | 9 => 9 | 53 => 72 | 57 => 76 | 63 => 78 | 64 => 79 | n => n, fun | n => n⟩
theorem Try.l40 : Go.Proofs.SlLaysM.n5 Try.prog Try.l40_ren := {
  mixed := by kernel_rfl
  f5 := ⟨Try.f40.name, by decide, Try.func40.trans (congrArg some (by kernel_rfl))⟩
  f7 := ⟨Try.f43.name, by decide, Try.func43.trans (congrArg some (by kernel_rfl))⟩
  f8 := Try.func44.trans (congrArg some (by kernel_rfl))
  f10 := ⟨Try.f45.name, by decide, Try.func45.trans (congrArg some (by kernel_rfl))⟩
  f11 := ⟨Try.f46.name, by decide, Try.func46.trans (congrArg some (by kernel_rfl))⟩
  f12 := ⟨Try.f47.name, by decide, Try.func47.trans (congrArg some (by kernel_rfl))⟩
  f13 := ⟨Try.f48.name, by decide, Try.func48.trans (congrArg some (by kernel_rfl))⟩
  f14 := ⟨Try.f49.name, by decide, Try.func49.trans (congrArg some (by kernel_rfl))⟩
  f15 := ⟨Try.f50.name, by decide, Try.func50.trans (congrArg some (by kernel_rfl))⟩
  f16 := ⟨Try.f51.name, by decide, Try.func51.trans (congrArg some (by kernel_rfl))⟩
  f17 := ⟨Try.f52.name, by decide, Try.func52.trans (congrArg some (by kernel_rfl))⟩
  f18 := ⟨Try.f53.name, by decide, Try.func53.trans (congrArg some (by kernel_rfl))⟩
  f19 := Try.func54.trans (congrArg some (by kernel_rfl))
  f20 := Try.func55.trans (congrArg some (by kernel_rfl))
  f30 := ⟨Try.f56.name, by decide, Try.func56.trans (congrArg some (by kernel_rfl))⟩
  f31 := Try.func57.trans (congrArg some (by kernel_rfl))
  f32 := Try.func58.trans (congrArg some (by kernel_rfl))
  f33 := ⟨Try.f59.name, by decide, Try.func59.trans (congrArg some (by kernel_rfl))⟩
  f34 := ⟨Try.f60.name, by decide, Try.func60.trans (congrArg some (by kernel_rfl))⟩
  f35 := ⟨Try.f61.name, by decide, Try.func61.trans (congrArg some (by kernel_rfl))⟩
  f40 := ⟨Try.f62.name, by decide, Try.func62.trans (congrArg some (by kernel_rfl))⟩
  t0 := Try.underlying0
  a0 := Try.isAgg0
  z0 := Try.sizeOf0
  v0 := Try.zeroValue0
  t3 := Try.underlying3
  a3 := Try.isAgg3
  z3 := Try.sizeOf3
  v3 := Try.zeroValue3
  t4 := Try.underlying4
  a4 := Try.isAgg4
  z4 := Try.sizeOf4
  v4 := Try.zeroValue4
  t5 := Try.underlying5
  a5 := Try.isAgg5
  z5 := Try.sizeOf5
  v5 := Try.zeroValue5
  t9 := Try.underlying9
  a9 := Try.isAgg9
  z9 := Try.sizeOf9
  v9 := Try.zeroValue9
  t22 := Try.underlying22
  a22 := Try.isAgg22
  z22 := Try.sizeOf22
  v22 := Try.zeroValue22
  t23 := Try.underlying22
  a23 := Try.isAgg22
  z23 := Try.sizeOf22
  v23 := Try.zeroValue22
  t25 := Try.underlying2
  a25 := Try.isAgg2
  z25 := Try.sizeOf2
  v25 := Try.zeroValue2
  t32 := Try.underlying57
  a32 := Try.isAgg57
  z32 := Try.sizeOf57
  v32 := Try.zeroValue57
  t35 := Try.underlying61
  a35 := Try.isAgg61
  z35 := Try.sizeOf61
  v35 := Try.zeroValue61
  t36 := Try.underlying62
  a36 := Try.isAgg62
  z36 := Try.sizeOf62
  v36 := Try.zeroValue62
  t41 := Try.underlying67
  a41 := Try.isAgg67
  z41 := Try.sizeOf67
  v41 := Try.zeroValue67
  t44 := Try.underlying70
  a44 := Try.isAgg70
  z44 := Try.sizeOf70
  v44 := Try.zeroValue70
  t46 := Try.underlying54
  a46 := Try.isAgg54
  z46 := Try.sizeOf54
  v46 := Try.zeroValue54
  t53 := Try.underlying72
  a53 := Try.isAgg72
  z53 := Try.sizeOf72
  v53 := Try.zeroValue72
  t57 := Try.underlying76
  a57 := Try.isAgg76
  z57 := Try.sizeOf76
  v57 := Try.zeroValue76
  t63 := Try.underlying78
  a63 := Try.isAgg78
  z63 := Try.sizeOf78
  v63 := Try.zeroValue78
  t64 := Try.underlying79
  a64 := Try.isAgg79
  z64 := Try.sizeOf79
  v64 := Try.zeroValue79 }
def Try.l42_ren : Go.Shelf.Ren := ⟨fun | 35 => 42 | n => n, fun | 22 => 22 | 23 => 2 | 3 => 3 | 4 => 4 | 0 => 0 | n => n, fun | n => n⟩
theorem Try.l42 : Go.Proofs.SlLaysE.n35 Try.prog Try.l42_ren := {
  mixed := by kernel_rfl
  f35 := ⟨Try.f42.name, by decide, Try.func42.trans (congrArg some (by kernel_rfl))⟩
  t0 := Try.underlying0
  a0 := Try.isAgg0
  z0 := Try.sizeOf0
  v0 := Try.zeroValue0
  t3 := Try.underlying3
  a3 := Try.isAgg3
  z3 := Try.sizeOf3
  v3 := Try.zeroValue3
  t4 := Try.underlying4
  a4 := Try.isAgg4
  z4 := Try.sizeOf4
  v4 := Try.zeroValue4
  t22 := Try.underlying22
  a22 := Try.isAgg22
  z22 := Try.sizeOf22
  v22 := Try.zeroValue22
  a23 := Try.isAgg2
  z23 := Try.sizeOf2 }
def Try.l41_ren : Go.Shelf.Ren := ⟨fun | 43 => 41 | n => n, fun | 22 => 22 | 23 => 2 | 3 => 3 | 4 => 4 | 0 => 0 | n => n, fun | n => n⟩
theorem Try.l41 : Go.Proofs.SlLaysE.n43 Try.prog Try.l41_ren := {
  mixed := by kernel_rfl
  f43 := ⟨Try.f41.name, by decide, Try.func41.trans (congrArg some (by kernel_rfl))⟩
  t0 := Try.underlying0
  a0 := Try.isAgg0
  z0 := Try.sizeOf0
  v0 := Try.zeroValue0
  t3 := Try.underlying3
  a3 := Try.isAgg3
  z3 := Try.sizeOf3
  v3 := Try.zeroValue3
  t4 := Try.underlying4
  a4 := Try.isAgg4
  z4 := Try.sizeOf4
  v4 := Try.zeroValue4
  t22 := Try.underlying22
  a22 := Try.isAgg22
  z22 := Try.sizeOf22
  v22 := Try.zeroValue22
  a23 := Try.isAgg2
  z23 := Try.sizeOf2 }
end Go.Proofs
namespace Go.Proofs.YtpegpdcdcfcgdaaX
open Go Go.Shelf Go.RowKit Go.Proofs Go.Proofs.YtpegpdcdcfcgdaaW.PrintWords
set_option linter.unusedVariables false
/-! ### rows of whole numbers of the call's own, met by the library's sorting functions -/
theorem slices_row {w : World} {base e : Nat} {ok : Nat → Prop} {v : Value} {xs : List Int} (h : Kd.R (Kd.int .i64) e w base ok v xs) (hp : 0 < xs.length) : ∃ g cap cur, v = .slice (some ⟨g, 0, none⟩) xs.length cap ∧ ok g ∧ base ≤ g ∧ w.heap[g]? = some (.cells cur e (0, 0)) ∧ xs.length ≤ cap ∧ cap ≤ maxLen ∧ cur.size = cap * 1 ∧ cur.toList.take xs.length = xs.map (Value.int .i64) := by
  have ho := Kd.own_of_R h
  rcases ho.2 with ⟨_, h0⟩ | ⟨g, cap, cur, hv, hb, hh, h1, h2, h3, h4⟩
  · omega
  · subst hv
    refine ⟨g, cap, cur, rfl, h.1 g rfl, hb, hh, h1, h2, h3, ?_⟩
    rw [Nat.mul_one] at h4
    exact h4
theorem slices_put {w0 w : World} {e n : Nat} {os : Array Obj} {ok : Nat → Prop} {g cap : Nat} {cur : Array Value} {xs ts : List Int} (HB : Below w0.heap.size w0 w) (hl : ts.length = xs.length) (hok : ok g) (hb : w0.heap.size ≤ g) (hh : w.heap[g]? = some (.cells cur e (0, 0))) (h1 : xs.length ≤ cap) (h2 : cap ≤ maxLen) (h3 : cur.size = cap * 1) :
    (∀ m, m ≤ ts.length → Kd.R (Kd.int .i64) e (Sort.grow (Sort.putRow (Value.int .i64) (Sort.ahead w n) g 0 ts.toArray) os) w0.heap.size (fun k_ => ok k_ ∨ w.heap.size ≤ k_) (.slice (some ⟨g, 0, none⟩) m cap) (ts.take m)) ∧
      Below w0.heap.size w0 (Sort.grow (Sort.putRow (Value.int .i64) (Sort.ahead w n) g 0 ts.toArray) os) ∧ Kept w (Sort.grow (Sort.putRow (Value.int .i64) (Sort.ahead w n) g 0 ts.toArray) os) (fun k_ => ok k_) := by
  have hg := grownBy_sortedI (w := w) (g := g) (n := n) (os := os) ts.toArray
  have hr : ∀ k, some g = some k → w0.heap.size ≤ k := fun k hk => by injection hk with hk; omega
  refine ⟨fun m hm => ?_, HB.grown hg HB.size hr, Kept.of_grown hg (Kept.refl w _) (fun k hk => .inl (by injection hk with hk; subst hk; exact hok))⟩
  have hs := ownsRow_sortedI (n := n) (os := os) hl hb hh h1 h2 h3
  refine Kd.R_of_own ?_ (fun k hk => .inl (by have : g = k := by simpa [Value.ownBlock] using hk
                                              subst this; exact hok))
  have hml : (ts.take m).length = m := by rw [List.length_take]; omega
  rw [hml]
  rcases hs.2 with ⟨hv, _⟩ | ⟨g', cap', cur', hv, hb', hh', h1', h2', h3', h4'⟩
  · cases hv
  · injection hv with ha _ hc
    injection ha with ha
    injection ha with ha _ _
    subst ha; subst hc
    refine ⟨by simp [encs, hm], .inr ⟨g, cap, cur', rfl, hb', hh', by omega, h2', h3', ?_⟩⟩
    rw [Nat.mul_one] at h4' ⊢
    have h5 := congrArg (List.take m) h4'
    rw [List.take_take, Nat.min_eq_left (by omega)] at h5
    rw [h5]; simp [encs]
theorem slices_end {w : World} : Sort.grow w #[] = w := by simp [Sort.grow]
theorem slices_length {ts xs : List Int} (h : ts.length = xs.length) {v : Value} {w : World} {base e : Nat} {ok : Nat → Prop} {g cap : Nat} (hr : Kd.R (Kd.int .i64) e w base ok (.slice (some ⟨g, 0, none⟩) ts.length cap) (ts.take ts.length)) : Kd.R (Kd.int .i64) e w base ok (.slice (some ⟨g, 0, none⟩) xs.length cap) ts := by
  rw [List.take_length, h] at hr; exact hr
/-! ### slices.Sort -/
def slices_Sort.f (l0 : List Int) : Option (List Int) := if 0 < l0.length then (if l0.length < 1000000000 then some (l0.mergeSort fun x y => decide (x ≤ y)) else none) else none
theorem slices_Sort.calls (P0_ : Nat → Prop) (u9000_ : Value) (l0 : List Int) (r : List Int) (w0 w : World) (hB : Below w0.heap.size w0 w) (ho0 : Kd.R (Kd.int .i64) 2 w w0.heap.size P0_ u9000_ l0) (h : slices_Sort.f l0 = some r) :
    Calls Try.prog 40 #[u9000_] w fun e w' => e = .returned (.tuple #[]) ∧ Kd.R (Kd.int .i64) 2 w' w0.heap.size (fun k_ => (P0_ k_ ∨ w.heap.size ≤ k_)) u9000_ r ∧ Below w0.heap.size w0 w' ∧ Kept w w' (fun k_ => P0_ k_) := by
  unfold slices_Sort.f at h
  by_cases hp : 0 < l0.length
  · rw [if_pos hp] at h
    by_cases hl : l0.length < 1000000000
    · rw [if_pos hl] at h
      obtain rfl := Option.some.inj h
      obtain ⟨g, cap, cur, rfl, hok, hb, hh, h1, h2, h3, h4⟩ := slices_row ho0 hp
      refine (AnyM.slices_Sort_int Try.l40 g 0 cap l0 w (holds_of_blockI hh h4) (Array.getElem?_eq_some_iff.1 hh).1 (by omega)).mono ?_
      rintro e w' ⟨rfl, n, os, rfl⟩
      have hlen : (l0.mergeSort fun x y => decide (x ≤ y)).length = l0.length := List.length_mergeSort _
      obtain ⟨a, b, c⟩ := slices_put (ts := l0.mergeSort fun x y => decide (x ≤ y)) (n := n) (os := os) hB hlen hok hb hh h1 h2 h3
      exact ⟨rfl, slices_length hlen (a _ (Nat.le_refl _)) (v := .tuple #[]), b, c⟩
    · rw [if_neg hl] at h; cases h
  · rw [if_neg hp] at h; cases h
/-! ### slices.Reverse -/
def slices_Reverse.f (l0 : List Int) : Option (List Int) := if 0 < l0.length then (if l0.length < 1000000000 then some l0.reverse else none) else none
theorem slices_Reverse.calls (P0_ : Nat → Prop) (u9000_ : Value) (l0 : List Int) (r : List Int) (w0 w : World) (hB : Below w0.heap.size w0 w) (ho0 : Kd.R (Kd.int .i64) 2 w w0.heap.size P0_ u9000_ l0) (h : slices_Reverse.f l0 = some r) :
    Calls Try.prog 42 #[u9000_] w fun e w' => e = .returned (.tuple #[]) ∧ Kd.R (Kd.int .i64) 2 w' w0.heap.size (fun k_ => (P0_ k_ ∨ w.heap.size ≤ k_)) u9000_ r ∧ Below w0.heap.size w0 w' ∧ Kept w w' (fun k_ => P0_ k_) := by
  unfold slices_Reverse.f at h
  by_cases hp : 0 < l0.length
  · rw [if_pos hp] at h
    by_cases hl : l0.length < 1000000000
    · rw [if_pos hl] at h
      obtain rfl := Option.some.inj h
      obtain ⟨g, cap, cur, rfl, hok, hb, hh, h1, h2, h3, h4⟩ := slices_row ho0 hp
      refine (AnyE.slices_Reverse Try.l42 (Value.int .i64) (fun _ => rfl) g 0 cap l0 w (holds_of_blockI hh h4) (by omega)).mono ?_
      rintro e w' ⟨rfl, n, rfl⟩
      obtain ⟨a, b, c⟩ := slices_put (ts := l0.reverse) (n := n) (os := #[]) hB (List.length_reverse) hok hb hh h1 h2 h3
      rw [slices_end] at a b c
      exact ⟨rfl, slices_length (List.length_reverse) (a _ (Nat.le_refl _)) (v := .tuple #[]), b, c⟩
    · rw [if_neg hl] at h; cases h
  · rw [if_neg hp] at h; cases h
theorem slices_Reverse.pos {l r : List Int} (h : slices_Reverse.f l = some r) : r ≠ [] := by
  unfold slices_Reverse.f at h
  by_cases hp : 0 < l.length
  · rw [if_pos hp] at h
    by_cases hl : l.length < 1000000000
    · rw [if_pos hl] at h
      obtain rfl := Option.some.inj h
      intro he
      have := congrArg List.length he
      rw [List.length_reverse, List.length_nil] at this
      omega
    · rw [if_neg hl] at h; cases h
  · rw [if_neg hp] at h; cases h
/-! ### slices.Compact -/
def slices_Compact.f (l0 : List Int) : Option (List Int) := if 0 < l0.length then (if l0.length < 1000000000 then some (Go.Lib.compactUpTo l0.toArray l0.length) else none) else none
theorem slices_Compact.calls (P0_ : Nat → Prop) (u9000_ : Value) (l0 : List Int) (r : List Int) (w0 w : World) (hB : Below w0.heap.size w0 w) (ho0 : Kd.R (Kd.int .i64) 2 w w0.heap.size P0_ u9000_ l0) (h : slices_Compact.f l0 = some r) :
    Calls Try.prog 41 #[u9000_] w fun e w' => ∃ v0_ : Value, e = .returned v0_ ∧ Kd.R (Kd.int .i64) 2 w' w0.heap.size (fun k_ => (P0_ k_ ∨ w.heap.size ≤ k_)) v0_ r ∧ Below w0.heap.size w0 w' ∧ Kept w w' (fun k_ => P0_ k_) := by
  unfold slices_Compact.f at h
  by_cases hp : 0 < l0.length
  · rw [if_pos hp] at h
    by_cases hl : l0.length < 1000000000
    · rw [if_pos hl] at h
      obtain rfl := Option.some.inj h
      obtain ⟨g, cap, cur, rfl, hok, hb, hh, h1, h2, h3, h4⟩ := slices_row ho0 hp
      have hcl : (Go.Lib.compactUpTo l0.toArray l0.length).length ≤ l0.length := by
        unfold Go.Lib.compactUpTo
        rw [List.length_map]
        exact Nat.le_trans (List.length_filter_le _ _) (by rw [List.length_range]; exact Nat.le_refl _)
      have hC := AnyE.slices_Compact Try.l41 (Value.int .i64) (fun _ => rfl) (EqlAt.intD _ _ _) (NeqAt.intD _ _ _) 0 (fun w => Try.zeroValue2 w) g 0 cap l0.toArray w (holds_of_blockI hh h4) (by simp; omega) (by simpa using h1)
      simp only [List.size_toArray] at hC
      refine hC.mono ?_
      rintro e w' ⟨rfl, n, rfl⟩
      have hlen : (Go.Lib.compactUpTo l0.toArray l0.length ++ List.replicate (l0.length - (Go.Lib.compactUpTo l0.toArray l0.length).length) 0).length = l0.length := by rw [List.length_append, List.length_replicate]; omega
      obtain ⟨a, b, c⟩ := slices_put (ts := Go.Lib.compactUpTo l0.toArray l0.length ++ List.replicate (l0.length - (Go.Lib.compactUpTo l0.toArray l0.length).length) 0) (n := n) (os := #[]) hB hlen hok hb hh h1 h2 h3
      rw [slices_end] at a b c
      have a1 := a (Go.Lib.compactUpTo l0.toArray l0.length).length (by omega)
      rw [List.take_left'  rfl] at a1
      exact ⟨_, rfl, a1, b, c⟩
    · rw [if_neg hl] at h; cases h
  · rw [if_neg hp] at h; cases h
end Go.Proofs.YtpegpdcdcfcgdaaX
