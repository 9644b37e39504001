/- The program's operations on plain typed data, that the machine does the same, what the functions come to, and what they give (part 7). No condition. -/
import Derived.Test.YtmdpmnjnpnjppaaEA4206
set_option linter.unusedVariables false
set_option linter.unusedSimpArgs false
namespace Go.Proofs.YtmdpmnjnpnjppaaEv
open Go Go.RowKit Go.Proofs
theorem getD_preM {pre r : List Mat} {t d : Mat} : (pre ++ t :: r).getD pre.length d = t := by
  rw [List.getD_eq_getElem?_getD, List.getElem?_append_right (Nat.le_refl _)]; simp
theorem getD_appM {a b : List Mat} {i : Nat} {d : Mat} (h : i < a.length) : (a ++ b).getD i d = a.getD i d := by
  rw [List.getD_eq_getElem?_getD, List.getD_eq_getElem?_getD, List.getElem?_append_left h]
def inF (p n : Int) (a : Mat) : List Mat → List Mat → Option (List Mat)
  | [], all => some all
  | x :: r, all => if timW p n a x ∈ all then inF p n a r all else if 48 < all.length + 1 then none else inF p n a r (all ++ [timW p n a x])
theorem in413 {p n : Int} {X : List Mat} {z0 z1 : Int} {z2 : List Mat} {g75 : G75} {g128 : G128} (hp : p ≠ 0) (hn : n = 1 ∨ n = 2 ∨ n = 3) {i : Nat} {F0 : Nat} {kx : ShVal sh106_6 → Option R106} :
    ∀ (r pre all : List Mat) (F : Nat), r.length < F → pre ++ r = X → X.length ≤ 1000000 → i < all.length → all.length ≤ 48 →
    iter (fun s k => st106_6 g75 g128 cf139 cf140 F0 s k kx) F ((p, ()), ((n, ()), ((X, ()), ((z0, z1, z2, ()), ((all, ()), (((i : Int), ()), (((pre.length : Int), ()), ()))))))) =
      match inF p n (atM all i) r all with
      | none => some ((0, 0, [], ()), false, ())
      | some all' => kx ((p, ()), ((n, ()), ((X, ()), ((z0, z1, z2, ()), ((all', ()), (((i : Int), ()), (((X.length : Int), ()), ())))))))
  | [], pre, all, F, hF, hX, hl, hi, ha => by
    obtain ⟨F, rfl⟩ : ∃ f, F = f + 1 := ⟨F - 1, by simp at hF; omega⟩
    rw [List.append_nil] at hX; subst hX
    simp only [iter, st106_6]
    rw [dln_t (by omega), cond_true, ofn, dlt_f (by omega), cond_false]
    rfl
  | x :: r, pre, all, F, hF, hX, hl, hi, ha => by
    obtain ⟨F, rfl⟩ : ∃ f, F = f + 1 := ⟨F - 1, by simp at hF; omega⟩
    have hlen : pre.length < X.length := by rw [← hX]; simp
    have hx : ∀ d, X.getD pre.length d = x := fun d => by rw [← hX]; exact getD_preM
    simp only [iter, st106_6]
    rw [dln_t (by omega), cond_true, ofn, dlt_t (by omega), cond_true, ofn, ib_t (by omega) (by omega), cond_true, ib_t (by omega) (by omega), cond_true, tn_cast, tn_cast, hx]
    rw [show all.getD i (Ty.dflt (.arr 3 (.arr 3 (.int .u8)))) = atM all i from rfl, g140_ok hp hn]
    simp only
    rw [g139_ok (m := timW p n (atM all i) x) (L := all) (by omega)]
    simp only
    rw [fndI_neg]
    have hw : w6 ((pre.length : Int) + 1) = (((pre ++ [x]).length : Nat) : Int) := by rw [w6_id (by omega) (by omega)]; simp
    by_cases hm : timW p n (atM all i) x ∈ all
    · have ih := in413 (kx := kx) (F0 := F0) (z0 := z0) (z1 := z1) (z2 := z2) (g75 := g75) (g128 := g128) hp hn (i := i) r (pre ++ [x]) all F (by simp at hF; omega) (by rw [← hX]; simp) hl hi ha
      rw [decide_eq_true hm, Bool.not_true, cond_false, dln_t (by omega), cond_true, dlt_f (by omega), cond_false, hw]
      refine ih.trans ?_
      simp only [inF, if_pos hm]
    · rw [decide_eq_false hm, Bool.not_false, cond_true, grow_t (by simp; omega), cond_true, dln_t (by simp; omega), cond_true, ofn]
      by_cases h48 : 48 < all.length + 1
      · rw [dlt_t (by simp; omega), cond_true]
        simp only [inF, if_neg hm, if_pos h48]
        rfl
      · have ih := in413 (kx := kx) (F0 := F0) (z0 := z0) (z1 := z1) (z2 := z2) (g75 := g75) (g128 := g128) hp hn (i := i) r (pre ++ [x]) (all ++ [timW p n (atM all i) x]) F (by simp at hF; omega) (by rw [← hX]; simp) hl (by simp; omega) (by simp; omega)
        rw [dlt_f (by simp; omega), cond_false, hw]
        refine ih.trans ?_
        have e : atM (all ++ [timW p n (atM all i) x]) i = atM all i := getD_appM hi
        rw [e]
        simp only [inF, if_neg hm, if_neg h48]
theorem in432 {p n : Int} {X : List Mat} {z0 z1 y0 y1 : Int} {z2 : List Mat} {g165 : G104} {g433 : G129} (hp : p ≠ 0) (hn : n = 1 ∨ n = 2 ∨ n = 3) {i : Nat} {F0 : Nat} {kx : ShVal sh107_17 → Option R107} :
    ∀ (r pre all : List Mat) (F : Nat), r.length < F → pre ++ r = X → X.length ≤ 1000000 → i < all.length → all.length ≤ 48 →
    iter (fun s k => st107_17 g165 g433 cf163 cf164 F0 s k kx) F ((p, ()), ((n, ()), ((X, ()), ((z0, z1, z2, ()), ((y0, y1, all, ()), (((i : Int), ()), ((X, ()), (((X.length : Int), ()), (((pre.length : Int), ()), ()))))))))) =
      match inF p n (atM all i) r all with
      | none => some ((0, 0, [], ()), false, ())
      | some all' => kx ((p, ()), ((n, ()), ((X, ()), ((z0, z1, z2, ()), ((y0, y1, all', ()), (((i : Int), ()), ((X, ()), (((X.length : Int), ()), (((X.length : Int), ()), ())))))))))
  | [], pre, all, F, hF, hX, hl, hi, ha => by
    obtain ⟨F, rfl⟩ : ∃ f, F = f + 1 := ⟨F - 1, by simp at hF; omega⟩
    rw [List.append_nil] at hX; subst hX
    simp only [iter, st107_17]
    rw [dlt_f (by omega), cond_false]
    rfl
  | x :: r, pre, all, F, hF, hX, hl, hi, ha => by
    obtain ⟨F, rfl⟩ : ∃ f, F = f + 1 := ⟨F - 1, by simp at hF; omega⟩
    have hlen : pre.length < X.length := by rw [← hX]; simp
    have hx : ∀ d, X.getD pre.length d = x := fun d => by rw [← hX]; exact getD_preM
    simp only [iter, st107_17]
    rw [dlt_t (by omega), cond_true, ofn, ib_t (by omega) (by omega), cond_true, ofn, ib_t (by omega) (by omega), cond_true, tn_cast, tn_cast, hx]
    rw [show all.getD i (Ty.dflt (.arr 3 (.arr 3 (.int .u8)))) = atM all i from rfl, g164_ok hp hn]
    simp only
    rw [g163_ok (p := y0) (n := y1) (m := timW p n (atM all i) x) (L := all) (by omega)]
    simp only
    have hw : w6 ((pre.length : Int) + 1) = (((pre ++ [x]).length : Nat) : Int) := by rw [w6_id (by omega) (by omega)]; simp
    by_cases hm : timW p n (atM all i) x ∈ all
    · have ih := in432 (kx := kx) (F0 := F0) (z0 := z0) (z1 := z1) (z2 := z2) (y0 := y0) (y1 := y1) (g165 := g165) (g433 := g433) hp hn (i := i) r (pre ++ [x]) all F (by simp at hF; omega) (by rw [← hX]; simp) hl hi ha
      rw [decide_eq_true hm, Bool.not_true, cond_false, dln_t (by omega), cond_true, dlt_f (by omega), cond_false, hw]
      refine ih.trans ?_
      simp only [inF, if_pos hm]
    · rw [decide_eq_false hm, Bool.not_false, cond_true, grow_t (by simp; omega), cond_true, dln_t (by simp; omega), cond_true, ofn]
      by_cases h48 : 48 < all.length + 1
      · rw [dlt_t (by simp; omega), cond_true]
        simp only [inF, if_neg hm, if_pos h48]
        rfl
      · have ih := in432 (kx := kx) (F0 := F0) (z0 := z0) (z1 := z1) (z2 := z2) (y0 := y0) (y1 := y1) (g165 := g165) (g433 := g433) hp hn (i := i) r (pre ++ [x]) (all ++ [timW p n (atM all i) x]) F (by simp at hF; omega) (by rw [← hX]; simp) hl (by simp; omega) (by simp; omega)
        rw [dlt_f (by simp; omega), cond_false, hw]
        refine ih.trans ?_
        have e : atM (all ++ [timW p n (atM all i) x]) i = atM all i := getD_appM hi
        rw [e]
        simp only [inF, if_neg hm, if_neg h48]
theorem inF_len {p n : Int} {a : Mat} : ∀ {r all all' : List Mat}, inF p n a r all = some all' → all.length ≤ 48 → all.length ≤ all'.length ∧ all'.length ≤ 48 ∧ (all.Nodup → all'.Nodup) ∧ ∀ m ∈ all', m ∈ all ∨ ∃ x, m = timW p n a x
  | [], all, all', h, hl => by
    simp only [inF, Option.some.injEq] at h
    subst h
    exact ⟨Nat.le_refl _, hl, id, fun m hm => .inl hm⟩
  | x :: r, all, all', h, hl => by
    simp only [inF] at h
    by_cases hm : timW p n a x ∈ all
    · rw [if_pos hm] at h; exact inF_len h hl
    · rw [if_neg hm] at h
      by_cases h48 : 48 < all.length + 1
      · rw [if_pos h48] at h; cases h
      · rw [if_neg h48] at h
        obtain ⟨q1, q2, q3, q4⟩ := inF_len h (by simp; omega)
        refine ⟨by simp at q1; omega, q2, fun hn => q3 ?_, fun m hm' => ?_⟩
        · rw [List.nodup_append]
          refine ⟨hn, by simp, fun u hu v hv => ?_⟩
          rw [List.mem_singleton] at hv
          rintro rfl; subst hv; exact hm hu
        · rcases q4 m hm' with q | q
          · rcases List.mem_append.1 q with q | q
            · exact .inl q
            · exact .inr ⟨x, List.mem_singleton.1 q⟩
          · exact .inr q
def clF (p n : Int) (X : List Mat) : Nat → Nat → List Mat → Option (List Mat)
  | 0, _, all => some all
  | m + 1, i, all => if i < all.length then (match inF p n (atM all i) X all with | none => none | some all' => clF p n X m (i + 1) all') else some all
theorem out413 {p n : Int} {X : List Mat} {z0 z1 : Int} {z2 : List Mat} {g75 : G75} {g128 : G128} (hp : p ≠ 0) (hn : n = 1 ∨ n = 2 ∨ n = 3) (hX : X.length ≤ 1000000) {F0 : Nat} (hF0 : X.length < F0) {kx : ShVal sh106_3 → Option R106} {R : List Mat → Option R106}
    (hk : ∀ all (j : Int), kx ((p, ()), ((n, ()), ((X, ()), ((z0, z1, z2, ()), ((all, ()), ((j, ()), ())))))) = R all) :
    ∀ (m i : Nat) (all : List Mat) (F : Nat), i + m = 49 → m < F → all.length ≤ 48 →
    iter (fun s k => st106_3 g75 g128 cf139 cf140 F0 s k kx) F ((p, ()), ((n, ()), ((X, ()), ((z0, z1, z2, ()), ((all, ()), (((i : Int), ()), ())))))) =
      match clF p n X m i all with
      | none => some ((0, 0, [], ()), false, ())
      | some all' => R all'
  | 0, i, all, F, hi, hF, ha => by
    obtain ⟨F, rfl⟩ : ∃ f, F = f + 1 := ⟨F - 1, by omega⟩
    simp only [iter, st106_3]
    rw [dln_t (by omega), cond_true, ofn, dlt_f (by omega), cond_false, hk]
    rfl
  | m + 1, i, all, F, hi, hF, ha => by
    obtain ⟨F, rfl⟩ : ∃ f, F = f + 1 := ⟨F - 1, by omega⟩
    simp only [iter, st106_3, clF]
    by_cases h : i < all.length
    · rw [dln_t (by omega), cond_true, ofn, dlt_t (by omega), cond_true, if_pos h]
      refine (in413 (z0 := z0) (z1 := z1) (z2 := z2) (g75 := g75) (g128 := g128) hp hn (i := i) X [] all F0 hF0 rfl hX h ha).trans ?_
      cases hc : inF p n (atM all i) X all with
      | none => rfl
      | some all' =>
        obtain ⟨q1, q2, _⟩ := inF_len hc ha
        have ih := out413 (z0 := z0) (z1 := z1) (z2 := z2) (g75 := g75) (g128 := g128) hp hn hX hF0 hk m (i + 1) all' F (by omega) (by omega) q2
        simp only
        rw [w6_id (x := (i : Int) + 1) (by omega) (by omega)]
        exact ih
    · rw [dln_t (by omega), cond_true, ofn, dlt_f (by omega), cond_false, if_neg h, hk]
theorem out432 {p n : Int} {X : List Mat} {z0 z1 y0 y1 : Int} {z2 : List Mat} {g165 : G104} {g433 : G129} (hp : p ≠ 0) (hn : n = 1 ∨ n = 2 ∨ n = 3) (hX : X.length ≤ 1000000) {F0 : Nat} (hF0 : X.length < F0) {kx : ShVal sh107_14 → Option R107} {R : List Mat → Option R107}
    (hk : ∀ all (j : Int), kx ((p, ()), ((n, ()), ((X, ()), ((z0, z1, z2, ()), ((y0, y1, all, ()), ((j, ()), ())))))) = R all) :
    ∀ (m i : Nat) (all : List Mat) (F : Nat), i + m = 49 → m < F → all.length ≤ 48 →
    iter (fun s k => st107_14 g165 g433 cf163 cf164 F0 s k kx) F ((p, ()), ((n, ()), ((X, ()), ((z0, z1, z2, ()), ((y0, y1, all, ()), (((i : Int), ()), ())))))) =
      match clF p n X m i all with
      | none => some ((0, 0, [], ()), false, ())
      | some all' => R all'
  | 0, i, all, F, hi, hF, ha => by
    obtain ⟨F, rfl⟩ : ∃ f, F = f + 1 := ⟨F - 1, by omega⟩
    simp only [iter, st107_14]
    rw [dln_t (by omega), cond_true, ofn, dlt_f (by omega), cond_false, hk]
    rfl
  | m + 1, i, all, F, hi, hF, ha => by
    obtain ⟨F, rfl⟩ : ∃ f, F = f + 1 := ⟨F - 1, by omega⟩
    simp only [iter, st107_14, clF]
    by_cases h : i < all.length
    · rw [dln_t (by omega), cond_true, ofn, dlt_t (by omega), cond_true, dln_t (by omega), cond_true, if_pos h]
      refine (in432 (z0 := z0) (z1 := z1) (z2 := z2) (y0 := y0) (y1 := y1) (g165 := g165) (g433 := g433) hp hn (i := i) X [] all F0 hF0 rfl hX h ha).trans ?_
      cases hc : inF p n (atM all i) X all with
      | none => rfl
      | some all' =>
        obtain ⟨q1, q2, _⟩ := inF_len hc ha
        have ih := out432 (z0 := z0) (z1 := z1) (z2 := z2) (y0 := y0) (y1 := y1) (g165 := g165) (g433 := g433) hp hn hX hF0 hk m (i + 1) all' F (by omega) (by omega) q2
        simp only
        rw [w6_id (x := (i : Int) + 1) (by omega) (by omega)]
        exact ih
    · rw [dln_t (by omega), cond_true, ofn, dlt_f (by omega), cond_false, if_neg h, hk]
def posM (x : Mat) (S : List Mat) : Nat → Nat
  | 0 => 0
  | k + 1 => if keyM x < keyM (atM S k) then posM x S k else k + 1
theorem posM_spec {x : Mat} {S : List Mat} : ∀ k : Nat, posM x S k ≤ k ∧ (∀ j, posM x S k ≤ j → j < k → keyM x < keyM (atM S j)) ∧ (posM x S k = 0 ∨ ¬ keyM x < keyM (atM S (posM x S k - 1)))
  | 0 => ⟨Nat.le_refl _, fun j _ h => by omega, .inl rfl⟩
  | k + 1 => by
    obtain ⟨h1, h2, h3⟩ := posM_spec (x := x) (S := S) k
    simp only [posM]
    by_cases q : keyM x < keyM (atM S k)
    · rw [if_pos q]
      refine ⟨by omega, fun j hj hk => ?_, h3⟩
      rcases Nat.lt_or_ge j k with z | z
      · exact h2 j hj z
      · rw [show j = k by omega]; exact q
    · rw [if_neg q]
      exact ⟨Nat.le_refl _, fun j hj hk => by omega, .inr (by simpa using q)⟩
def insM (S : List Mat) (x : Mat) : List Mat := S.take (posM x S S.length) ++ x :: S.drop (posM x S S.length)
theorem insM_perm {S : List Mat} {x : Mat} : (insM S x).Perm (S ++ [x]) := by
  unfold insM
  refine List.perm_middle.trans ?_
  rw [List.take_append_drop]
  exact (List.perm_append_comm (l₁ := [x]) (l₂ := S))
theorem atM_get {S : List Mat} {j : Nat} (h : j < S.length) : atM S j = S[j] := by unfold atM; rw [List.getD_eq_getElem?_getD, List.getElem?_eq_getElem h]; rfl
theorem insM_srt {S : List Mat} {x : Mat} (h : S.Pairwise fun a b => keyM a ≤ keyM b) : (insM S x).Pairwise fun a b => keyM a ≤ keyM b := by
  obtain ⟨h1, h2, h3⟩ := posM_spec (x := x) (S := S) S.length
  unfold insM
  generalize posM x S S.length = k at h1 h2 h3
  have hs := List.pairwise_iff_getElem.1 h
  have lo : ∀ a ∈ S.take k, keyM a ≤ keyM x := fun a ha => by
    obtain ⟨j, hj, rfl⟩ := List.getElem_of_mem ha
    simp at hj
    rw [List.getElem_take]
    rcases h3 with q | q
    · omega
    · rw [atM_get (show k - 1 < S.length by omega)] at q
      rcases Nat.lt_or_ge j (k - 1) with z | z
      · have := hs j (k - 1) (by omega) (by omega) z; omega
      · have e : j = k - 1 := by omega
        subst e; omega
  have hi : ∀ b ∈ S.drop k, keyM x ≤ keyM b := fun b hb => by
    obtain ⟨j, hj, rfl⟩ := List.getElem_of_mem hb
    simp at hj
    rw [List.getElem_drop]
    have := h2 (k + j) (by omega) (by omega)
    rw [atM_get (show k + j < S.length by omega)] at this
    omega
  rw [List.pairwise_append]
  refine ⟨h.sublist (List.take_sublist _ _), List.pairwise_cons.2 ⟨hi, h.sublist (List.drop_sublist _ _)⟩, fun a ha b hb => ?_⟩
  rcases List.mem_cons.1 hb with rfl | hb
  · exact lo a ha
  · have := lo a ha; have := hi b hb; omega
def srtM : List Mat → List Mat → List Mat
  | [], S => S
  | x :: r, S => srtM r (insM S x)
theorem srtM_ok : ∀ {r S : List Mat}, (S.Pairwise fun a b => keyM a ≤ keyM b) → (srtM r S).Perm (S ++ r) ∧ (srtM r S).Pairwise fun a b => keyM a ≤ keyM b
  | [], S, h => ⟨by simp [srtM], h⟩
  | x :: r, S, h => by
    obtain ⟨q1, q2⟩ := srtM_ok (r := r) (insM_srt (x := x) h)
    refine ⟨q1.trans ?_, q2⟩
    have := (insM_perm (S := S) (x := x)).append_right r
    simpa using this
theorem srtM_eq {l : List Mat} (hn : (l.map keyM).Nodup) : srtM l [] = sortK keyM l := by
  obtain ⟨q1, q2⟩ := srtM_ok (r := l) (S := []) .nil
  exact sortK_unique (by simpa using q1) q2 hn
theorem in418 {X S : List Mat} {z0 z1 y0 y1 : Int} {z2 : List Mat} {i : Nat} (hX : X.all okM = true) (hS : S.all okM = true) (hi : i < X.length) (hXl : X.length ≤ 1000000) (hSl : S.length ≤ 1000000) {F0 : Nat} {kx : ShVal sh128_6 → Option R128} :
    ∀ (k F : Nat), k < F → k ≤ S.length →
    iter (fun s k => st128_6 cf138 F0 s k kx) F ((X, ()), ((z0, z1, z2, ()), ((y0, y1, S, ()), (((i : Int), ()), (((k : Int), ()), ()))))) =
      kx ((X, ()), ((z0, z1, z2, ()), ((y0, y1, S, ()), (((i : Int), ()), (((posM (atM X i) S k : Int), ()), ())))))
  | 0, F, hF, hk => by
    obtain ⟨F, rfl⟩ : ∃ f, F = f + 1 := ⟨F - 1, by omega⟩
    simp only [iter, st128_6]
    rw [dlt_f (by omega), cond_false]
    rfl
  | k + 1, F, hF, hk => by
    obtain ⟨F, rfl⟩ : ∃ f, F = f + 1 := ⟨F - 1, by omega⟩
    have ih := in418 (z0 := z0) (z1 := z1) (z2 := z2) (y0 := y0) (y1 := y1) hX hS hi hXl hSl (F0 := F0) (kx := kx) k F (by omega) (by omega)
    have hw : w6 (((k + 1 : Nat) : Int) - 1) = (k : Int) := (w6_id (by omega) (by omega)).trans (by omega)
    simp only [iter, st128_6]
    rw [dlt_t (by omega), cond_true, ofn, ib_t (by omega) (by omega), cond_true, hw, ofn, ib_t (by omega) (by omega), cond_true, tn_cast, tn_cast]
    rw [show X.getD i (Ty.dflt (.arr 3 (.arr 3 (.int .u8)))) = atM X i from rfl, show S.getD k (Ty.dflt (.arr 3 (.arr 3 (.int .u8)))) = atM S k from rfl, g138_ok (okM_at hX hi) (okM_at hS (by omega))]
    simp only [cond_true, posM]
    by_cases q : keyM (atM X i) < keyM (atM S k)
    · rw [decide_eq_true q, cond_true, if_pos q]; exact ih
    · rw [decide_eq_false q, cond_false, if_neg q]
theorem srtM_snoc {x : Mat} : ∀ {r S : List Mat}, srtM (r ++ [x]) S = insM (srtM r S) x
  | [], S => rfl
  | y :: r, S => by simp only [List.cons_append, srtM]; exact srtM_snoc
theorem srtM_len {r : List Mat} : (srtM r []).length = r.length := by
  have := ((srtM_ok (r := r) (S := []) .nil).1).length_eq
  simpa using this
theorem srtM_mem {r : List Mat} {x : Mat} : x ∈ srtM r [] ↔ x ∈ r := by
  have := ((srtM_ok (r := r) (S := []) .nil).1).mem_iff (a := x)
  simpa using this
theorem srtM_okM {r : List Mat} (h : r.all okM = true) : (srtM r []).all okM = true := List.all_eq_true.2 fun x hx => List.all_eq_true.1 h x (srtM_mem.1 hx)
theorem okM_take {X : List Mat} (h : X.all okM = true) (i : Nat) : (X.take i).all okM = true := List.all_eq_true.2 fun x hx => List.all_eq_true.1 h x (List.mem_of_mem_take hx)
noncomputable def cf418 : G128 := fun x => if (show List Mat from x.2.2.1).all okM = true ∧ (show List Mat from x.2.2.1).length ≤ 1000000 then some ((x.1, x.2.1, srtM x.2.2.1 [], ()), ()) else none
theorem k418 : KOne Try.prog 128 ⟨[.v i64, .v i64, .v (.slice 67 mat)], [.pair i64 (.pair i64 (.pair (.slice 67 mat) .unit))], true, false, 0, cf418⟩ := ok128 _ (.cons k138 .nil) cf418 fun x y h => by
  obtain ⟨p, n, X, _⟩ := x
  change List Mat at X
  simp only [cf418] at h
  split at h
  · rename_i hc
    injection h with h; subst h
    obtain ⟨hX, hl⟩ := hc
    have hX : X.all okM = true := hX
    have hl : X.length ≤ 1000000 := hl
    refine ⟨X.length + 1, ?_⟩
    refine iter_run (step := fun s k => st128_3 cf138 (X.length + 1) s k (fun s' => match s' with | ((t2, _), (t6_0, t6_1, t6_2, _), (t7_0, t7_1, t7_2, _), (t8, _), _) => (some ((t7_0, (t7_1, (t7_2, ()))), ())))) (r := some ((p, n, srtM X [], ()), ())) X.length (X.length + 1) (fun i => ((X, ()), ((0, 0, [], ()), ((p, n, srtM (X.take i) [], ()), (((i : Int), ()), ()))))) (by omega) (fun i hi k => ?_) (fun k => ?_)
    · have hSl : (srtM (X.take i) []).length = i := by rw [srtM_len]; simp; omega
      have hSo := srtM_okM (okM_take hX i)
      have hs : srtM (X.take (i + 1)) [] = insM (srtM (X.take i) []) (atM X i) := by rw [take_snoc hi, srtM_snoc, atM_get hi]
      have hpos := (posM_spec (x := atM X i) (S := srtM (X.take i) []) i).1
      simp only [st128_3]
      rw [dln_t (by omega), cond_true, ofn, dlt_t (by omega), cond_true, dln_t (by omega), cond_true]
      refine (in418 hX hSo hi hl (by omega) (srtM (X.take i) []).length (X.length + 1) (by omega) (Nat.le_refl _)).trans ?_
      rw [hs]
      unfold insM
      rw [hSl]
      generalize posM (atM X i) (srtM (X.take i) []) i = q at hpos
      simp only
      rw [ofn, ib_t (by omega) (by omega), cond_true, ofn, decide_eq_true (show (0 : Int) ≤ (q : Int) by omega), decide_eq_true (show (q : Int) ≤ (i : Int) by omega), decide_eq_true (show (i : Int) ≤ (i : Int) by omega)]
      simp only [Bool.and_self, cond_true, tn_cast]
      rw [show X.getD i (Ty.dflt (.arr 3 (.arr 3 (.int .u8)))) = atM X i from rfl]
      rw [grow_t (by simp; omega), cond_true, decide_eq_true (show (0 : Int) ≤ 0 by omega)]
      simp only [Bool.and_self, cond_true]
      rw [grow_t (by simp; omega), cond_true, grow_t (by simp; omega), cond_true, w6_id (by omega) (by omega)]
      rw [show tn (0 : Int) = 0 from rfl]
      have e1 : (srtM (X.take i) []).take i = srtM (X.take i) [] := List.take_of_length_le (by omega)
      rw [e1, List.drop_zero, List.nil_append]
      rfl
    · simp only [st128_3]
      rw [dln_t (by omega), cond_true, ofn, dlt_f (by omega), cond_false, List.take_length]
  · cases h
theorem w8_kwf (x : Int) : kwf .u8 (w8 x) = true := by
  have h : w8 x = x % 256 := by simp [w8, IntKind.wrap, IntKind.bits, IntKind.signed]
  rw [h]
  simp [kwf, IntKind.min, IntKind.max, IntKind.bits, IntKind.signed]
  omega
theorem okM_timW {p n : Int} {g h : Mat} : okM (timW p n g h) = true := by
  have z0 : kwf .u8 0 = true := by decide
  unfold timW
  split
  · simp [tim1, mat3, row3, okM, okV, okV.okT, mdW, w8_kwf, z0]
  · split
    · simp [tim2, mat3, row3, okM, okV, okV.okT, mdW, w8_kwf, z0]
    · simp [tim3, mat3, row3, okM, okV, okV.okT, mdW, w8_kwf, z0]
theorem okM_uniM {n : Int} : okM (uniM n) = true := by
  unfold uniM
  split
  · decide
  · split <;> decide
theorem clF_ok {p n : Int} {X : List Mat} : ∀ {m i : Nat} {all all' : List Mat}, clF p n X m i all = some all' → all.length ≤ 48 → all.Nodup → all.all okM = true → all'.length ≤ 48 ∧ all'.Nodup ∧ all'.all okM = true
  | 0, i, all, all', h, hl, hd, ho => by
    simp only [clF, Option.some.injEq] at h
    subst h; exact ⟨hl, hd, ho⟩
  | m + 1, i, all, all', h, hl, hd, ho => by
    simp only [clF] at h
    by_cases q : i < all.length
    · rw [if_pos q] at h
      cases hc : inF p n (atM all i) X all with
      | none => rw [hc] at h; cases h
      | some a2 =>
        rw [hc] at h
        obtain ⟨q1, q2, q3, q4⟩ := inF_len hc hl
        exact clF_ok (all := a2) h q2 (q3 hd) (List.all_eq_true.2 fun x hx => by
          rcases q4 x hx with z | ⟨y, rfl⟩
          · exact List.all_eq_true.1 ho x z
          · exact okM_timW)
    · rw [if_neg q, Option.some.injEq] at h
      subst h; exact ⟨hl, hd, ho⟩
def clR (p n : Int) (X : List Mat) : R106 := match clF p n X 49 0 [uniM n] with
  | none => ((0, 0, [], ()), false, ())
  | some all => ((p, n, srtM all [], ()), true, ())
noncomputable def cf413 : G106 := by
  classical exact fun x => if x.1 ≠ 0 ∧ (x.2.1 = 1 ∨ x.2.1 = 2 ∨ x.2.1 = 3) ∧ (show List Mat from x.2.2.1).length ≤ 1000000 then some (clR x.1 x.2.1 x.2.2.1) else none
theorem k413 : KOne Try.prog 106 ⟨[.v i64, .v i64, .v (.slice 67 mat)], [.pair i64 (.pair i64 (.pair (.slice 67 mat) .unit)), .bool], true, false, 0, cf413⟩ := ok106 _ _ _ _ (.cons k141 (.cons k418 (.cons k139 (.cons k140 .nil)))) cf413 fun x y h => by
  obtain ⟨p, n, X, _⟩ := x
  change List Mat at X
  change Int at p
  change Int at n
  simp only [cf413] at h
  split at h
  · rename_i hc
    injection h with h; subst h
    obtain ⟨hp, hn, hX⟩ := hc
    have hp : p ≠ 0 := hp
    have hn : n = 1 ∨ n = 2 ∨ n = 3 := hn
    have hX : X.length ≤ 1000000 := hX
    refine ⟨X.length + 100, ?_⟩
    simp only [fn106]
    rw [g141_ok hn]
    simp only
    refine (out413 (R := fun all => match cf418 (p, n, all, ()) with | some r20 => some ((r20.1.1, r20.1.2.1, r20.1.2.2.1, ()), true, ()) | none => none) hp hn hX (F0 := X.length + 100) (by omega) (fun all j => rfl) 49 0 [uniM n] (X.length + 100) rfl (by omega) (by simp)).trans ?_
    unfold clR
    cases hc : clF p n X 49 0 [uniM n] with
    | none => rfl
    | some all =>
      obtain ⟨q1, q2, q3⟩ := clF_ok hc (by simp) (by simp) (by simp [okM_uniM])
      have e : cf418 (p, n, all, ()) = some ((p, n, srtM all [], ()), ()) := if_pos ⟨q3, by show all.length ≤ _; omega⟩
      simp only
      rw [e]
  · cases h
theorem mget_log {k : Mat} : ∀ {l : List Mat}, mget mat .bool (l.map fun x => ((x, true) : mat.den × (Ty.bool).den)) k = decide (k ∈ l)
  | [] => rfl
  | x :: l => by
    simp only [List.map_cons, mget]
    cases hb : mat.eqd x k with
    | true =>
      have := (eqd_key (kt := mat) rfl).1 hb
      subst this
      simp
    | false =>
      have hne : ¬ k = x := fun e => by subst e; rw [(eqd_key (kt := mat) rfl).2 rfl] at hb; cases hb
      rw [cond_false, mget_log]
      by_cases q : k ∈ l
      · simp [q]
      · simp [q, hne]
def logX (X : List Mat) (i : Nat) : List (mat.den × (Ty.bool).den) := (X.take i).reverse.map fun x => (x, true)
theorem run432_4 {p n : Int} {X : List Mat} {z0 z1 y0 y1 : Int} {z2 y2 : List Mat} {g165 : G104} {g433 : G129} {g163 : G102} {g164 : G103} (hd : X.Nodup) (hX : X.length ≤ 1000000) {F0 F : Nat} (hF : X.length < F) {kx : ShVal sh107_4 → Option R107} :
    iter (fun s k => st107_4 g165 g433 g163 g164 F0 s k kx) F ((p, ()), ((n, ()), ((z0, z1, z2, ()), ((y0, y1, y2, ()), ([], (([], ()), ((X, ()), (((X.length : Int), ()), (((0 : Int), ()), ()))))))))) =
      kx ((p, ()), ((n, ()), ((z0, z1, z2, ()), ((y0, y1, y2, ()), (logX X X.length, ((X, ()), ((X, ()), (((X.length : Int), ()), (((X.length : Int), ()), ()))))))))) := by
  have key := iter_run (step := fun s k => st107_4 g165 g433 g163 g164 F0 s k kx) (r := kx ((p, ()), ((n, ()), ((z0, z1, z2, ()), ((y0, y1, y2, ()), (logX X X.length, ((X, ()), ((X, ()), (((X.length : Int), ()), (((X.length : Int), ()), ())))))))))) X.length F (fun i => ((p, ()), ((n, ()), ((z0, z1, z2, ()), ((y0, y1, y2, ()), (logX X i, ((X.take i, ()), ((X, ()), (((X.length : Int), ()), (((i : Int), ()), ())))))))))) hF (fun i hi k => ?_) (fun k => ?_)
  · exact key
  · simp only [st107_4]
    rw [dlt_t (by omega), cond_true, ofn, ib_t (by omega) (by omega), cond_true, tn_cast]
    rw [show X.getD i (Ty.dflt (.arr 3 (.arr 3 (.int .u8)))) = atM X i from rfl]
    have hm : mget (.arr 3 (.arr 3 (.int .u8))) .bool (logX X i) (atM X i) = false := by
      show mget mat .bool ((X.take i).reverse.map fun x => (x, true)) (atM X i) = false
      rw [mget_log, decide_eq_false]
      rw [List.mem_reverse, atM_get hi]
      intro hmem
      obtain ⟨j, hj, e⟩ := List.getElem_of_mem hmem
      simp at hj
      rw [List.getElem_take] at e
      have := (List.getElem_inj hd).1 e
      omega
    rw [hm, Bool.not_false, cond_true, grow_t (by simp; omega), cond_true, w6_id (by omega) (by omega)]
    have e1 : X.take i ++ [atM X i] = X.take (i + 1) := by rw [atM_get hi, take_snoc hi]
    have e2 : (atM X i, true) :: logX X i = logX X (i + 1) := by unfold logX; rw [take_snoc hi, List.reverse_append, atM_get hi]; rfl
    rw [← e1, ← e2]
    rfl
  · simp only [st107_4]
    rw [dlt_f (by omega), cond_false, List.take_length]
theorem rk_inj {a b c a' b' c' : Int} (h1 : 0 ≤ a ∧ a ≤ 255) (h2 : 0 ≤ b ∧ b ≤ 255) (h3 : 0 ≤ c ∧ c ≤ 255) (g1 : 0 ≤ a' ∧ a' ≤ 255) (g2 : 0 ≤ b' ∧ b' ≤ 255) (g3 : 0 ≤ c' ∧ c' ≤ 255) (h : 65536 * a + 256 * b + c = 65536 * a' + 256 * b' + c') : a = a' ∧ b = b' ∧ c = c' := by omega
theorem rk3_inj {x y z x' y' z' : Int} (h1 : 0 ≤ x ∧ x < 16777216) (h2 : 0 ≤ y ∧ y < 16777216) (h3 : 0 ≤ z ∧ z < 16777216) (g1 : 0 ≤ x' ∧ x' < 16777216) (g2 : 0 ≤ y' ∧ y' < 16777216) (g3 : 0 ≤ z' ∧ z' < 16777216) (h : 281474976710656 * x + 16777216 * y + z = 281474976710656 * x' + 16777216 * y' + z') : x = x' ∧ y = y' ∧ z = z' := by omega
theorem keyM_inj {A B : Mat} (ha : okM A = true) (hb : okM B = true) (h : keyM A = keyM B) : A = B := by
  have a := okMc_of ha
  have b := okMc_of hb
  have ra : ∀ i, 0 ≤ rkM A i ∧ rkM A i < 16777216 := fun i => by have := a i 0; have := a i 1; have := a i 2; unfold rkM; omega
  have rb : ∀ i, 0 ≤ rkM B i ∧ rkM B i < 16777216 := fun i => by have := b i 0; have := b i 1; have := b i 2; unfold rkM; omega
  obtain ⟨e0, e1, e2⟩ := rk3_inj (ra 0) (ra 1) (ra 2) (rb 0) (rb 1) (rb 2) h
  obtain ⟨p0, p1, p2⟩ := rk_inj (a 0 0) (a 0 1) (a 0 2) (b 0 0) (b 0 1) (b 0 2) e0
  obtain ⟨q0, q1, q2⟩ := rk_inj (a 1 0) (a 1 1) (a 1 2) (b 1 0) (b 1 1) (b 1 2) e1
  obtain ⟨s0, s1, s2⟩ := rk_inj (a 2 0) (a 2 1) (a 2 2) (b 2 0) (b 2 1) (b 2 2) e2
  obtain ⟨⟨a0, a1, a2, _⟩, ⟨a3, a4, a5, _⟩, ⟨a6, a7, a8, _⟩, _⟩ := A
  obtain ⟨⟨b0, b1, b2, _⟩, ⟨b3, b4, b5, _⟩, ⟨b6, b7, b8, _⟩, _⟩ := B
  have p0 : a0 = b0 := p0
  have p1 : a1 = b1 := p1
  have p2 : a2 = b2 := p2
  have q0 : a3 = b3 := q0
  have q1 : a4 = b4 := q1
  have q2 : a5 = b5 := q2
  have s0 : a6 = b6 := s0
  have s1 : a7 = b7 := s1
  have s2 : a8 = b8 := s2
  subst p0; subst p1; subst p2; subst q0; subst q1; subst q2; subst s0; subst s1; subst s2
  rfl
theorem keys_nodup {l : List Mat} (ho : l.all okM = true) (hd : l.Nodup) : (l.map keyM).Nodup := by
  induction l with
  | nil => simp
  | cons x r ih =>
    simp only [List.all_cons, Bool.and_eq_true] at ho
    rw [List.nodup_cons] at hd
    rw [List.map_cons, List.nodup_cons]
    refine ⟨fun hm => ?_, ih ho.2 hd.2⟩
    obtain ⟨y, hy, e⟩ := List.mem_map.1 hm
    have := keyM_inj (List.all_eq_true.1 ho.2 y hy) ho.1 e
    subst this
    exact hd.1 hy
noncomputable def cf432 : G107 := by
  classical exact fun x => if x.1 ≠ 0 ∧ (x.2.1 = 1 ∨ x.2.1 = 2 ∨ x.2.1 = 3) ∧ (show List Mat from x.2.2.1).length ≤ 48 ∧ (show List Mat from x.2.2.1).Nodup then some (clR x.1 x.2.1 x.2.2.1) else none
theorem k432 : KOne Try.prog 107 ⟨[.v i64, .v i64, .v (.slice 67 mat)], [.pair i64 (.pair i64 (.pair (.slice 67 mat) .unit)), .bool], true, false, 0, cf432⟩ := ok107 _ _ _ _ (.cons k165 (.cons k433 (.cons k163 (.cons k164 .nil)))) cf432 fun x y h => by
  obtain ⟨p, n, X, _⟩ := x
  change List Mat at X
  change Int at p
  change Int at n
  simp only [cf432] at h
  split at h
  · rename_i hc
    injection h with h; subst h
    obtain ⟨hp, hn, hX, hd⟩ := hc
    have hp : p ≠ 0 := hp
    have hn : n = 1 ∨ n = 2 ∨ n = 3 := hn
    have hX : X.length ≤ 48 := hX
    have hd : X.Nodup := hd
    refine ⟨200, ?_⟩
    simp only [fn107]
    rw [g165_ok hn]
    simp only
    rw [dln_t (by omega), cond_true, ofn]
    refine (run432_4 hd (by omega) (F0 := 200) (F := 200) (by omega)).trans ?_
    simp only
    rw [dln_t (by omega), cond_true, ofn, dlt_f (by omega), cond_false]
    refine (out432 (R := fun all => match cf433 (all, (), ()) with | some r39 => some ((p, n, r39.1, ()), true, ()) | none => none) hp hn (by omega) (F0 := 200) (by omega) (fun all j => rfl) 49 0 [uniM n] 200 rfl (by omega) (by simp)).trans ?_
    unfold clR
    cases hc : clF p n X 49 0 [uniM n] with
    | none => rfl
    | some all =>
      obtain ⟨q1, q2, q3⟩ := clF_ok hc (by simp) (by simp) (by simp [okM_uniM])
      have kn := keys_nodup q3 q2
      simp only
      rw [g433_ok (by omega) (fun r hr => List.all_eq_true.1 q3 r hr) kn, srtM_eq kn]
  · cases h
def refM (L : List Mat) (R : List Int) : List Mat := R.map fun r => atM L (tn r)
def inR2 (L : List Mat) (R : List Int) : Prop := ∀ r ∈ R, 0 ≤ r ∧ r < (L.length : Int)
theorem refM_take {L : List Mat} {R : List Int} {i : Nat} (h : i < R.length) : refM L (R.take (i + 1)) = refM L (R.take i) ++ [atM L (tn (R.getD i 0))] := by
  unfold refM
  rw [take_snoc h, List.map_append, List.getD_eq_getElem?_getD, List.getElem?_eq_getElem h]
  rfl
theorem inR2_at {L : List Mat} {R : List Int} (h : inR2 L R) {i : Nat} (hi : i < R.length) : 0 ≤ R.getD i 0 ∧ R.getD i 0 < (L.length : Int) := by
  rw [List.getD_eq_getElem?_getD, List.getElem?_eq_getElem hi]
  exact h _ (List.getElem_mem hi)
noncomputable def cf430 : G68 := by
  classical exact fun x => if x.1.1 ≠ 0 ∧ (x.1.2.1 = 1 ∨ x.1.2.1 = 2 ∨ x.1.2.1 = 3) ∧ (els x.1).length ≤ 1000000 ∧ (show List Int from x.2.1).length ≤ 48 ∧ inR2 (els x.1) x.2.1 ∧ (refM (els x.1) x.2.1).Nodup then some ((clR x.1.1 x.1.2.1 (refM (els x.1) x.2.1)).1, ()) else none
theorem k430 : KOne Try.prog 68 ⟨[.v (.pair i64 (.pair i64 (.pair (.slice 67 mat) .unit))), .v (.slice 2 i64)], [.pair i64 (.pair i64 (.pair (.slice 67 mat) .unit))], true, false, 0, cf430⟩ := ok68 _ (.cons k432 .nil) cf430 fun x y h => by
  obtain ⟨⟨p, n, L, u⟩, R, _⟩ := x
  change List Mat at L
  change List Int at R
  change Int at p
  change Int at n
  simp only [cf430] at h
  split at h
  · rename_i hc
    injection h with h; subst h
    obtain ⟨hp, hn, hL, hR, hin, hd⟩ := hc
    have hp : p ≠ 0 := hp
    have hn : n = 1 ∨ n = 2 ∨ n = 3 := hn
    have hL : L.length ≤ 1000000 := hL
    have hR : R.length ≤ 48 := hR
    have hin : inR2 L R := hin
    have hd : (refM L R).Nodup := hd
    have e432 : cf432 (p, n, refM L R, ()) = some (clR p n (refM L R)) := if_pos ⟨hp, hn, by show (refM L R).length ≤ 48; simp [refM]; omega, hd⟩
    refine ⟨100, ?_⟩
    simp only [fn68]
    rw [dln_t (by omega), cond_true, ofn]
    refine iter_run (step := fun s k => st68_3 cf432 100 s k _) (r := some ((clR p n (refM L R)).1, ())) R.length 100 (fun i => ((p, n, L, ()), ((0, 0, [], ()), ((refM L (R.take i), ()), ((R, ()), (((R.length : Int), ()), (((i : Int), ()), ()))))))) (by omega) (fun i hi k => ?_) (fun k => ?_)
    · obtain ⟨h0, h1⟩ := inR2_at hin hi
      simp only [st68_3]
      rw [dlt_t (by omega), cond_true, ofn, ib_t (by omega) (by omega), cond_true, tn_cast, ofn, ib_t h0 h1, cond_true]
      rw [show L.getD (tn (R.getD i 0)) (Ty.dflt (.arr 3 (.arr 3 (.int .u8)))) = atM L (tn (R.getD i 0)) from rfl]
      rw [grow_t (by simp [refM]; omega), cond_true, w6_id (by omega) (by omega), refM_take hi]
      rfl
    · simp only [st68_3]
      rw [dlt_f (by omega), cond_false, List.take_length, e432]
  · cases h
theorem srt_lt {g : Gr} (G : IsG g) {i j : Nat} (h : i < j) (hj : j < (els g).length) : keyM (atM (els g) i) < keyM (atM (els g) j) := by
  induction j with
  | zero => omega
  | succ j ih =>
    have := G.srt (j + 1) hj (by omega)
    simp only [Nat.add_sub_cancel] at this
    rcases Nat.lt_or_ge i j with q | q
    · have := ih q (by omega); omega
    · rw [show i = j by omega]; exact this
theorem refl_in {p n : Int} {L : List Mat} : inR2 L (reflL p n L) := fun r hr => by
  unfold reflL accF at hr
  obtain ⟨i, hi, rfl⟩ := List.mem_map.1 hr
  rw [List.mem_filter, List.mem_range] at hi
  exact ⟨by omega, by omega⟩
theorem refl_nodup {p n : Int} {L : List Mat} (G : IsG (p, n, L, ())) : (refM L (reflL p n L)).Nodup := by
  have e : refM L (reflL p n L) = ((List.range L.length).filter (refB p n L)).map (atM L) := by
    unfold refM reflL accF
    rw [List.map_map]
    rfl
  rw [e]
  have hp : ((List.range L.length).filter (refB p n L)).Pairwise fun a b => a < b ∧ b < L.length := by
    have h1 : (List.range L.length).Pairwise (· < ·) := List.pairwise_lt_range
    refine (h1.sublist List.filter_sublist).imp_of_mem fun {a b} ha hb hab => ⟨hab, ?_⟩
    rw [List.mem_filter, List.mem_range] at hb
    exact hb.1
  unfold List.Nodup
  rw [List.pairwise_map]
  refine hp.imp fun {a b} hab e => ?_
  have := srt_lt G hab.1 hab.2
  change keyM (atM L a) < keyM (atM L b) at this
  rw [e] at this
  omega
noncomputable def cf429 : G67 := by
  classical exact fun x => if grB x.1 = true ∧ (els x.1).all okM = true then some ((clR x.1.1 x.1.2.1 (refM (els x.1) (reflL x.1.1 x.1.2.1 (els x.1)))).1, ()) else none
theorem k429 : KOne Try.prog 67 ⟨[.v (.pair i64 (.pair i64 (.pair (.slice 67 mat) .unit)))], [.pair i64 (.pair i64 (.pair (.slice 67 mat) .unit))], true, false, 0, cf429⟩ := ok67 _ _ (.cons k126 (.cons k413 .nil)) cf429 fun x y h => by
  obtain ⟨⟨p, n, L, u⟩, _⟩ := x
  change List Mat at L
  change Int at p
  change Int at n
  simp only [cf429] at h
  split at h
  · rename_i hc
    injection h with h; subst h
    have hg : grB (p, n, L, ()) = true := hc.1
    have ho : L.all okM = true := hc.2
    have G := grB_is hg
    have hp := isP_ne (show isP p = true from G.hP)
    have hn := inR_cases (show inR n = true from G.hR)
    have hl : L.length ≤ 48 := G.len.2
    have hR : (reflL p n L).length ≤ L.length := reflL_len
    have hin : inR2 L (reflL p n L) := refl_in
    have a1 : cf126 ((p, n, L, ()), ()) = some (reflL p n L, ()) := if_pos ⟨hg, ho⟩
    have e413 : cf413 (p, n, refM L (reflL p n L), ()) = some (clR p n (refM L (reflL p n L))) := if_pos ⟨hp, hn, by show (refM L (reflL p n L)).length ≤ 1000000; simp [refM]; omega⟩
    refine ⟨100, ?_⟩
    simp only [fn67]
    rw [a1]
    simp only
    show _ = some ((clR p n (refM L (reflL p n L))).1, ())
    generalize reflL p n L = R at *
    refine iter_run (step := fun s k => st67_3 cf126 cf413 100 s k _) (r := some ((clR p n (refM L R)).1, ())) R.length 100 (fun i => ((p, n, L, ()), ((0, 0, [], ()), ((R, ()), ((refM L (R.take i), ()), (((i : Int), ()), ())))))) (by omega) (fun i hi k => ?_) (fun k => ?_)
    · obtain ⟨h0, h1⟩ := inR2_at hin hi
      simp only [st67_3]
      rw [dln_t (by omega), cond_true, ofn, dlt_t (by omega), cond_true, ib_t (by omega) (by omega), cond_true, tn_cast, ofn, ib_t h0 h1, cond_true]
      rw [show L.getD (tn (R.getD i 0)) (Ty.dflt (.arr 3 (.arr 3 (.int .u8)))) = atM L (tn (R.getD i 0)) from rfl]
      rw [grow_t (by simp [refM]; omega), cond_true, w6_id (by omega) (by omega), refM_take hi]
      rfl
    · simp only [st67_3]
      rw [dln_t (by omega), cond_true, ofn, dlt_f (by omega), cond_false, List.take_length, e413]
  · cases h
noncomputable def cf424 : G32 := fn32 cf72 cf429 0
theorem k424 : KOne Try.prog 32 ⟨[.v (.pair i64 (.pair i64 (.pair (.slice 67 mat) .unit)))], [.bool, i64], false, false, 0, cf424⟩ := ok32 _ _ (.cons k72 (.cons k429 .nil)) cf424 fun x y h => ⟨0, h⟩
noncomputable def cf425 : G33 := fn33 cf127 cf430 cf128 0
theorem k425 : KOne Try.prog 33 ⟨[.v (.pair i64 (.pair i64 (.pair (.slice 67 mat) .unit)))], [.bool, i64], false, false, 0, cf425⟩ := ok33 _ _ _ (.cons k127 (.cons k430 (.cons k128 .nil))) cf425 fun x y h => ⟨0, h⟩
theorem clR_len {p n : Int} {X : List Mat} : (els (clR p n X).1).length ≤ 48 := by
  unfold clR
  cases hc : clF p n X 49 0 [uniM n] with
  | none => simp [els]
  | some all =>
    obtain ⟨q1, q2, q3⟩ := clF_ok hc (by simp) (by simp) (by simp [okM_uniM])
    show (srtM all []).length ≤ 48
    rw [srtM_len]; exact q1
theorem both_group {p n : Int} {L : List Mat} (h : grB (p, n, L, ()) = true) (ho : L.all okM = true) : cf429 ((p, n, L, ()), ()) = some ((clR p n (refM L (reflL p n L))).1, ()) ∧ cf430 ((p, n, L, ()), reflL p n L, ()) = some ((clR p n (refM L (reflL p n L))).1, ()) := by
  have G := grB_is h
  have hl : L.length ≤ 48 := G.len.2
  have hR : (reflL p n L).length ≤ L.length := reflL_len
  exact ⟨if_pos ⟨h, ho⟩, if_pos ⟨isP_ne (show isP p = true from G.hP), inR_cases (show inR n = true from G.hR), by show L.length ≤ 1000000; omega, by show (reflL p n L).length ≤ 48; omega, refl_in, refl_nodup G⟩⟩
theorem same424 {g : Gr} (ho : (els g).all okM = true) (hl : (els g).length ≤ 2000000) : ∃ (b : Bool) (c : Int), cf424 (g, ()) = some (b, c, ()) ∧ cf425 (g, ()) = some (b, c, ()) := by
  obtain ⟨p, n, L, u⟩ := g
  change List Mat at L
  change Int at p
  change Int at n
  have ho : L.all okM = true := ho
  have hl : L.length ≤ 2000000 := hl
  show ∃ (b : Bool) (c : Int), cf424 ((p, n, L, ()), ()) = some (b, c, ()) ∧ cf425 ((p, n, L, ()), ()) = some (b, c, ())
  have e1 : cf72 ((p, n, L, ()), ()) = some (grB (p, n, L, ()), ()) := g72_ok ho hl
  have e2 : cf127 ((p, n, L, ()), ()) = some (grB (p, n, L, ()), ()) := g127_ok ho hl
  simp only [cf424, cf425, fn32, fn33]
  rw [e1, e2]
  cases h : grB (p, n, L, ()) with
  | false => exact ⟨false, 1, rfl, rfl⟩
  | true =>
    obtain ⟨a1, a2⟩ := both_group h ho
    have a3 : cf128 ((p, n, L, ()), ()) = some (reflL p n L, ()) := if_pos ⟨h, ho⟩
    have hc := clR_len (p := p) (n := n) (X := refM L (reflL p n L))
    simp only [Bool.not_true, cond_false]
    rw [a1, a3]
    simp only
    rw [a2]
    generalize (clR p n (refM L (reflL p n L))).1 = A at hc
    have hc : (show List Mat from A.2.2.1).length ≤ 48 := hc
    simp only
    rw [decide_eq_true (show (show List Mat from A.2.2.1).length ≤ 9223372036854775807 by omega), decide_eq_true (show L.length ≤ 9223372036854775807 by omega)]
    exact ⟨_, _, rfl, rfl⟩
open Go Go.RowKit
abbrev R7 : Type := Ress [.bool]
abbrev G7 : Type := Args [.v (.pair i64 (.pair i64 (.pair (.slice 66 mat) .unit)))] → Option R7
abbrev kp7 : List (Nat × List Nat) := [(0, [1]), (1, [3, 1]), (2, [3, 1]), (3, [13, 1]), (4, [2]), (5, [4, 5, 1]), (6, [4, 5, 1, 6]), (7, [7, 4, 8, 5, 1, 6]), (8, [34, 1, 6]), (9, [2]), (10, [39]), (11, [2]), (12, [2])]
abbrev ct7 (g14 : G14) (g33 : G33) (g32 : G32) (g11 : G11) (g9 : G9) : CTab := [(14, ⟨[.v (.pair i64 (.pair i64 (.pair (.slice 67 mat) .unit))), .v (.pair i64 (.pair i64 (.pair (.slice 67 mat) .unit)))], [.bool], false, false, 0, g14⟩), (33, ⟨[.v (.pair i64 (.pair i64 (.pair (.slice 67 mat) .unit)))], [.bool, i64], false, false, 0, g33⟩), (32, ⟨[.v (.pair i64 (.pair i64 (.pair (.slice 67 mat) .unit)))], [.bool, i64], false, false, 0, g32⟩), (11, ⟨[.v (.pair i64 (.pair i64 (.pair (.slice 66 mat) .unit)))], [(.pair i64 (.pair i64 (.pair (.slice 67 mat) .unit)))], true, false, 0, g11⟩), (9, ⟨[.v (.pair i64 (.pair i64 (.pair (.slice 66 mat) .unit))), .v i64], [i64], false, false, 0, g9⟩)]
def fn7 (g14 : G14) (g33 : G33) (g32 : G32) (g11 : G11) (g9 : G9) (F : Nat) (x : Args [.v (.pair i64 (.pair i64 (.pair (.slice 66 mat) .unit)))]) : Option R7 :=
  match x with
  | (x0, _) => (match (g9 ((x0.1, (x0.2.1, (x0.2.2.1, ()))), ((1048576 : Int), ()))) with | some r9 => (bif decide (r9.1 < (0 : Int)) then (some (true, ())) else (match (g11 ((x0.1, (x0.2.1, (x0.2.2.1, ()))), ())) with | some r12 => (match (g32 ((r12.1.1, (r12.1.2.1, (r12.1.2.2.1, ()))), ())) with | some r13 => (match (g11 ((x0.1, (x0.2.1, (x0.2.2.1, ()))), ())) with | some r15 => (match (g33 ((r15.1.1, (r15.1.2.1, (r15.1.2.2.1, ()))), ())) with | some r17 => (bif (!(r17.1 == r13.1)) then (some (false, ())) else (bif (bif false then true else (!decide (r17.2.1 = r13.2.1))) then (some (false, ())) else (match (g11 ((x0.1, (x0.2.1, (x0.2.2.1, ()))), ())) with | some r20 => (match (g14 ((r15.1.1, (r15.1.2.1, (r15.1.2.2.1, ()))), ((r20.1.1, (r20.1.2.1, (r20.1.2.2.1, ()))), ()))) with | some r21 => (bif (!r21.1) then (some (false, ())) else (some (true, ()))) | none => none) | none => none))) | none => none) | none => none) | none => none) | none => none)) | none => none)
theorem ev7 (g14 : G14) (g33 : G33) (g32 : G32) (g11 : G11) (g9 : G9) (F : Nat) (x : Args [.v (.pair i64 (.pair i64 (.pair (.slice 66 mat) .unit)))]) : fnK TT (ct7 g14 g33 g32 g11 g9 ) kp7 [.bool] [] (bodyOf Try.f7) [.tmp 2] [.v (.pair i64 (.pair i64 (.pair (.slice 66 mat) .unit)))] false false x = fn7 g14 g33 g32 g11 g9 F x := by
  obtain ⟨x0, _⟩ := x
  kernel_rfl
theorem ok7 (g14 : G14) (g33 : G33) (g32 : G32) (g11 : G11) (g9 : G9) (hK : KOK Try.prog (ct7 g14 g33 g32 g11 g9 )) (cf : G7) (h : ∀ x y, cf x = some y → ∃ F, fn7 g14 g33 g32 g11 g9 F x = some y) : KOne Try.prog 7 ⟨[.v (.pair i64 (.pair i64 (.pair (.slice 66 mat) .unit)))], [.bool], false, false, 0, cf⟩ :=
  fn_one rfl (c := bodyOf Try.f7) mixed tt_ok hK Try.func7 (by kernel_rfl) (by kernel_rfl) (Nat.le_of_ble_eq_true (by kernel_rfl)) (by decide) fun x y hxy => by
    obtain ⟨F, hF⟩ := h x y hxy
    exact ⟨[], LTOK_by (l := []) (by kernel_rfl) trivial, (ev7 g14 g33 g32 g11 g9 F x).trans hF⟩
theorem law420_one : KOne Try.prog 7 ⟨[.v (.pair i64 (.pair i64 (.pair (.slice 66 mat) .unit)))], [.bool], false, false, 0, fun x => bif okA [.v (.pair i64 (.pair i64 (.pair (.slice 66 mat) .unit)))] x then some (true, ()) else none⟩ :=
  ok7 _ _ _ _ _ (.cons k34 (.cons k425 (.cons k424 (.cons k32 (.cons k30 .nil))))) _ fun x y h => by
    obtain ⟨g, _⟩ := x
    change Gr at g
    cases hx : okA [.v (.pair i64 (.pair i64 (.pair (.slice 66 mat) .unit)))] (g, ()) with
    | false => simp only [hx, cond_false] at h; cases h
    | true =>
      simp only [hx, cond_true] at h
      injection h with h; subst h
      refine ⟨0, ?_⟩
      simp only [okA, Bool.and_true] at hx
      obtain ⟨x1, x2⟩ := okG_of hx
      have c30 := g30_ok x1
      obtain ⟨p, n, L, u⟩ := g
      simp only [fn7]
      rw [c30]
      simp only
      by_cases hsz : sz30 (p, n, L, u) < 0
      · rw [dlt_t hsz, cond_true]
      · rw [dlt_f (by omega), cond_false]
        have hL := sz30_small (by omega : 0 ≤ sz30 (p, n, L, u))
        have hL2 : (els (p, n, L, u)).length ≤ 2000000 := by omega
        obtain ⟨b, c, e1, e2⟩ := same424 x2 hL2
        have c32 := g32_ok hL2
        have c34 := g34_ok hL2
        simp (disch := omega) only [c32, e1, e2, c34, Bool.not_true, cond_false, cond_true, deq_t, decide_true, beq_self_eq_true]
end Go.Proofs.YtmdpmnjnpnjppaaEv
