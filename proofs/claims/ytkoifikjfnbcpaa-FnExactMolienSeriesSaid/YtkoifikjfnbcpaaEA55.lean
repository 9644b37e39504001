/- The program's operations on plain typed data, that the machine does the same, what the functions come to, and what they give (part 5). No condition. -/
import Derived.Test.YtkoifikjfnbcpaaEA54
set_option linter.unusedVariables false
set_option linter.unusedSimpArgs false
namespace Go.Proofs.YtkoifikjfnbcpaaEv
open Go Go.RowKit
abbrev Mat : Type := mat.den
def me (g : Mat) (i j : Nat) : Int := tget (0 : Int) 3 (tget (Ty.dflt (.arr 3 (.int .u8))) 3 g i) j
def okM (g : Mat) : Bool := okV mat g
theorem kwf_u8 {x : Int} (h : kwf .u8 x = true) : 0 ≤ x ∧ x ≤ 255 := by
  simpa [kwf, IntKind.min, IntKind.max, IntKind.bits, IntKind.signed] using h
theorem me_rng {g : Mat} (h : okM g = true) (i j : Nat) : 0 ≤ me g i j ∧ me g i j ≤ 255 := by
  obtain ⟨⟨a, b, c, _⟩, ⟨d, e, f, _⟩, ⟨x, y, z, _⟩, _⟩ := g
  simp only [okM, okV, okV.okT, Bool.and_eq_true, and_true] at h
  obtain ⟨⟨h1, h2, h3⟩, ⟨h4, h5, h6⟩, h7, h8, h9⟩ := h
  have h1 := kwf_u8 h1
  have h2 := kwf_u8 h2
  have h3 := kwf_u8 h3
  have h4 := kwf_u8 h4
  have h5 := kwf_u8 h5
  have h6 := kwf_u8 h6
  have h7 := kwf_u8 h7
  have h8 := kwf_u8 h8
  have h9 := kwf_u8 h9
  have z0 : (0 : Int) ≤ 0 ∧ (0 : Int) ≤ 255 := by omega
  rcases i with _ | _ | _ | i <;> rcases j with _ | _ | _ | j <;> first | exact h1 | exact h2 | exact h3 | exact h4 | exact h5 | exact h6 | exact h7 | exact h8 | exact h9 | exact z0
def cf60 : Args [.v ex] → Option R60 := fun x => some (x.1, ())
theorem k60 : KOne Try.prog 60 ⟨[.v ex], [ex], false, false, 0, cf60⟩ := ok60 .nil cf60 fun x y h => by
  obtain ⟨⟨a, b, c, _⟩, _⟩ := x
  injection h with h; subst h
  exact ⟨5, rfl⟩
def cf16 : Args [.v mat] → Option R16 := fun x => some (x.1, ())
theorem k16 : KOne Try.prog 16 ⟨[.v mat], [mat], false, false, 0, cf16⟩ := ok16 _ (.cons k60 .nil) cf16 fun x y h => by
  obtain ⟨⟨⟨a, b, c, _⟩, ⟨d, e, f, _⟩, ⟨u, v, z, _⟩, _⟩, _⟩ := x
  injection h with h; subst h
  exact ⟨5, rfl⟩
def cf166 : Args [.v i64, .v i64, .p mat] → Option R166 := fn166 0
theorem k166 : KOne Try.prog 166 ⟨[.v i64, .v i64, .p mat], [i64], false, false, 0, cf166⟩ := ok166 .nil cf166 fun x y h => ⟨0, h⟩
theorem g166_ok {g : Mat} (hg : okM g = true) {i j : Int} (hi : 0 ≤ i ∧ i < 3) (hj : 0 ≤ j ∧ j < 3) : cf166 (i, j, g, ()) = some (me g (tn i) (tn j), ()) := by
  have h := me_rng hg (tn i) (tn j)
  simp only [me] at h ⊢
  simp (disch := omega) only [cf166, fn166, ib_t, ofn, cond_true, w6_id]
theorem by2 {x y : Int} (h1 : 0 ≤ x ∧ x ≤ 255) (h2 : 0 ≤ y ∧ y ≤ 255) : 0 ≤ x * y ∧ x * y ≤ 65025 := by
  have := mul_rng (c := 256) (d := 256) h1.1 (by omega) h2.1 (by omega)
  refine ⟨this.1, ?_⟩
  have : x * y ≤ 255 * y := Int.mul_le_mul_of_nonneg_right h1.2 h2.1
  omega
theorem by3 {x y : Int} (h1 : 0 ≤ x ∧ x ≤ 255) (h2 : -65025 ≤ y ∧ y ≤ 65025) : -16581375 ≤ x * y ∧ x * y ≤ 16581375 := by
  have a : x * y ≤ x * 65025 := Int.mul_le_mul_of_nonneg_left h2.2 h1.1
  have b : x * (-65025) ≤ x * y := Int.mul_le_mul_of_nonneg_left h2.1 h1.1
  omega
def cf133 : Args [.v i64, .v i64, .v mat] → Option R133 := fn133 cf166 0
theorem k133 : KOne Try.prog 133 ⟨[.v i64, .v i64, .v mat], [i64], false, false, 0, cf133⟩ := ok133 _ (.cons k166 .nil) cf133 fun x y h => ⟨0, h⟩
theorem g133_ok {p n : Int} {g : Mat} (hg : okM g = true) (hp : 2 ≤ p ∧ p ≤ 13) (hn : n = 1 ∨ n = 2 ∨ n = 3) : cf133 (p, n, g, ()) = some (detN (tn n) (me g) % p, ()) := by
  have r := me_rng hg
  have G := fun i j hi hj => g166_ok (g := g) (i := i) (j := j) hg hi hj
  have m := fun (x : Int) => tmod_md (p := p) (x := x) (by omega)
  rcases hn with rfl | rfl | rfl
  · have := r 0 0
    simp (disch := omega) only [cf133, fn133, G, deq_f, Bool.not_false, cond_true, cond_false]
    have z := m (me g (tn 0) (tn 0))
    rw [w6_id (by omega) (by omega), z.1]; rfl
  · have a := by2 (r 0 0) (r 1 1)
    have b := by2 (r 0 1) (r 1 0)
    simp (disch := omega) only [cf133, fn133, G, deq_f, deq_t, decide_true, Bool.not_false, cond_true, cond_false]
    rw [show tn 0 = 0 from rfl, show tn 1 = 1 from rfl]
    have z := m (me g 0 0 * me g 1 1 - me g 0 1 * me g 1 0)
    simp (disch := omega) only [w6_id, z.1]
    rfl
  · have a := by2 (r 1 1) (r 2 2)
    have b := by2 (r 1 2) (r 2 1)
    have c := by2 (r 1 0) (r 2 2)
    have d := by2 (r 1 2) (r 2 0)
    have e := by2 (r 1 0) (r 2 1)
    have f := by2 (r 1 1) (r 2 0)
    have a1 := by3 (r 0 0) (y := me g 1 1 * me g 2 2 - me g 1 2 * me g 2 1) (by omega)
    have a2 := by3 (r 0 1) (y := me g 1 0 * me g 2 2 - me g 1 2 * me g 2 0) (by omega)
    have a3 := by3 (r 0 2) (y := me g 1 0 * me g 2 1 - me g 1 1 * me g 2 0) (by omega)
    simp (disch := omega) only [cf133, fn133, G, deq_f, deq_t, decide_true, Bool.not_false, cond_true, cond_false]
    rw [show tn 0 = 0 from rfl, show tn 1 = 1 from rfl, show tn 2 = 2 from rfl]
    have z := m (me g 0 0 * (me g 1 1 * me g 2 2 - me g 1 2 * me g 2 1) - me g 0 1 * (me g 1 0 * me g 2 2 - me g 1 2 * me g 2 0) + me g 0 2 * (me g 1 0 * me g 2 1 - me g 1 1 * me g 2 0))
    simp (disch := omega) only [w6_id, z.1]
    rfl
def cellB (p n i j v : Int) : Bool := decide (v < p) && ((decide (i < n) && decide (j < n)) || decide (v = 0))
def rowB (p n : Int) (g : Mat) (i : Nat) : Bool := cellB p n i 0 (me g i 0) && (cellB p n i 1 (me g i 1) && cellB p n i 2 (me g i 2))
def rngB (p n : Int) (g : Mat) : Bool := rowB p n g 0 && (rowB p n g 1 && rowB p n g 2)
theorem step58 {p n i j : Int} {g : Mat} (hg : okM g = true) (hi : 0 ≤ i ∧ i < 3) (hj : 0 ≤ j ∧ j < 3) {g82 : Args [.v i64] → Option (Ress [.bool])} {g73 : Args [.v i64, .v i64, .v i64] → Option (Ress [.bool])} {g129 : Args [.v i64, .v i64, .v mat] → Option (Ress [mat, .bool])} {F : Nat} {k kx : ShVal sh58_7 → Option R58} :
    st58_7 g82 g73 g129 F ((p, ()), ((n, ()), ((g, ()), ((i, ()), ((j, ()), ()))))) k kx = bif cellB p n i j (me g (tn i) (tn j)) then k ((p, ()), ((n, ()), ((g, ()), ((i, ()), ((j + 1, ()), ()))))) else some (false, ()) := by
  have r := me_rng hg (tn i) (tn j)
  simp (disch := omega) only [st58_7, dlt_t, cond_true, ib_t, ofn, w6_id (x := j + 1)]
  rw [show tget (0 : Int) 3 (tget (Ty.dflt (.arr 3 (.int .u8))) 3 g (tn i)) (tn j) = me g (tn i) (tn j) from rfl]
  rw [w6_id (by omega) (by omega)]
  generalize me g (tn i) (tn j) = v at *
  unfold cellB
  by_cases h1 : p ≤ v
  · rw [decide_eq_true h1, decide_eq_false (show ¬ v < p by omega)]; rfl
  · rw [decide_eq_false h1, decide_eq_true (show v < p by omega)]
    by_cases h2 : n ≤ i
    · rw [decide_eq_true h2, decide_eq_false (show ¬ i < n by omega)]
      by_cases h4 : v = 0
      · rw [decide_eq_true h4]; rfl
      · rw [decide_eq_false h4]; rfl
    · rw [decide_eq_false h2, decide_eq_true (show i < n by omega)]
      by_cases h3 : n ≤ j
      · rw [decide_eq_true h3, decide_eq_false (show ¬ j < n by omega)]
        by_cases h4 : v = 0
        · rw [decide_eq_true h4]; rfl
        · rw [decide_eq_false h4]; rfl
      · rw [decide_eq_false h3, decide_eq_true (show j < n by omega)]; rfl
theorem row58 {p n i : Int} {g : Mat} (hg : okM g = true) (hi : 0 ≤ i ∧ i < 3) {g82 : Args [.v i64] → Option (Ress [.bool])} {g73 : Args [.v i64, .v i64, .v i64] → Option (Ress [.bool])} {g129 : Args [.v i64, .v i64, .v mat] → Option (Ress [mat, .bool])} {F0 F : Nat} {kx : ShVal sh58_7 → Option R58} :
    iter (fun s k => st58_7 g82 g73 g129 F0 s k kx) (F + 4) ((p, ()), ((n, ()), ((g, ()), ((i, ()), (((0 : Int), ()), ()))))) = bif rowB p n g (tn i) then kx ((p, ()), ((n, ()), ((g, ()), ((i, ()), (((3 : Int), ()), ()))))) else some (false, ()) := by
  have hi' : ((tn i : Nat) : Int) = i := Int.toNat_of_nonneg hi.1
  simp only [iter]
  rw [step58 hg hi (by omega)]
  simp only [iter]
  rw [step58 hg hi (by omega)]
  simp only [iter]
  rw [step58 hg hi (by omega)]
  unfold rowB
  rw [hi']
  simp only [show ((0 : Int) + 1) = 1 from rfl, show ((1 : Int) + 1) = 2 from rfl, show ((2 : Int) + 1) = 3 from rfl, show tn 0 = 0 from rfl, show tn 1 = 1 from rfl, show tn 2 = 2 from rfl]
  cases cellB p n i 0 (me g (tn i) 0) with
  | false => rfl
  | true =>
    cases cellB p n i 1 (me g (tn i) 1) with
    | false => rfl
    | true =>
      cases cellB p n i 2 (me g (tn i) 2) with
      | false => rfl
      | true => simp (disch := omega) only [cond_true, Bool.and_self, st58_7, dlt_f, cond_false]
theorem loop58 {p n : Int} {g : Mat} (hg : okM g = true) {g82 : Args [.v i64] → Option (Ress [.bool])} {g73 : Args [.v i64, .v i64, .v i64] → Option (Ress [.bool])} {g129 : Args [.v i64, .v i64, .v mat] → Option (Ress [mat, .bool])} {F : Nat} {kx : ShVal sh58_4 → Option R58} :
    iter (fun s k => st58_4 g82 g73 g129 (F + 4) s k kx) (F + 4) ((p, ()), ((n, ()), ((g, ()), (((0 : Int), ()), ())))) = bif rngB p n g then kx ((p, ()), ((n, ()), ((g, ()), (((3 : Int), ()), ())))) else some (false, ()) := by
  have one : ∀ (i : Int) (hi : 0 ≤ i ∧ i < 3) (k : ShVal sh58_4 → Option R58), st58_4 g82 g73 g129 (F + 4) ((p, ()), ((n, ()), ((g, ()), ((i, ()), ())))) k kx = bif rowB p n g (tn i) then k ((p, ()), ((n, ()), ((g, ()), ((i + 1, ()), ())))) else some (false, ()) := by
    intro i hi k
    simp (disch := omega) only [st58_4, dlt_t, cond_true, ru58_7]
    rw [row58 hg hi]
    simp (disch := omega) only [w6_id]
  simp only [iter]
  rw [one 0 (by omega)]
  simp only [iter]
  rw [one _ (by omega)]
  simp only [iter]
  rw [one _ (by omega)]
  unfold rngB
  simp only [show ((0 : Int) + 1) = 1 from rfl, show ((1 : Int) + 1) = 2 from rfl, show ((2 : Int) + 1) = 3 from rfl, show tn 0 = 0 from rfl, show tn 1 = 1 from rfl, show tn 2 = 2 from rfl]
  cases rowB p n g 0 with
  | false => rfl
  | true =>
    cases rowB p n g 1 with
    | false => rfl
    | true =>
      cases rowB p n g 2 with
      | false => rfl
      | true => simp (disch := omega) only [cond_true, Bool.and_self, st58_4, dlt_f, cond_false]
theorem step131 {p n i j : Int} {g : Mat} (hg : okM g = true) (hi : 0 ≤ i ∧ i < 3) (hj : 0 ≤ j ∧ j < 3) {g86 : Args [.v i64] → Option (Ress [.bool])} {g87 : Args [.v i64] → Option (Ress [.bool])} {g133 : Args [.v i64, .v i64, .v mat] → Option (Ress [i64])} {F : Nat} {i' : Int} {k kx : ShVal sh131_7 → Option R131} :
    st131_7 g86 g87 g133 F ((p, ()), ((n, ()), ((g, ()), ((i, ()), ((i', ()), ((j, ()), ())))))) k kx = bif cellB p n i j (me g (tn i) (tn j)) then k ((p, ()), ((n, ()), ((g, ()), ((i, ()), ((i', ()), ((j + 1, ()), ())))))) else some (false, ()) := by
  have r := me_rng hg (tn i) (tn j)
  simp (disch := omega) only [st131_7, dlt_t, cond_true, ib_t, ofn, w6_id (x := j + 1)]
  rw [show tget (0 : Int) 3 (tget (Ty.dflt (.arr 3 (.int .u8))) 3 g (tn i)) (tn j) = me g (tn i) (tn j) from rfl]
  rw [w6_id (by omega) (by omega)]
  generalize me g (tn i) (tn j) = v at *
  unfold cellB
  by_cases h1 : p ≤ v
  · rw [decide_eq_true h1, decide_eq_false (show ¬ v < p by omega)]; rfl
  · rw [decide_eq_false h1, decide_eq_true (show v < p by omega)]
    by_cases h2 : n ≤ i
    · rw [decide_eq_true h2, decide_eq_false (show ¬ i < n by omega)]
      by_cases h4 : v = 0
      · rw [decide_eq_true h4]; rfl
      · rw [decide_eq_false h4]; rfl
    · rw [decide_eq_false h2, decide_eq_true (show i < n by omega)]
      by_cases h3 : n ≤ j
      · rw [decide_eq_true h3, decide_eq_false (show ¬ j < n by omega)]
        by_cases h4 : v = 0
        · rw [decide_eq_true h4]; rfl
        · rw [decide_eq_false h4]; rfl
      · rw [decide_eq_false h3, decide_eq_true (show j < n by omega)]; rfl
theorem row131 {p n i : Int} {g : Mat} (hg : okM g = true) (hi : 0 ≤ i ∧ i < 3) {g86 : Args [.v i64] → Option (Ress [.bool])} {g87 : Args [.v i64] → Option (Ress [.bool])} {g133 : Args [.v i64, .v i64, .v mat] → Option (Ress [i64])} {F0 F : Nat} {i' : Int} {kx : ShVal sh131_7 → Option R131} :
    iter (fun s k => st131_7 g86 g87 g133 F0 s k kx) (F + 4) ((p, ()), ((n, ()), ((g, ()), ((i, ()), ((i', ()), (((0 : Int), ()), ())))))) = bif rowB p n g (tn i) then kx ((p, ()), ((n, ()), ((g, ()), ((i, ()), ((i', ()), (((3 : Int), ()), ())))))) else some (false, ()) := by
  have hi' : ((tn i : Nat) : Int) = i := Int.toNat_of_nonneg hi.1
  simp only [iter]
  rw [step131 hg hi (by omega)]
  simp only [iter]
  rw [step131 hg hi (by omega)]
  simp only [iter]
  rw [step131 hg hi (by omega)]
  unfold rowB
  rw [hi']
  simp only [show ((0 : Int) + 1) = 1 from rfl, show ((1 : Int) + 1) = 2 from rfl, show ((2 : Int) + 1) = 3 from rfl, show tn 0 = 0 from rfl, show tn 1 = 1 from rfl, show tn 2 = 2 from rfl]
  cases cellB p n i 0 (me g (tn i) 0) with
  | false => rfl
  | true =>
    cases cellB p n i 1 (me g (tn i) 1) with
    | false => rfl
    | true =>
      cases cellB p n i 2 (me g (tn i) 2) with
      | false => rfl
      | true => simp (disch := omega) only [cond_true, Bool.and_self, st131_7, dlt_f, cond_false]
theorem loop131 {p n : Int} {g : Mat} (hg : okM g = true) {g86 : Args [.v i64] → Option (Ress [.bool])} {g87 : Args [.v i64] → Option (Ress [.bool])} {g133 : Args [.v i64, .v i64, .v mat] → Option (Ress [i64])} {F : Nat} {kx : ShVal sh131_4 → Option R131} :
    iter (fun s k => st131_4 g86 g87 g133 (F + 4) s k kx) (F + 4) ((p, ()), ((n, ()), ((g, ()), (((0 : Int), ()), ())))) = bif rngB p n g then kx ((p, ()), ((n, ()), ((g, ()), (((3 : Int), ()), ())))) else some (false, ()) := by
  have one : ∀ (i : Int) (hi : 0 ≤ i ∧ i < 3) (k : ShVal sh131_4 → Option R131), st131_4 g86 g87 g133 (F + 4) ((p, ()), ((n, ()), ((g, ()), ((i, ()), ())))) k kx = bif rowB p n g (tn i) then k ((p, ()), ((n, ()), ((g, ()), ((i + 1, ()), ())))) else some (false, ()) := by
    intro i hi k
    simp (disch := omega) only [st131_4, dlt_t, cond_true, ru131_7]
    rw [row131 hg hi]
    simp (disch := omega) only [w6_id]
  simp only [iter]
  rw [one 0 (by omega)]
  simp only [iter]
  rw [one _ (by omega)]
  simp only [iter]
  rw [one _ (by omega)]
  unfold rngB
  simp only [show ((0 : Int) + 1) = 1 from rfl, show ((1 : Int) + 1) = 2 from rfl, show ((2 : Int) + 1) = 3 from rfl, show tn 0 = 0 from rfl, show tn 1 = 1 from rfl, show tn 2 = 2 from rfl]
  cases rowB p n g 0 with
  | false => rfl
  | true =>
    cases rowB p n g 1 with
    | false => rfl
    | true =>
      cases rowB p n g 2 with
      | false => rfl
      | true => simp (disch := omega) only [cond_true, Bool.and_self, st131_4, dlt_f, cond_false]
def inR (n : Int) : Bool := decide (1 ≤ n) && decide (n ≤ 3)
theorem inR_cases {n : Int} (h : inR n = true) : n = 1 ∨ n = 2 ∨ n = 3 := by
  simp [inR] at h; omega
def matB (p n : Int) (g : Mat) : Bool := isP p && (inR n && (rngB p n g && !decide (detN (tn n) (me g) % p = 0)))
def cf131 : Args [.v i64, .v i64, .v mat] → Option R131 := fn131 cf82 cf87 cf133 6
theorem k131 : KOne Try.prog 131 ⟨[.v i64, .v i64, .v mat], [.bool], false, false, 0, cf131⟩ := ok131 _ _ _ (.cons k86 (.cons k87 (.cons k133 .nil))) cf131 fun x y h => ⟨6, h⟩
theorem g131_ok {p n : Int} {g : Mat} (hg : okM g = true) : cf131 (p, n, g, ()) = some (matB p n g, ()) := by
  simp only [cf131, fn131]
  rw [show cf82 (p, ()) = some (isP p, ()) from rfl, show cf87 (n, ()) = some (inR n, ()) from rfl]
  simp only
  unfold matB
  cases hP : isP p with
  | false => rfl
  | true =>
    cases hR : inR n with
    | false => rfl
    | true =>
      simp only [Bool.not_true, cond_false, Bool.true_and]
      rw [show ru131_4 cf82 cf87 cf133 6 = fun s kx => iter (fun s k => st131_4 cf82 cf87 cf133 (2 + 4) s k kx) (2 + 4) s from rfl]
      simp only
      rw [loop131 hg]
      cases rngB p n g with
      | false => rfl
      | true =>
        simp only [cond_true]
        rw [g133_ok hg (isP_pos hP) (inR_cases hR)]
        rfl
open Go Go.RowKit Go.Proofs Go.Shelf Go.Sort
section
variable {P : Program} {α : Type} [Inhabited α] {w : World} {b o : Nat} {c : Array Value} {e : TypeId} {fr : Nat × Nat}
end
section
variable {P : Program} {e : TypeId} {u : Ty} {g : Nat} {cf : u.den → u.den → Int} {key : u.den → Int} {good : u.den → Prop} {fr st f1 f2 : Bool} {F : Args [.v u, .v u] → Option (Ress [.int .i64])} {f : Args [.v (.slice e u), .fn g] → Option (Ress [.slice e u])}
theorem take1 {α : Type} {l : List α} {i : Nat} (h : i < l.length) : (l.drop i).take 1 = [l[i]] := by rw [List.drop_eq_getElem_cons h]; rfl
end
open Go Go.RowKit Go.Proofs
theorem w6_i {x : Int} (h0 : -9223372036854775808 ≤ x) (h1 : x ≤ 9223372036854775807) : w6 x = x := by
  simp [w6, IntKind.wrap, IntKind.bits, IntKind.signed]; split <;> omega
def okN (a b c : Int) : Prop := (0 ≤ a ∧ a ≤ 255) ∧ (0 ≤ b ∧ b ≤ 255) ∧ (0 ≤ c ∧ c ≤ 255)
instance (a b c : Int) : Decidable (okN a b c) := by unfold okN; exact inferInstance
def key3 (a b c : Int) : Int := (a + b + c) * 65536 + (255 - a) * 256 + (255 - b)
def okX (e : ex.den) : Prop := okN e.1 e.2.1 e.2.2.1
instance (e : ex.den) : Decidable (okX e) := by unfold okX; exact inferInstance
def degX (e : ex.den) : Int := @HAdd.hAdd Int Int Int _ (@HAdd.hAdd Int Int Int _ e.1 e.2.1) e.2.2.1
def keyX (e : ex.den) : Int := key3 e.1 e.2.1 e.2.2.1
def keyT3 (t : term.den) : Int := keyX t.1
theorem keyT_ex : keyT ex = true := rfl
section
variable {w0 : World} {ba : List Nat} {v0 : Value} {bm r clock : Nat} {es : Array MapEntry} {p v : Int} {m : List (ex.den × i64.den)}
end
instance decX : DecidableEq ex.den := inferInstanceAs (DecidableEq (Int × Int × Int × Unit))
structure CanT (p : Int) (ts : List term.den) : Prop where
  srt : ts.Pairwise fun a b => keyT3 a < keyT3 b
  ok : ∀ t ∈ ts, okX t.1 ∧ (0 : Int) < t.2.1 ∧ t.2.1 < p
theorem CanT.tail {p : Int} {t : term.den} {ts : List term.den} (h : CanT p (t :: ts)) : CanT p ts := ⟨(List.pairwise_cons.1 h.srt).2, fun s hs => h.ok s (.tail _ hs)⟩
theorem CanT.filter {p : Int} {ts : List term.den} (h : CanT p ts) (f : term.den → Bool) : CanT p (ts.filter f) := ⟨h.srt.sublist List.filter_sublist, fun t ht => h.ok t (List.mem_filter.1 ht).1⟩
theorem getD_pre {α : Type} {pre r : List α} {t d : α} : (pre ++ t :: r).getD pre.length d = t := by
  rw [List.getD_eq_getElem?_getD, List.getElem?_append_right (Nat.le_refl _)]; simp
section
variable {p : Int} {m : Nat}
theorem RR.inj {out : List (List Int)} (rr : RR p m out) : out.Pairwise fun a b => ld a < ld b := rr.ord.imp fun h => h.1
theorem RR.off {out : List (List Int)} (rr : RR p m out) {a b : List Int} (ha : a ∈ out) (hb : b ∈ out) (h : a ≠ b) : ld a ≠ ld b ∧ el a (ld b) = 0 := by
  have hh : ∀ {l : List (List Int)}, (l.Pairwise fun a b => ld a < ld b ∧ el a (ld b) = 0) → a ∈ l → b ∈ l → ld a ≠ ld b ∧ el a (ld b) = 0 := by
    intro l
    induction l with
    | nil => intro _ h; cases h
    | cons x l ih =>
      intro hp ha hb
      have hp' := List.pairwise_cons.1 hp
      rcases List.mem_cons.1 ha with e | ha' <;> rcases List.mem_cons.1 hb with e' | hb'
      · exact absurd (e.trans e'.symm) h
      · subst e; exact ⟨Nat.ne_of_lt (hp'.1 b hb').1, (hp'.1 b hb').2⟩
      · subst e'; exact ⟨Nat.ne_of_gt (hp'.1 a ha').1, ld_zero a _ (hp'.1 a ha').1⟩
      · exact ih hp'.2 ha' hb'
  exact hh rr.ord ha hb
end
abbrev x0 (e : ex.den) : Int := e.1
abbrev x1 (e : ex.den) : Int := e.2.1
abbrev x2 (e : ex.den) : Int := e.2.2.1
def DegLe (d : Int) (ts : List term.den) : Prop := ∀ t ∈ ts, degX t.1 ≤ d
theorem DegLe.mono {d e : Int} {ts : List term.den} (h : DegLe d ts) (hd : d ≤ e) : DegLe e ts := fun t ht => Int.le_trans (h t ht) hd
def degI (ts : List term.den) : Int := match ts.getLast? with | none => -1 | some t => degX t.1
def fits (a b : List term.den) : Bool := decide (a = []) || decide (b = []) || decide (degI a + degI b ≤ 12)
def e0 : ex.den := ((0 : Int), (0 : Int), (0 : Int), ())
abbrev R70 : Type := Ress [(.slice 135 term), i64]
abbrev G70 : Type := Args [.v (.slice 135 term), .v i64] → Option R70
abbrev kp70 : List (Nat × List Nat) := [(0, [0, 1]), (1, [0, 5, 1]), (2, [10, 1, 5, 0]), (4, [6, 1, 5, 0]), (5, [14, 1, 6, 5, 0]), (7, [1, 6, 5, 0]), (8, [6, 1, 5, 0]), (6, [6, 1, 5, 0]), (9, [1, 5, 0]), (10, [5, 0, 1]), (3, [0, 5, 1]), (11, [4, 0])]
abbrev ct70 : CTab := []
abbrev kr70 : Env → Option R70 := endM 135 term [.tmp 4]
abbrev sh70_5 : Shape := [(0, vr 135 term 1 false), (1, vv i64), (5, vv i64), (6, vv i64)]
def st70_5 (F : Nat) (s : ShVal sh70_5) (k kx : ShVal sh70_5 → Option R70) : Option R70 :=
  match s with
  | ((t0, _), (t1, _), (t5, _), (t6, _), _) => (bif decide (t6 < (3 : Int)) then (bif ib t5 (Int.ofNat (List.length t0)) then (bif ib t6 (Int.ofNat 3) then k (((List.set t0 (tn t5) ((tset (w8 t1) 3 (List.getD t0 (tn t5) (Ty.dflt (.pair (.arr 3 (.int .u8)) (.pair (.int .i64) .unit)))).1 (tn t6)), (List.getD t0 (tn t5) (Ty.dflt (.pair (.arr 3 (.int .u8)) (.pair (.int .i64) .unit)))).2)), ()), (((w6 (t1 + (1 : Int))), ()), ((t5, ()), (((w6 (t6 + (1 : Int))), ()), ())))) else none) else none) else kx ((t0, ()), ((t1, ()), ((t5, ()), ((t6, ()), ())))))
def ru70_5 (F : Nat) (s : ShVal sh70_5) (kx : ShVal sh70_5 → Option R70) : Option R70 := iter (fun s k => st70_5 F s k kx) F s
abbrev ls70_5 (F : Nat) : LS R70 := ⟨sh70_5, 2, ru70_5 F⟩
abbrev sh70_2 : Shape := [(0, vr 135 term 1 false), (1, vv i64), (5, vv i64)]
def st70_2 (F : Nat) (s : ShVal sh70_2) (k kx : ShVal sh70_2 → Option R70) : Option R70 :=
  match s with
  | ((t0, _), (t1, _), (t5, _), _) => (bif decide ((List.length t0) ≤ 9223372036854775807) then (bif decide (t5 < (Int.ofNat (List.length t0))) then (ru70_5 F ((t0, ()), ((t1, ()), ((t5, ()), (((0 : Int), ()), ())))) (fun s' => match s' with | ((t0, _), (t1, _), (t5, _), (t6, _), _) => (bif ib t5 (Int.ofNat (List.length t0)) then k (((List.set t0 (tn t5) ((List.getD t0 (tn t5) (Ty.dflt (.pair (.arr 3 (.int .u8)) (.pair (.int .i64) .unit)))).1, (t1, (List.getD t0 (tn t5) (Ty.dflt (.pair (.arr 3 (.int .u8)) (.pair (.int .i64) .unit)))).2.2))), ()), (((w6 (t1 + (1 : Int))), ()), (((w6 (t5 + (1 : Int))), ()), ()))) else none))) else kx ((t0, ()), ((t1, ()), ((t5, ()), ())))) else none)
def ru70_2 (F : Nat) (s : ShVal sh70_2) (kx : ShVal sh70_2 → Option R70) : Option R70 := iter (fun s k => st70_2 F s k kx) F s
abbrev ls70_2 (F : Nat) : LS R70 := ⟨sh70_2, 0, ru70_2 F⟩
def fn70 (F : Nat) (x : Args [.v (.slice 135 term), .v i64]) : Option R70 :=
  match x with
  | (x0, x1, _) => (ru70_2 F ((x0, ()), ((x1, ()), (((0 : Int), ()), ()))) (fun s' => match s' with | ((t0, _), (t1, _), (t5, _), _) => (some (t0, (t1, ())))))
theorem ev70_5 (F : Nat) (s : ShVal sh70_5) (k kx : ShVal sh70_5 → Option R70) : evL TT (ct70 ) kp70 [] (loopOf Try.f70 5) (envOf sh70_5 s) (fitK sh70_5 k) (fun j e => bif Nat.beq j 2 then fitK sh70_5 kx e else none) kr70 = st70_5 F s k kx := by
  obtain ⟨⟨t0, _⟩, ⟨t1, _⟩, ⟨t5, _⟩, ⟨t6, _⟩, _⟩ := s
  kernel_rfl
theorem ok70_5 (F : Nat) (hK : KOK Try.prog (ct70 )) (v0 : Value) : LSOK Try.prog ⟨35, true, v0⟩ (ls70_5 F) (loopOf Try.f70 5) kr70 :=
  loop_ok (st70_5 F) mixed tt_ok hK (by kernel_rfl) (LTOK_by (l := []) (by kernel_rfl) trivial) (ev70_5 F)
theorem ev70_2 (F : Nat) (s : ShVal sh70_2) (k kx : ShVal sh70_2 → Option R70) : evL TT (ct70 ) kp70 [(5, ls70_5 F)] (loopOf Try.f70 2) (envOf sh70_2 s) (fitK sh70_2 k) (fun j e => bif Nat.beq j 0 then fitK sh70_2 kx e else none) kr70 = st70_2 F s k kx := by
  obtain ⟨⟨t0, _⟩, ⟨t1, _⟩, ⟨t5, _⟩, _⟩ := s
  kernel_rfl
theorem ok70_2 (F : Nat) (hK : KOK Try.prog (ct70 )) (v0 : Value) : LSOK Try.prog ⟨35, true, v0⟩ (ls70_2 F) (loopOf Try.f70 2) kr70 :=
  loop_ok (st70_2 F) mixed tt_ok hK (by kernel_rfl) (LTOK_by (l := [loopOf Try.f70 5]) (by kernel_rfl) ⟨ls_at (by kernel_rfl) (ok70_5 F hK v0), trivial⟩) (ev70_2 F)
theorem ev70 (F : Nat) (x : Args [.v (.slice 135 term), .v i64]) : fnM TT (ct70 ) kp70 135 term [(2, ls70_2 F)] (bodyOf Try.f70) [.tmp 4] x = fn70 F x := by
  obtain ⟨x0, x1, _⟩ := x
  kernel_rfl
theorem ok70 (hK : KOK Try.prog (ct70 )) (cf : G70) (h : ∀ x y, cf x = some y → ∃ F, fn70 F x = some y) : KOne Try.prog 70 ⟨[.v (.slice 135 term), .v i64], [(.slice 135 term), i64], false, false, 1, cf⟩ :=
  fnM_one rfl (c := bodyOf Try.f70) mixed tt_ok hK Try.func70 (by kernel_rfl) (by kernel_rfl) (Nat.le_of_ble_eq_true (by kernel_rfl)) (by decide) fun x y hxy => by
    obtain ⟨F, hF⟩ := h x y hxy
    exact ⟨[(2, ls70_2 F)], fun v0 => LTOK_by (l := [loopOf Try.f70 2]) (by kernel_rfl) ⟨ls_at (by kernel_rfl) (ok70_2 F hK v0), trivial⟩, (ev70 F x).trans hF⟩
theorem iter_s {S α : Type} {step : S → (S → Option α) → Option α} {f : Nat} {s : S} : iter step (f + 1) s = step s (iter step f) := rfl
theorem e40 (k : Int) : k + 4 * ((0 : Nat) : Int) = k := by omega
def mkOne (k : Int) : term.den := ((w8 k, w8 (k + 1), w8 (k + 2), ()), k + 3, ())
def mkT (k : Int) : Nat → List term.den
  | 0 => []
  | n + 1 => mkOne k :: mkT (k + 4) n
theorem mkT_len : ∀ (n : Nat) (k : Int), (mkT k n).length = n
  | 0, _ => rfl
  | n + 1, k => by simp [mkT, mkT_len n]
theorem mkT_snoc : ∀ (n : Nat) (k : Int), mkT k (n + 1) = mkT k n ++ [mkOne (k + 4 * (n : Int))]
  | 0, k => by simp [mkT]
  | n + 1, k => by
    show mkOne k :: mkT (k + 4) (n + 1) = _
    rw [mkT_snoc n (k + 4)]
    simp only [mkT, List.cons_append]
    rw [show k + 4 + 4 * (n : Int) = k + 4 * ((n + 1 : Nat) : Int) by omega]
theorem set_at {α : Type} {pre r : List α} {t x : α} : (pre ++ t :: r).set pre.length x = pre ++ x :: r := by
  induction pre with
  | nil => rfl
  | cons a p ih => simp [ih]
theorem in70 {k : Int} (hk : 0 ≤ k ∧ k ≤ 100000000000) {pre r : List term.den} {t : term.den} (hl : (pre ++ t :: r).length ≤ 2000000) {F0 F : Nat} (hF : 4 ≤ F) {kx : ShVal sh70_5 → Option R70} :
    iter (fun s k => st70_5 F0 s k kx) F ((pre ++ t :: r, ()), ((k, ()), (((pre.length : Int), ()), (((0 : Int), ()), ())))) = kx ((pre ++ (((w8 k, w8 (k + 1), w8 (k + 2), ()) : ex.den), t.2) :: r, ()), ((k + 3, ()), (((pre.length : Int), ()), (((3 : Int), ()), ())))) := by
  obtain ⟨F, rfl⟩ : ∃ f, F = f + 4 := ⟨F - 4, by omega⟩
  have hpl : pre.length < (pre ++ t :: r).length := by simp
  have hlen : ∀ z : term.den, (pre ++ z :: r).length = (pre ++ t :: r).length := fun z => by simp
  have a1 : w6 (k + 1) = k + 1 := w6_i (by omega) (by omega)
  have a2 : w6 (k + 1 + 1) = k + 2 := by rw [w6_i (by omega) (by omega)]; omega
  have a3 : w6 (k + 2 + 1) = k + 3 := by rw [w6_i (by omega) (by omega)]; omega
  have b1 : w6 ((0 : Int) + 1) = 1 := rfl
  have b2 : w6 ((1 : Int) + 1) = 2 := rfl
  have b3 : w6 ((2 : Int) + 1) = 3 := rfl
  have c0 : decide ((0 : Int) < 3) = true := rfl
  have c1 : decide ((1 : Int) < 3) = true := rfl
  have c2 : decide ((2 : Int) < 3) = true := rfl
  have c3 : decide ((3 : Int) < 3) = false := rfl
  have d0 : ib (0 : Int) (Int.ofNat 3) = true := rfl
  have d1 : ib (1 : Int) (Int.ofNat 3) = true := rfl
  have d2 : ib (2 : Int) (Int.ofNat 3) = true := rfl
  obtain ⟨⟨u0, u1, u2, u3⟩, tv⟩ := t
  have step : ∀ (z : term.den) (kk j : Int) (K : ShVal sh70_5 → Option R70), decide (j < 3) = true → ib j (Int.ofNat 3) = true → st70_5 F0 ((pre ++ z :: r, ()), ((kk, ()), (((pre.length : Int), ()), ((j, ()), ())))) K kx =
      K ((pre ++ ((tset (w8 kk) 3 z.1 (tn j)), z.2) :: r, ()), ((w6 (kk + 1), ()), (((pre.length : Int), ()), ((w6 (j + 1), ()), ())))) := fun z kk j K h1 h2 => by
    have e0 : ib (pre.length : Int) ((pre ++ z :: r).length : Int) = true := ib_t (by omega) (by rw [hlen z]; omega)
    simp only [st70_5, h1, cond_true, ofn, e0, h2, tn_cast, getD_pre, set_at]
    rw [show ib j ((3 : Nat) : Int) = true from h2]; rfl
  rw [show F + 4 = (F + 3) + 1 by omega, iter_s, step _ _ _ _ c0 d0, a1, b1, show F + 3 = (F + 2) + 1 by omega, iter_s, step _ _ _ _ c1 d1, a2, b2, show F + 2 = (F + 1) + 1 by omega, iter_s, step _ _ _ _ c2 d2, a3, b3, iter_s]
  simp only [st70_5, c3, cond_false]
  rfl
theorem run70 {k0 : Int} (hk : 0 ≤ k0 ∧ k0 ≤ 10000000000) {F0 : Nat} (hF0 : 4 ≤ F0) : ∀ (r : List term.den) (n F : Nat), r.length < F → n + r.length ≤ 2000000 →
    iter (fun s k => st70_2 F0 s k (fun s' => match s' with | ((t0, _), (t1, _), (t5, _), _) => (some (t0, (t1, ()))))) F ((mkT k0 n ++ r, ()), ((k0 + 4 * (n : Int), ()), (((n : Int), ()), ()))) = some (mkT k0 (n + r.length), k0 + 4 * ((n + r.length : Nat) : Int), ())
  | [], n, F, hF, hl => by
    obtain ⟨F, rfl⟩ : ∃ f, F = f + 1 := ⟨F - 1, by simp at hF; omega⟩
    have hm := mkT_len n k0
    rw [List.append_nil]
    simp only [List.length_nil, Nat.add_zero]
    generalize mkT k0 n = M at hm ⊢
    simp only [iter, st70_2]
    simp (disch := omega) only [dln_t, cond_true, ofn, dlt_f, cond_false]
  | t :: r, n, F, hF, hl => by
    obtain ⟨F, rfl⟩ : ∃ f, F = f + 1 := ⟨F - 1, by simp at hF; omega⟩
    have hm := mkT_len n k0
    simp only [List.length_cons] at hl
    have hl2 : (mkT k0 n ++ t :: r).length ≤ 2000000 := by simp [hm]; omega
    have hpl : n < (mkT k0 n ++ t :: r).length := by simp [hm]
    have wi : w6 ((n : Int) + 1) = ((n + 1 : Nat) : Int) := by rw [w6_i (by omega) (by omega)]; omega
    have wk : w6 (k0 + 4 * (n : Int) + 3 + 1) = k0 + 4 * ((n + 1 : Nat) : Int) := by rw [w6_i (by omega) (by omega)]; omega
    have ih := run70 hk hF0 r (n + 1) F (by simp at hF; omega) (by omega)
    rw [mkT_snoc, List.append_assoc] at ih
    simp only [List.cons_append, List.nil_append] at ih
    rw [show n + (t :: r).length = n + 1 + r.length by simp; omega]
    simp only [iter]
    generalize iter (fun s k => st70_2 F0 s k (fun s' => match s' with | ((t0, _), (t1, _), (t5, _), _) => (some (t0, (t1, ()))))) F = K at ih ⊢
    have key := in70 (k := k0 + 4 * (n : Int)) (by omega) (pre := mkT k0 n) (r := r) (t := t) hl2 (F0 := F0) (F := F0) hF0 (kx := fun s' => match s' with | ((t0, _), (t1, _), (t5, _), (t6, _), _) => (bif ib t5 (Int.ofNat (List.length t0)) then K ((((List.set t0 (tn t5) ((List.getD t0 (tn t5) (Ty.dflt (.pair (.arr 3 (.int .u8)) (.pair (.int .i64) .unit)))).1, (t1, (List.getD t0 (tn t5) (Ty.dflt (.pair (.arr 3 (.int .u8)) (.pair (.int .i64) .unit)))).2.2))), ()), (((w6 (t1 + (1 : Int))), ()), (((w6 (t5 + (1 : Int))), ()), ())))) else none))
    rw [hm] at key
    simp only [st70_2]
    rw [dln_t (by omega), cond_true, ofn, dlt_t (by omega), cond_true]
    refine key.trans ?_
    have e0 : ∀ z : term.den, ib (n : Int) ((mkT k0 n ++ z :: r).length : Int) = true := fun z => ib_t (by omega) (by simp [hm]; omega)
    have e1 : ∀ z d : term.den, (mkT k0 n ++ z :: r).getD n d = z := fun z d => by
      have := getD_pre (pre := mkT k0 n) (r := r) (t := z) (d := d)
      rwa [hm] at this
    have e2 : ∀ z x : term.den, (mkT k0 n ++ z :: r).set n x = mkT k0 n ++ x :: r := fun z x => by
      have := set_at (pre := mkT k0 n) (r := r) (t := z) (x := x)
      rwa [hm] at this
    simp only [ofn, e0, cond_true, tn_cast, e1, e2, wi, wk]
    exact ih
def cf70 : G70 := fun x => if (show List term.den from x.1).length ≤ 2000000 ∧ 0 ≤ x.2.1 ∧ x.2.1 ≤ (10000000000 : Int) then some (mkT x.2.1 (show List term.den from x.1).length, x.2.1 + 4 * ((show List term.den from x.1).length : Int), ()) else none
theorem k70 : KOne Try.prog 70 ⟨[.v (.slice 135 term), .v i64], [.slice 135 term, i64], false, false, 1, cf70⟩ := ok70 .nil cf70 fun x y h => by
  obtain ⟨a, k, _⟩ := x
  simp only [cf70] at h
  split at h
  · rename_i hc
    injection h with h; subst h
    obtain ⟨h1, h2⟩ := hc
    replace h1 : List.length a ≤ 2000000 := h1
    refine ⟨List.length a + 4, ?_⟩
    have := run70 (k0 := k) h2 (F0 := List.length a + 4) (by omega) a 0 (List.length a + 4) (by omega) (by omega)
    simp only [Nat.zero_add] at this
    rw [e40 k] at this
    exact this
  · cases h
abbrev R27 : Type := Ress [.slice 58 poly, i64]
abbrev G27 : Type := Args [.v (.slice 58 poly), .v i64] → Option R27
theorem RdL.app {α : Type} {R : α → List Value → List Nat → Prop} {n : Nat} : ∀ {l1 l2 : List α} {cs : List Value} {bs : List Nat}, RdL R n (l1 ++ l2) cs bs → ∃ b1 b2, RdL R n l1 cs b1 ∧ RdL R n l2 (cs.drop (l1.length * n)) b2 ∧ bs = b1 ++ b2
  | [], l2, cs, bs, h => ⟨[], bs, rfl, by simpa using h, rfl⟩
  | x :: l1, l2, cs, bs, ⟨b1, b2, h1, h2, h3⟩ => by
    obtain ⟨c1, c2, q1, q2, q3⟩ := RdL.app h2
    refine ⟨b1 ++ c1, c2, ⟨b1, c1, h1, q1, rfl⟩, ?_, by rw [h3, q3, List.append_assoc]⟩
    rw [List.drop_drop] at q2
    rw [List.length_cons, Nat.succ_mul, Nat.add_comm]; exact q2
theorem RdL.join {α : Type} {R : α → List Value → List Nat → Prop} {n : Nat} : ∀ {l1 l2 : List α} {cs : List Value} {b1 b2 : List Nat}, RdL R n l1 cs b1 → RdL R n l2 (cs.drop (l1.length * n)) b2 → RdL R n (l1 ++ l2) cs (b1 ++ b2)
  | [], l2, cs, b1, b2, h1, h2 => by have h1 : b1 = [] := h1; subst h1; simpa using h2
  | x :: l1, l2, cs, b1, b2, ⟨c1, c2, q1, q2, q3⟩, h2 => by
    rw [q3, List.append_assoc]
    refine ⟨c1, c2 ++ b2, q1, RdL.join q2 ?_, rfl⟩
    rw [List.drop_drop]
    rw [List.length_cons, Nat.succ_mul, Nat.add_comm] at h2; exact h2
section
variable {P : Program} {T : TTab} {K : CTab}
structure Nst (w0 : World) (ba : List Nat) (e : TypeId) (u : Ty) (hd : Value) (L : List u.den) (w : World) : Prop where
  rd : ∃ blk bs, SlR w.heap e u.size (Rd w.heap u) L hd blk bs ∧ (blk.toList ++ bs).Nodup ∧ ∀ z ∈ blk.toList ++ bs, z ∈ ba
  os : w.os = w0.os
  tp : Tp w w0
  out : w.output = w0.output
  size : w0.heap.size ≤ w.heap.size
  old : ∀ b, b < w0.heap.size → b ∉ ba → w.heap[b]? = w0.heap[b]?
  wr : ∀ b ∈ ba, ∃ c e, w.heap[b]? = some (.cells c e (0, 0))
  lt : ∀ b ∈ ba, b < w0.heap.size
theorem Nst.ext {w0 w w' : World} {ba : List Nat} {e : TypeId} {u : Ty} {hd : Value} {L : List u.den} (h : Nst w0 ba e u hd L w) (os : w'.os = w.os) (tp : Tp w' w) (out : w'.output = w.output) (size : w.heap.size ≤ w'.heap.size)
    (old : ∀ b, b < w.heap.size → w'.heap[b]? = w.heap[b]?) : Nst w0 ba e u hd L w' where
  rd := by
    obtain ⟨blk, bs, h1, h2, h3⟩ := h.rd
    have lt : ∀ z ∈ blk.toList ++ bs, z < w.heap.size := fun z hz => Nat.lt_of_lt_of_le (h.lt z (h3 z hz)) h.size
    exact ⟨blk, bs, h1.frame (fun b hb => old b (lt b (List.mem_append_right _ hb))) (fun b hb => old b (lt b (by simp [hb]))), h2, h3⟩
  os := os.trans h.os
  tp := tp.trans h.tp
  out := out.trans h.out
  size := Nat.le_trans h.size size
  old := fun b hb hn => (old b (Nat.lt_of_lt_of_le hb h.size)).trans (h.old b hb hn)
  wr := fun b hb => by rw [old b (Nat.lt_of_lt_of_le (h.lt b hb) h.size)]; exact h.wr b hb
  lt := h.lt
theorem Nst.elem {w0 w : World} {ba : List Nat} {e : TypeId} {u : Ty} {hd : Value} {pre suf : List u.den} {x : u.den} (h : Nst w0 ba e u hd (pre ++ x :: suf) w) (hu : u.size ≠ 0) :
    ∃ b o cap c e' be, hd = .slice (some ⟨b, o, none⟩) (pre ++ x :: suf).length cap ∧ w.heap[b]? = some (.cells c e' (0, 0)) ∧ o + pre.length * u.size + u.size ≤ c.size ∧
      Rd w.heap u x ((c.toList.drop (o + pre.length * u.size)).take u.size) be ∧ be.Nodup ∧ (∀ z ∈ be, z ∈ ba) ∧ b ∉ be ∧ b ∈ ba ∧
      ∀ (w' : World) (x' : u.den) (c' : Array Value) (bz : List Nat), w'.heap[b]? = some (.cells c' e' (0, 0)) → c'.size = c.size → (∀ j, j < o + pre.length * u.size ∨ o + pre.length * u.size + u.size ≤ j → c'[j]? = c[j]?) →
        Rd w'.heap u x' ((c'.toList.drop (o + pre.length * u.size)).take u.size) bz → bz.Nodup → (∀ z ∈ bz, z ∈ be) → w'.os = w.os → Tp w' w → w'.output = w.output → w.heap.size ≤ w'.heap.size →
        (∀ z, z < w.heap.size → z ∉ be → z ≠ b → w'.heap[z]? = w.heap[z]?) → (∀ z ∈ be, ∃ c e, w'.heap[z]? = some (.cells c e (0, 0))) → Nst w0 ba e u hd (pre ++ x' :: suf) w' := by
  obtain ⟨blk, bs, h1, h2, h3⟩ := h.rd
  rcases h1 with ⟨_, _, q, _⟩ | ⟨b, o, cap, c, fr, r1, r2, ⟨r3, r3'⟩, ⟨e', r4⟩, r5, r6⟩
  · cases pre <;> cases q
  · subst r2
    have hb : b ∈ ba := h3 b (by simp)
    have hfr : fr = (0, 0) := by
      obtain ⟨c1, e1, k⟩ := h.wr b hb
      rw [r4] at k; injection k with k; injection k with _ _ k
    subst hfr
    obtain ⟨b1, b2', s1, s2, s3⟩ := r6.app
    obtain ⟨be, b2, s4, s5, s6⟩ := s2
    rw [List.drop_drop] at s4
    rw [List.drop_drop, List.drop_drop] at s5
    subst s6; subst s3
    have nd := h2
    simp only [Option.toList_some, List.singleton_append, List.nodup_cons, List.mem_append, List.nodup_append, not_or] at nd
    obtain ⟨⟨n1, n2, n3⟩, n4, ⟨n5, n6, n7⟩, n8⟩ := nd
    have hlen : (pre ++ x :: suf).length = pre.length + 1 + suf.length := by simp; omega
    have hmul : (pre.length + 1) * u.size ≤ cap * u.size := Nat.mul_le_mul_right _ (by omega)
    have hsm : (pre.length + 1) * u.size = pre.length * u.size + u.size := Nat.succ_mul _ _
    refine ⟨b, o, cap, c, e', be, r1, r4, by omega, s4, n5, fun z hz => h3 z (by simp [hz]), n2, hb, ?_⟩
    intro w' x' c' bz t1 t2 t3 t4 t5 t6 t7 t8 t9 t10 t11 t12
    have ltA : ∀ z ∈ ba, z < w.heap.size := fun z hz => Nat.lt_of_lt_of_le (h.lt z hz) h.size
    have f1 : ∀ z ∈ b1, w'.heap[z]? = w.heap[z]? := fun z hz => t11 z (ltA z (h3 z (by simp [hz]))) (fun q => n8 z hz z (.inl q) rfl) (fun q => n1 (q ▸ hz))
    have f2 : ∀ z ∈ b2, w'.heap[z]? = w.heap[z]? := fun z hz => t11 z (ltA z (h3 z (by simp [hz]))) (fun q => n7 z q z hz rfl) (fun q => n3 (q ▸ hz))
    have g1 : RdL (Rd w'.heap u) u.size pre (c'.toList.drop o) b1 :=
      (s1.mono fun x cs b hm hr => hr.frame fun y hy => f1 y (hm y hy)).take fun j hj => by
        rw [List.getElem?_drop, List.getElem?_drop, Array.getElem?_toList, Array.getElem?_toList]; exact t3 _ (.inl (by omega))
    have g2 : RdL (Rd w'.heap u) u.size suf (c'.toList.drop (o + (pre.length * u.size + u.size))) b2 :=
      (s5.mono fun x cs b hm hr => hr.frame fun y hy => f2 y (hm y hy)).take fun j hj => by
        rw [List.getElem?_drop, List.getElem?_drop, Array.getElem?_toList, Array.getElem?_toList]; exact t3 _ (.inr (by omega))
    have g3 : RdL (Rd w'.heap u) u.size (pre ++ x' :: suf) (c'.toList.drop o) (b1 ++ (bz ++ b2)) := by
      refine RdL.join g1 ⟨bz, b2, ?_, ?_, rfl⟩
      · rw [List.drop_drop]; exact t4
      · rw [List.drop_drop, List.drop_drop]; exact g2
    refine ⟨⟨some b, b1 ++ (bz ++ b2), .inr ⟨b, o, cap, c', (0, 0), by rw [r1]; simp, rfl, ⟨by rw [hlen] at r3; simp; omega, r3'⟩, ⟨e', t1⟩, by omega, g3⟩, ?_, ?_⟩, t7.trans h.os, t8.trans h.tp, t9.trans h.out, Nat.le_trans h.size t10, ?_, ?_, h.lt⟩
    · simp only [Option.toList_some, List.singleton_append, List.nodup_cons, List.mem_append, List.nodup_append, not_or]
      refine ⟨⟨n1, fun q => n2 (t6 b q), n3⟩, n4, ⟨t5, n6, fun a ha b hb => n7 a (t6 a ha) b hb⟩, fun a ha b hb => ?_⟩
      rcases hb with q | q
      · exact n8 a ha b (.inl (t6 b q))
      · exact n8 a ha b (.inr q)
    · intro z hz
      simp only [Option.toList_some, List.singleton_append, List.mem_cons, List.mem_append] at hz
      rcases hz with rfl | q | q | q
      · exact hb
      · exact h3 z (by simp [q])
      · exact h3 z (by simp [t6 z q])
      · exact h3 z (by simp [q])
    · intro z hz hn
      rw [t11 z (Nat.lt_of_lt_of_le hz h.size) (fun q => hn (h3 z (by simp [q]))) (fun q => hn (q ▸ hb))]
      exact h.old z hz hn
    · intro z hz
      by_cases q1 : z ∈ be
      · exact t12 z q1
      · by_cases q2 : z = b
        · subst q2; exact ⟨_, _, t1⟩
        · rw [t11 z (ltA z hz) q1 q2]; exact h.wr z hz
structure AtV (n : Nat) (f : Nat → Value) (a : Act) : Prop where
  sz : a.tmps.size = n
  df : a.defers = []
  at_ : ∀ s, a.tmps.getD s undef = f s
def updV (f : Nat → Value) (d : Nat) (v : Value) : Nat → Value := fun s => if s = d then v else f s
theorem AtV.put {n d : Nat} {f : Nat → Value} {a : Act} (h : AtV n f a) (hd : d < n) (v : Value) : AtV n (updV f d v) (a.put (some d) v) where
  sz := by simp [Act.put, h.sz]
  df := h.df
  at_ := fun s => by rw [put_getD (by rw [h.sz]; exact hd), h.at_]; rfl
theorem AtV.ev {n s : Nat} {f : Nat → Value} {a : Act} (h : AtV n f a) : a.eval (.tmp s) = f s := h.at_ s
theorem run_indexS {t e : TypeId} {u : Ty} (hT : TOK P T) (k : TyOK P T t (.slice e u)) {w : World} {b o m cap : Nat} {kk : IntKind} {i : Nat} (hi : i < m) :
    (Instr.indexAt t (.slice (some ⟨b, o, none⟩) m cap) (.int kk i)).run P w = .ok (.pointer (some ⟨b, o + i * u.size, none⟩)) w := by
  obtain ⟨u1, u2, _⟩ := k.und
  have asInt : (asIntOf (.int kk (i : Int))).run P w = .ok (kk, (i : Int)) w := rfl
  have hi' : 0 ≤ (i : Int) ∧ (i : Int) < m := by omega
  simp only [Instr.indexAt, Sem.run_bind, asInt, Result.andThen_ok, run_underlying u1, Sem.run_pure, sizeOf_of (hT _ _ u2), if_pos hi']
  rw [addr_add]; simp
theorem run_loadS {t e : TypeId} {u : Ty} (k : TyOK P T t (.slice e u)) {w : World} {b o : Nat} {c : Array Value} {e' : TypeId} {fr : Nat × Nat} {v : Value} (hb : w.heap[b]? = some (.cells c e' fr)) (hv : c[o]? = some v) :
    (Instr.loadAt t (.pointer (some ⟨b, o, none⟩))).run P w = .ok v w := by
  have ho : o < c.size := by
    rcases Nat.lt_or_ge o c.size with q | q
    · exact q
    · rw [Array.getElem?_eq_none q] at hv; cases hv
  have := run_loadVar k hb (show o + (Ty.slice e u).size ≤ c.size from ho)
  simp only [Instr.loadAt, Sem.run_bind, run_sureAddr, Result.andThen_ok]
  rw [this]
  show Result.ok (((c.toList.drop o).take 1).headD undef) w = _
  congr 1
  have : c.toList.drop o = v :: c.toList.drop (o + 1) := by
    rw [List.drop_eq_getElem_cons (by simpa using ho)]
    congr 1
    rw [Array.getElem?_eq_getElem ho] at hv
    injection hv with hv
  rw [this]; rfl
theorem run_enter2 {a : Act} {w : World} {o : Oper} {c : Call} {kf : Nat} {x y z : Operand} {fn : Func} (hop : o.op = .call c) (hcal : c.callee = .value z) (hz : a.eval z = .func (.func kf) #[] #[]) (hargs : c.args.toList = [x, y])
    (f1 : P.funcs[kf]? = some fn) (f2 : fn.name ≠ "runtime.NumGoroutine") (f3 : fn.body.isNone = false) : (execOp a.eval o).run P w = .ok (.enter kf #[a.eval x, a.eval y]) w := by
  have hargs : c.args.map a.eval = #[a.eval x, a.eval y] := by apply Array.ext'; simp [hargs]
  simp only [execOp, hop, resolve, hcal, hz, Deferred.ofValue, invoke, callFunc, Sem.run_bind, Sem.run_pure, Result.andThen_ok, run_program, f1]
  rw [if_neg (by simpa using f2), if_neg (by simp [f3])]
  simp [hargs]
end
def callOf (o : Oper) : Option Call := match o.op with | .call c => some c | _ => none
def valOf (c : Callee) : Option Operand := match c with | .value z => some z | _ => none
def isF (f : Nat) : Operand → Bool
  | .func g => Nat.beq g f
  | _ => false
theorem isF_ev {f : Nat} {x : Operand} (h : isF f x = true) (a : Act) : a.eval x = .func (.func f) #[] #[] := by
  unfold isF at h
  split at h
  · rw [Nat.eq_of_beq_eq_true h]; rfl
  · cases h
def opsIn (id : Nat) : Code → Option (Array Oper)
  | .region j ops _ => bif Nat.beq j id then some ops else none
  | .seq a b => (match opsIn id a with | some x => some x | none => opsIn id b)
  | .cond _ a b => (match opsIn id a with | some x => some x | none => opsIn id b)
  | .block _ b => opsIn id b
  | .loop b => opsIn id b
  | _ => none
abbrev rows : Ty := .slice 24 (.slice 2 i64)
abbrev G19h : Type := Args [.v (.slice 2 i64), .v i64] → Option (Ress [.slice 2 i64, i64])
theorem wf_i {i : Int} (h0 : 0 ≤ i) (h1 : i ≤ 1000000000000) : (Lit.int .i64 i).wf = true := by
  simp [Lit.wf, IntKind.min, IntKind.max, IntKind.bits, IntKind.signed]; omega
section
variable {w0 : World} {ba : List Nat} {hd : Value} {g : G19h} {N : Nat} {y : List (List Int) × Int}
theorem rawSt {e : TypeId} {u : Ty} {L : List u.den} {a : Act} {w : World} {n : Nat} {f : Nat → Value} {k i : Int} (h : AtV n f a) (f0 : f 0 = hd) (f1 : f 1 = .int .i64 k) (f5 : f 5 = .int .i64 i) (wk : (Lit.int .i64 k).wf = true) (wi : (Lit.int .i64 i).wf = true)
    (nst : Nst w0 ba e u hd L w) : St ⟨n, true, hd⟩ w (fun _ => False) (gh0 w [] ba) (Env.get [(0, .val false [.fz (.slice e u) 0 true L]), (1, intE .i64 k), (5, intE .i64 i)]) a w where
  inv := by
    refine ⟨Nat.le_refl _, fun b _ _ => rfl, fun b => ?_, fun b hb => ?_, fun b hb => ?_, fun b hb => absurd rfl hb, fun b hb => absurd rfl hb⟩
    · simp only [gh0]
      split
      · exact .inl rfl
      · exact .inr (.inl rfl)
    · simp only [gh0] at hb
      split at hb
      · cases hb
      · rename_i h; exact Nat.lt_of_not_le fun q => h (.inl q)
    · simp only [gh0] at hb
      split at hb
      · rename_i h; exact h
      · cases hb
  ent := by
    intro s
    rw [h.at_]
    simp only [Env.get]
    cases q0 : Nat.beq 0 s with
    | true =>
      have := Nat.eq_of_beq_eq_true q0; subst this
      rw [cond_true, f0]
      obtain ⟨blk, bs, h1, h2, h3⟩ := nst.rd
      have hc : hd.cells = #[hd] := by
        rcases h1 with ⟨p, q, _⟩ | ⟨_, _, _, _, _, q, _⟩ <;> rw [q] <;> rfl
      refine LeafB.val1 (l := .fz (.slice e u) 0 true L) (bs := blk.toList ++ bs) ⟨⟨hd, blk, bs, rfl, h1, rfl⟩, fun b hb => ?_, fun q => absurd rfl q, fun _ => ⟨fun q => absurd rfl q, fun _ _ _ => rfl⟩⟩ hc 0
      simp only [gh0]; rw [if_pos (.inr (h3 b hb))]
    | false =>
      rw [cond_false]
      cases q1 : Nat.beq 1 s with
      | true =>
        have := Nat.eq_of_beq_eq_true q1; subst this
        rw [cond_true, f1]; exact intE_sound wk
      | false =>
        rw [cond_false]
        cases q5 : Nat.beq 5 s with
        | true =>
          have := Nat.eq_of_beq_eq_true q5; subst this
          rw [cond_true, f5]; exact intE_sound wi
        | false => trivial
  sz := ⟨h.sz, fun _ => by rw [h.at_]; exact f0⟩
  df := h.df
  os := rfl
  tape := Tp.refl
  output := rfl
theorem St.atV {W : Nat → Prop} {n : NS} {w w' : World} {gg : Gh} {env : Nat → Ent} {a : Act} (st : St n w W gg env a w') : AtV n.n (fun s => a.tmps.getD s Go.undef) a := ⟨st.sz.1, st.df, fun _ => rfl⟩
theorem Nst.of_St {e : TypeId} {u : Ty} {L : List u.den} {n : NS} {w w' : World} {gg : Gh} {env : Nat → Ent} {a : Act} (h : Nst w0 ba e u hd L w) (st : St n w (fun _ => False) gg env a w') : Nst w0 ba e u hd L w' :=
  h.ext st.os st.tape st.output st.inv.size fun b hb => st.inv.old b hb (fun q => q)
def mu28 (N : Nat) (a : Act) : Nat := match a.tmps.getD 5 undef with | .int _ i => (N - i).toNat | _ => 0
end
abbrev polys : Ty := .slice 58 poly
abbrev R27h : Type := Ress [polys, i64]
abbrev G27h : Type := Args [.v polys, .v i64] → Option R27h
abbrev G70h : Type := Args [.v (.slice 135 term), .v i64] → Option (Ress [.slice 135 term, i64])
noncomputable def o27 (i : Nat) : Array Oper := match opsIn i (bodyOf Try.f27) with | some x => x | none => #[]
noncomputable def in27 : Code := .seq (.region 4 (o27 4) false) (.seq (.region 5 (o27 5) false) (.seq (.region 6 (o27 6) false) (.seq (.region 7 (o27 7) false) (.region 8 (o27 8) false))))
noncomputable def loop27 : Code := .seq (.seq (.region 2 (o27 2) false) (.cond (.tmp 9) .skip (.exit 0))) (.seq (.block 1 in27) (.region 3 (o27 3) false))
theorem sk27 : Try.f27.body = some (.seq (.region 0 (o27 0) false) (.seq (.seq (.region 1 (o27 1) false) (.block 0 (.loop loop27))) (.seq (.region 9 (o27 9) false) .ret))) := by kernel_rfl
theorem nt27 : Try.f27.ntmps = 34 := by kernel_rfl
theorem rs27 : Try.f27.results.toList = [.tmp 4] := by kernel_rfl
def wr1 (k : Int) : Int := IntKind.i64.wrap (k + 1)
def E27 (L : polys.den) (k : Int) (i : Int) : Env := [(0, .val false [.fz polys 0 true L]), (1, intE .i64 k), (5, intE .i64 i)]
theorem e27a (L : polys.den) (k : Int) : evL TT [] [] [] (.region 0 (o27 0) false) (initEnv 0 [.v polys, .v i64] (L, k, ())) (fun e => some (keepK [0, 1] e)) (fun _ _ => none) (fun _ => none) =
    some [(0, .val false [.fz polys 0 true L]), (1, intE .i64 k)] := by kernel_rfl
theorem e27b (L : polys.den) (k : Int) : evL TT [] [] [] (.region 1 (o27 1) false) [(0, .val false [.fz polys 0 true L]), (1, intE .i64 k)] (fun e => some (keepK [0, 1, 5] e)) (fun _ _ => none) (fun _ => none) =
    some (E27 L k 0) := by kernel_rfl
theorem e27c (L : polys.den) (k i : Int) : evL TT [] [] [] (.region 2 (o27 2) false) (E27 L k i) (fun e => some (keepK [0, 1, 5, 9] e)) (fun _ _ => none) (fun _ => none) =
    bif decide (L.length ≤ 9223372036854775807) then some (E27 L k i ++ [(9, boolE (decide (i < Int.ofNat L.length)))]) else none := by kernel_rfl
theorem e27d (L : polys.den) (k i : Int) : evL TT [] [] [] (.region 3 (o27 3) false) (E27 L k i) (fun e => some (keepK [0, 1, 5] e)) (fun _ _ => none) (fun _ => none) =
    some (E27 L k (IntKind.i64.wrap (i + 1))) := by kernel_rfl
theorem e27f (L : polys.den) (k i : Int) : evL TT [] [] [] (.region 5 (o27 5) false) (E27 L k i) (fun e => some (keepK [0, 1, 5] e)) (fun _ _ => none) (fun _ => none) =
    some (E27 L (wr1 k) i) := by kernel_rfl
theorem e27g (L : polys.den) (k i : Int) : evL TT [] [] [] (.region 7 (o27 7) false) (E27 L k i) (fun e => some (keepK [0, 1, 5] e)) (fun _ _ => none) (fun _ => none) =
    some (E27 L (wr1 k) i) := by kernel_rfl
theorem e27e (L : polys.den) (k i : Int) : evL TT [] [] [] (.region 9 (o27 9) false) (E27 L k i) (fun e => some (keepK [0, 1, 4] e)) (fun _ _ => none) (fun _ => none) =
    some [(0, .val false [.fz polys 0 true L]), (1, intE .i64 k), (4, intE .i64 k)] := by kernel_rfl
theorem oc27 (i : Nat) (hi : i = 0 ∨ i = 1 ∨ i = 2 ∨ i = 3 ∨ i = 5 ∨ i = 7 ∨ i = 9) (v0 : Value) : okCode ⟨34, true, v0⟩ (.region i (o27 i) false) = true := by
  rcases hi with rfl | rfl | rfl | rfl | rfl | rfl | rfl <;> kernel_rfl
theorem rg27_4 : List.range (o27 4).size = [0, 1, 2, 3, 4, 5] := by kernel_rfl
theorem q27_4_0 : ∃ o, (o27 4)[0]? = some o ∧ o.op = .move (.tmp 0) ∧ o.dst = some 12 ∧ o.guard = none := ⟨((o27 4)[0]?).get (by kernel_rfl), (Option.some_get _).symm, by kernel_rfl, by kernel_rfl, by kernel_rfl⟩
theorem q27_4_1 : ∃ o, (o27 4)[1]? = some o ∧ o.op = .move (.tmp 5) ∧ o.dst = some 13 ∧ o.guard = none := ⟨((o27 4)[1]?).get (by kernel_rfl), (Option.some_get _).symm, by kernel_rfl, by kernel_rfl, by kernel_rfl⟩
theorem q27_4_2 : ∃ o, (o27 4)[2]? = some o ∧ o.op = .move (.tmp 1) ∧ o.dst = some 14 ∧ o.guard = none := ⟨((o27 4)[2]?).get (by kernel_rfl), (Option.some_get _).symm, by kernel_rfl, by kernel_rfl, by kernel_rfl⟩
theorem q27_4_3 : ∃ o, (o27 4)[3]? = some o ∧ o.op = .indexAddr 37 (.tmp 12) (.tmp 13) ∧ o.dst = some 15 ∧ o.guard = none := ⟨((o27 4)[3]?).get (by kernel_rfl), (Option.some_get _).symm, by kernel_rfl, by kernel_rfl, by kernel_rfl⟩
theorem q27_4_4 : ∃ o, (o27 4)[4]? = some o ∧ o.op = .fieldAddr 58 (.tmp 15) 0 ∧ o.dst = some 16 ∧ o.guard = none := ⟨((o27 4)[4]?).get (by kernel_rfl), (Option.some_get _).symm, by kernel_rfl, by kernel_rfl, by kernel_rfl⟩
theorem q27_4_5 : ∃ o, (o27 4)[5]? = some o ∧ o.op = .store 2 (.tmp 16) (.tmp 14) ∧ o.dst = none ∧ o.guard = none := ⟨((o27 4)[5]?).get (by kernel_rfl), (Option.some_get _).symm, by kernel_rfl, by kernel_rfl, by kernel_rfl⟩
theorem rg27_6 : List.range (o27 6).size = [0, 1, 2, 3, 4, 5] := by kernel_rfl
theorem q27_6_0 : ∃ o, (o27 6)[0]? = some o ∧ o.op = .move (.tmp 0) ∧ o.dst = some 19 ∧ o.guard = none := ⟨((o27 6)[0]?).get (by kernel_rfl), (Option.some_get _).symm, by kernel_rfl, by kernel_rfl, by kernel_rfl⟩
theorem q27_6_1 : ∃ o, (o27 6)[1]? = some o ∧ o.op = .move (.tmp 5) ∧ o.dst = some 20 ∧ o.guard = none := ⟨((o27 6)[1]?).get (by kernel_rfl), (Option.some_get _).symm, by kernel_rfl, by kernel_rfl, by kernel_rfl⟩
theorem q27_6_2 : ∃ o, (o27 6)[2]? = some o ∧ o.op = .move (.tmp 1) ∧ o.dst = some 21 ∧ o.guard = none := ⟨((o27 6)[2]?).get (by kernel_rfl), (Option.some_get _).symm, by kernel_rfl, by kernel_rfl, by kernel_rfl⟩
theorem q27_6_3 : ∃ o, (o27 6)[3]? = some o ∧ o.op = .indexAddr 37 (.tmp 19) (.tmp 20) ∧ o.dst = some 22 ∧ o.guard = none := ⟨((o27 6)[3]?).get (by kernel_rfl), (Option.some_get _).symm, by kernel_rfl, by kernel_rfl, by kernel_rfl⟩
theorem q27_6_4 : ∃ o, (o27 6)[4]? = some o ∧ o.op = .fieldAddr 58 (.tmp 22) 1 ∧ o.dst = some 23 ∧ o.guard = none := ⟨((o27 6)[4]?).get (by kernel_rfl), (Option.some_get _).symm, by kernel_rfl, by kernel_rfl, by kernel_rfl⟩
theorem q27_6_5 : ∃ o, (o27 6)[5]? = some o ∧ o.op = .store 2 (.tmp 23) (.tmp 21) ∧ o.dst = none ∧ o.guard = none := ⟨((o27 6)[5]?).get (by kernel_rfl), (Option.some_get _).symm, by kernel_rfl, by kernel_rfl, by kernel_rfl⟩
theorem rg27_8 : List.range (o27 8).size = [0, 1, 2, 3, 4, 5, 6, 7] := by kernel_rfl
theorem q27_8_0 : ∃ o, (o27 8)[0]? = some o ∧ o.op = .move (.tmp 0) ∧ o.dst = some 26 ∧ o.guard = none := ⟨((o27 8)[0]?).get (by kernel_rfl), (Option.some_get _).symm, by kernel_rfl, by kernel_rfl, by kernel_rfl⟩
theorem q27_8_1 : ∃ o, (o27 8)[1]? = some o ∧ o.op = .move (.tmp 5) ∧ o.dst = some 27 ∧ o.guard = none := ⟨((o27 8)[1]?).get (by kernel_rfl), (Option.some_get _).symm, by kernel_rfl, by kernel_rfl, by kernel_rfl⟩
theorem q27_8_2 : ∃ o, (o27 8)[2]? = some o ∧ o.op = .indexAddr 37 (.tmp 26) (.tmp 27) ∧ o.dst = some 28 ∧ o.guard = none := ⟨((o27 8)[2]?).get (by kernel_rfl), (Option.some_get _).symm, by kernel_rfl, by kernel_rfl, by kernel_rfl⟩
theorem q27_8_3 : ∃ o, (o27 8)[3]? = some o ∧ o.op = .fieldAddr 58 (.tmp 28) 2 ∧ o.dst = some 29 ∧ o.guard = none := ⟨((o27 8)[3]?).get (by kernel_rfl), (Option.some_get _).symm, by kernel_rfl, by kernel_rfl, by kernel_rfl⟩
theorem q27_8_4 : ∃ o, (o27 8)[4]? = some o ∧ o.op = .load 56 (.tmp 29) ∧ o.dst = some 30 ∧ o.guard = none := ⟨((o27 8)[4]?).get (by kernel_rfl), (Option.some_get _).symm, by kernel_rfl, by kernel_rfl, by kernel_rfl⟩
theorem q27_8_5 : ∃ o, (o27 8)[5]? = some o ∧ o.op = .move (.tmp 1) ∧ o.dst = some 31 ∧ o.guard = none := ⟨((o27 8)[5]?).get (by kernel_rfl), (Option.some_get _).symm, by kernel_rfl, by kernel_rfl, by kernel_rfl⟩
theorem q27_8_7 : ∃ o, (o27 8)[7]? = some o ∧ o.op = .assign (.tmp 32) ∧ o.dst = some 1 ∧ o.guard = none := ⟨((o27 8)[7]?).get (by kernel_rfl), (Option.some_get _).symm, by kernel_rfl, by kernel_rfl, by kernel_rfl⟩
noncomputable def o27_6 : Oper := ((o27 8)[6]?).get (by kernel_rfl)
noncomputable def c27_6 : Call := (callOf o27_6).get (by kernel_rfl)
noncomputable def z27_6 : Operand := (valOf c27_6.callee).get (by kernel_rfl)
theorem q27_8_6 : ∃ o c z, (o27 8)[6]? = some o ∧ o.op = .call c ∧ c.callee = .value z ∧ isF 70 z = true ∧ c.args.toList = [.tmp 30, .tmp 31] ∧ o.dst = some 32 ∧ o.guard = none :=
  ⟨o27_6, c27_6, z27_6, (Option.some_get _).symm, by kernel_rfl, by kernel_rfl, by kernel_rfl, by kernel_rfl, by kernel_rfl, by kernel_rfl⟩
theorem rdPoly {h : Mem} {x : poly.den} {cs : List Value} {be : List Nat} : Rd h poly x cs be ↔ ∃ hdT, cs = [.int .i64 x.1, .int .i64 x.2.1, hdT] ∧ (Lit.int .i64 x.1).wf = true ∧ (Lit.int .i64 x.2.1).wf = true ∧ Rd h (.slice 135 term) x.2.2.1 [hdT] be := by
  constructor
  · intro hr
    have hl : cs.length = 3 := hr.length
    match cs, hl, hr with
    | [a, b, c], _, hr =>
      obtain ⟨b1, b2, ⟨p1, p2, p3⟩, ⟨b3, b4, ⟨q1, q2, q3⟩, ⟨b5, b6, r1, ⟨r2, r3⟩, r4⟩, q4⟩, p4⟩ := hr
      subst p3; subst q3; subst r3; subst r4; subst q4; subst p4
      have p1 : [a] = [Value.int .i64 x.1] := p1
      have q1 : [b] = [Value.int .i64 x.2.1] := q1
      injection p1 with p1 _
      injection q1 with q1 _
      refine ⟨c, by rw [p1, q1], p2, q2, ?_⟩
      simp only [List.nil_append, List.append_nil]
      exact r1
  · rintro ⟨c, rfl, h1, h2, h3⟩
    exact ⟨[], be, ⟨rfl, h1, rfl⟩, ⟨[], be, ⟨rfl, h2, rfl⟩, ⟨be, [], h3, ⟨rfl, rfl⟩, by simp⟩, rfl⟩, rfl⟩
def setF (j : Nat) (x : poly.den) (k : Int) : poly.den := if j = 0 then (k, x.2) else (x.1, k, x.2.2)
section
variable {w0 : World} {ba : List Nat} {hd : Value} {g : G70h} {N : Nat} {y : List poly.den × Int}
theorem Nst.wrInt {w : World} {pre suf : List poly.den} {x : poly.den} {k : Int} {j : Nat} (hj : j = 0 ∨ j = 1) (h : Nst w0 ba 58 poly hd (pre ++ x :: suf) w) (wk : (Lit.int .i64 k).wf = true) :
    ∃ b o cap c e', hd = .slice (some ⟨b, o, none⟩) (pre ++ x :: suf).length cap ∧ w.heap[b]? = some (.cells c e' (0, 0)) ∧ o + pre.length * 3 + 3 ≤ c.size ∧
      Nst w0 ba 58 poly hd (pre ++ setF j x k :: suf) (w.setRow b (splice c.toList (o + pre.length * 3 + j) [.int .i64 k]).toArray) := by
  obtain ⟨b, o, cap, c, e', be, r1, r2, r3, r4, r5, r6, r7, r8, fin⟩ := h.elem (by decide)
  have three : (poly).size = 3 := rfl
  rw [three] at r3 r4
  refine ⟨b, o, cap, c, e', r1, r2, r3, ?_⟩
  have hin : o + pre.length * 3 + j + [Value.int .i64 k].length ≤ c.toList.length := by simp; omega
  have hsl := splice_length c.toList (o + pre.length * 3 + j) [.int .i64 k] hin
  have hsg := splice_get c.toList (o + pre.length * 3 + j) [.int .i64 k] hin
  have hb' := setRow_heap w b c (splice c.toList (o + pre.length * 3 + j) [.int .i64 k]).toArray e' (0, 0) r2
  have hoth : ∀ z, z ≠ b → (w.setRow b (splice c.toList (o + pre.length * 3 + j) [.int .i64 k]).toArray).heap[z]? = w.heap[z]? := fun z hz => setRow_other w b z _ hz
  have ltb : ∀ z ∈ be, z ≠ b := fun z hz q => r7 (q ▸ hz)
  refine fin _ (setF j x k) _ be hb' (by simpa using hsl) (fun i hi => ?_) ?_ r5 (fun z hz => hz) rfl ⟨rfl, Nat.le_refl _⟩ rfl (by simp [World.setRow]) (fun z _ _ hz => hoth z hz) (fun z hz => by rw [hoth z (ltb z hz)]; exact h.wr z (r6 z hz))
  · rw [three] at hi
    rw [List.getElem?_toArray, hsg, if_neg (by simp; omega), Array.getElem?_toList]
  · rw [three]
    obtain ⟨hdT, c1, c2, c3, c4⟩ := rdPoly.1 r4
    have at_ : ∀ i, i < 3 → c[o + pre.length * 3 + i]? = ([Value.int .i64 x.1, Value.int .i64 x.2.1, hdT] : List Value)[i]? := fun i hi => by
      rw [← c1, List.getElem?_take_of_lt hi, List.getElem?_drop, Array.getElem?_toList]
    have c4' : Rd (w.setRow b (splice c.toList (o + pre.length * 3 + j) [.int .i64 k]).toArray).heap (.slice 135 term) x.2.2.1 [hdT] be := c4.frame fun z hz => hoth z (ltb z hz)
    have cells : ((splice c.toList (o + pre.length * 3 + j) [.int .i64 k]).toArray.toList.drop (o + pre.length * 3)).take 3 = [.int .i64 (setF j x k).1, .int .i64 (setF j x k).2.1, hdT] := by
      apply List.ext_getElem?
      intro i
      by_cases hi : i < 3
      · rw [List.getElem?_take_of_lt hi, List.getElem?_drop, List.toList_toArray, hsg]
        have a0 := at_ i hi
        rw [← Array.getElem?_toList] at a0
        rcases hj with rfl | rfl
        · match i, hi with
          | 0, _ => rw [if_pos (by simp only [List.length_singleton]; omega)]; simp [setF]
          | 1, _ => rw [if_neg (by simp only [List.length_singleton]; omega), a0]; simp [setF]
          | 2, _ => rw [if_neg (by simp only [List.length_singleton]; omega), a0]; simp [setF]
        · match i, hi with
          | 0, _ => rw [if_neg (by simp only [List.length_singleton]; omega), a0]; simp [setF]
          | 1, _ => rw [if_pos (by simp only [List.length_singleton]; omega)]; simp [setF]
          | 2, _ => rw [if_neg (by simp only [List.length_singleton]; omega), a0]; simp [setF]
      · rw [List.getElem?_eq_none (by simp; omega), List.getElem?_eq_none (by simp; omega)]
    refine rdPoly.2 ⟨hdT, cells, ?_, ?_, ?_⟩
    · rcases hj with rfl | rfl
      · exact wk
      · exact c2
    · rcases hj with rfl | rfl
      · exact c3
      · exact wk
    · rcases hj with rfl | rfl <;> exact c4'
theorem run_storeI {w : World} {b o : Nat} {c : Array Value} {e : TypeId} {k : Int} (hb : w.heap[b]? = some (.cells c e (0, 0))) (ho : o < c.size) :
    (Instr.storeAt 2 (.pointer (some ⟨b, o, none⟩)) (.int .i64 k)).run Try.prog w = .ok () (w.setRow b (splice c.toList o [.int .i64 k]).toArray) :=
  run_storeVar (tt_ok 2 i64 (by kernel_rfl)) hb rfl (fun u hu => by simp [Value.cells] at hu; subst hu; rfl) ho
theorem reg27_4 {a : Act} {w : World} {pre suf : List poly.den} {x : poly.den} {k : Int} {f : Nat → Value} {Q : Exit → Act → World → Prop} (hA : AtV 34 f a) (f0 : f 0 = hd) (f1 : f 1 = .int .i64 k) (f5 : f 5 = .int .i64 pre.length) (wk : (Lit.int .i64 k).wf = true)
    (h : Nst w0 ba 58 poly hd (pre ++ x :: suf) w) (hQ : ∀ a' w' f', AtV 34 f' a' → f' 0 = hd → f' 1 = .int .i64 k → f' 5 = .int .i64 pre.length → Nst w0 ba 58 poly hd (pre ++ setF 0 x k :: suf) w' → Q .normal a' w') : (Code.region 4 (o27 4) false).wp Try.prog Q a w := by
  obtain ⟨b, o, cap, c, e', r1, r2, r3, n2⟩ := h.wrInt (j := 0) (by simp) wk
  refine wp_region ?_
  rw [rg27_4]
  obtain ⟨o0, o0a, o0b, o0c, o0d⟩ := q27_4_0
  obtain ⟨o1, o1a, o1b, o1c, o1d⟩ := q27_4_1
  obtain ⟨o2, o2a, o2b, o2c, o2d⟩ := q27_4_2
  obtain ⟨o3, o3a, o3b, o3c, o3d⟩ := q27_4_3
  obtain ⟨o4, o4a, o4b, o4c, o4d⟩ := q27_4_4
  obtain ⟨o5, o5a, o5b, o5c, o5d⟩ := q27_4_5
  refine wpOps_cons o0a o0d (upon_val (v := hd) (w' := w) (by simp only [execOp, o0b, show a.eval (.tmp 0) = hd from hA.ev.trans f0, Sem.run_pure]) ?_)
  rw [o0c]
  have p1 := hA.put (d := 12) (by omega) hd
  generalize a.put (some 12) hd = a2 at p1 ⊢
  refine wpOps_cons o1a o1d (upon_val (v := .int .i64 pre.length) (w' := w) (by simp only [execOp, o1b, show a2.eval (.tmp 5) = .int .i64 pre.length from p1.ev.trans f5, Sem.run_pure]) ?_)
  rw [o1c]
  have p2 := p1.put (d := 13) (by omega) (.int .i64 pre.length)
  generalize a2.put (some 13) (.int .i64 pre.length) = a3 at p2 ⊢
  refine wpOps_cons o2a o2d (upon_val (v := .int .i64 k) (w' := w) (by simp only [execOp, o2b, show a3.eval (.tmp 1) = .int .i64 k from p2.ev.trans f1, Sem.run_pure]) ?_)
  rw [o2c]
  have p3 := p2.put (d := 14) (by omega) (.int .i64 k)
  generalize a3.put (some 14) (.int .i64 k) = a4 at p3 ⊢
  have ri := run_indexS (P := Try.prog) tt_ok (tt_ok 37 polys (by kernel_rfl)) (w := w) (b := b) (o := o) (m := (pre ++ x :: suf).length) (cap := cap) (kk := .i64) (i := pre.length) (by simp)
  rw [show (poly).size = 3 from rfl, ← r1] at ri
  refine wpOps_cons o3a o3d (upon_val (v := .pointer (some ⟨b, o + pre.length * 3, none⟩)) (w' := w) (by
    simp only [execOp, o3b, show a4.eval (.tmp 12) = hd from p3.ev, show a4.eval (.tmp 13) = .int .i64 pre.length from p3.ev, Sem.run_bind, ri, Result.andThen_ok, Sem.run_pure]) ?_)
  rw [o3c]
  have p4 := p3.put (d := 15) (by omega) (.pointer (some ⟨b, o + pre.length * 3, none⟩))
  generalize a4.put (some 15) (.pointer (some ⟨b, o + pre.length * 3, none⟩)) = a5 at p4 ⊢
  have rf := run_fieldAt (P := Try.prog) (w := w) (b := b) (o := o + pre.length * 3) (j := 0) (u := i64) tt_ok (tt_ok 58 poly (by kernel_rfl)) rfl rfl
  rw [show poff poly [.fld 0] = 0 from rfl] at rf
  refine wpOps_cons o4a o4d (upon_val (v := .pointer (some ⟨b, o + pre.length * 3 + 0, none⟩)) (w' := w) (by
    simp only [execOp, o4b, show a5.eval (.tmp 15) = .pointer (some ⟨b, o + pre.length * 3, none⟩) from p4.ev, Sem.run_bind, rf, Result.andThen_ok, Sem.run_pure]) ?_)
  rw [o4c]
  have p5 := p4.put (d := 16) (by omega) (.pointer (some ⟨b, o + pre.length * 3 + 0, none⟩))
  generalize a5.put (some 16) (.pointer (some ⟨b, o + pre.length * 3 + 0, none⟩)) = a6 at p5 ⊢
  have rs := run_storeI (w := w) (b := b) (o := o + pre.length * 3 + 0) (k := k) r2 (by omega)
  refine wpOps_cons o5a o5d (upon_skip (w' := w.setRow b (splice c.toList (o + pre.length * 3 + 0) [.int .i64 k]).toArray) (by
    simp only [execOp, o5b, show a6.eval (.tmp 16) = .pointer (some ⟨b, o + pre.length * 3 + 0, none⟩) from p5.ev, show a6.eval (.tmp 14) = .int .i64 k from p5.ev, Sem.run_bind, rs, Result.andThen_ok, Sem.run_pure]) ?_)
  rw [o5c]
  exact hQ a6 _ _ p5 (show _ = hd from f0) (show _ = Value.int .i64 k from f1) (show _ = Value.int .i64 (pre.length : Int) from f5) n2
theorem reg27_6 {a : Act} {w : World} {pre suf : List poly.den} {x : poly.den} {k : Int} {f : Nat → Value} {Q : Exit → Act → World → Prop} (hA : AtV 34 f a) (f0 : f 0 = hd) (f1 : f 1 = .int .i64 k) (f5 : f 5 = .int .i64 pre.length) (wk : (Lit.int .i64 k).wf = true)
    (h : Nst w0 ba 58 poly hd (pre ++ x :: suf) w) (hQ : ∀ a' w' f', AtV 34 f' a' → f' 0 = hd → f' 1 = .int .i64 k → f' 5 = .int .i64 pre.length → Nst w0 ba 58 poly hd (pre ++ setF 1 x k :: suf) w' → Q .normal a' w') : (Code.region 6 (o27 6) false).wp Try.prog Q a w := by
  obtain ⟨b, o, cap, c, e', r1, r2, r3, n2⟩ := h.wrInt (j := 1) (by simp) wk
  refine wp_region ?_
  rw [rg27_6]
  obtain ⟨o0, o0a, o0b, o0c, o0d⟩ := q27_6_0
  obtain ⟨o1, o1a, o1b, o1c, o1d⟩ := q27_6_1
  obtain ⟨o2, o2a, o2b, o2c, o2d⟩ := q27_6_2
  obtain ⟨o3, o3a, o3b, o3c, o3d⟩ := q27_6_3
  obtain ⟨o4, o4a, o4b, o4c, o4d⟩ := q27_6_4
  obtain ⟨o5, o5a, o5b, o5c, o5d⟩ := q27_6_5
  refine wpOps_cons o0a o0d (upon_val (v := hd) (w' := w) (by simp only [execOp, o0b, show a.eval (.tmp 0) = hd from hA.ev.trans f0, Sem.run_pure]) ?_)
  rw [o0c]
  have p1 := hA.put (d := 19) (by omega) hd
  generalize a.put (some 19) hd = a2 at p1 ⊢
  refine wpOps_cons o1a o1d (upon_val (v := .int .i64 pre.length) (w' := w) (by simp only [execOp, o1b, show a2.eval (.tmp 5) = .int .i64 pre.length from p1.ev.trans f5, Sem.run_pure]) ?_)
  rw [o1c]
  have p2 := p1.put (d := 20) (by omega) (.int .i64 pre.length)
  generalize a2.put (some 20) (.int .i64 pre.length) = a3 at p2 ⊢
  refine wpOps_cons o2a o2d (upon_val (v := .int .i64 k) (w' := w) (by simp only [execOp, o2b, show a3.eval (.tmp 1) = .int .i64 k from p2.ev.trans f1, Sem.run_pure]) ?_)
  rw [o2c]
  have p3 := p2.put (d := 21) (by omega) (.int .i64 k)
  generalize a3.put (some 21) (.int .i64 k) = a4 at p3 ⊢
  have ri := run_indexS (P := Try.prog) tt_ok (tt_ok 37 polys (by kernel_rfl)) (w := w) (b := b) (o := o) (m := (pre ++ x :: suf).length) (cap := cap) (kk := .i64) (i := pre.length) (by simp)
  rw [show (poly).size = 3 from rfl, ← r1] at ri
  refine wpOps_cons o3a o3d (upon_val (v := .pointer (some ⟨b, o + pre.length * 3, none⟩)) (w' := w) (by
    simp only [execOp, o3b, show a4.eval (.tmp 19) = hd from p3.ev, show a4.eval (.tmp 20) = .int .i64 pre.length from p3.ev, Sem.run_bind, ri, Result.andThen_ok, Sem.run_pure]) ?_)
  rw [o3c]
  have p4 := p3.put (d := 22) (by omega) (.pointer (some ⟨b, o + pre.length * 3, none⟩))
  generalize a4.put (some 22) (.pointer (some ⟨b, o + pre.length * 3, none⟩)) = a5 at p4 ⊢
  have rf := run_fieldAt (P := Try.prog) (w := w) (b := b) (o := o + pre.length * 3) (j := 1) (u := i64) tt_ok (tt_ok 58 poly (by kernel_rfl)) rfl rfl
  rw [show poff poly [.fld 1] = 1 from rfl] at rf
  refine wpOps_cons o4a o4d (upon_val (v := .pointer (some ⟨b, o + pre.length * 3 + 1, none⟩)) (w' := w) (by
    simp only [execOp, o4b, show a5.eval (.tmp 22) = .pointer (some ⟨b, o + pre.length * 3, none⟩) from p4.ev, Sem.run_bind, rf, Result.andThen_ok, Sem.run_pure]) ?_)
  rw [o4c]
  have p5 := p4.put (d := 23) (by omega) (.pointer (some ⟨b, o + pre.length * 3 + 1, none⟩))
  generalize a5.put (some 23) (.pointer (some ⟨b, o + pre.length * 3 + 1, none⟩)) = a6 at p5 ⊢
  have rs := run_storeI (w := w) (b := b) (o := o + pre.length * 3 + 1) (k := k) r2 (by omega)
  refine wpOps_cons o5a o5d (upon_skip (w' := w.setRow b (splice c.toList (o + pre.length * 3 + 1) [.int .i64 k]).toArray) (by
    simp only [execOp, o5b, show a6.eval (.tmp 23) = .pointer (some ⟨b, o + pre.length * 3 + 1, none⟩) from p5.ev, show a6.eval (.tmp 21) = .int .i64 k from p5.ev, Sem.run_bind, rs, Result.andThen_ok, Sem.run_pure]) ?_)
  rw [o5c]
  exact hQ a6 _ _ p5 (show _ = hd from f0) (show _ = Value.int .i64 k from f1) (show _ = Value.int .i64 (pre.length : Int) from f5) n2
end
def foldM27 (g : G70h) : List poly.den → Int → Option (List poly.den × Int)
  | [], k => some ([], k)
  | x :: r, k => match g (x.2.2.1, wr1 (wr1 k), ()) with
    | some y => (match foldM27 g r y.2.1 with | some z => some ((k, wr1 k, y.1, ()) :: z.1, z.2) | none => none)
    | none => none
structure I27 (w0 : World) (ba : List Nat) (hd : Value) (g : G70h) (N : Nat) (y : List poly.den × Int) (a : Act) (w : World) (pre suf : List poly.den) (k : Int) (f : Nat → Value) : Prop where
  at_ : AtV 34 f a
  f0 : f 0 = hd
  f1 : f 1 = .int .i64 k
  f5 : f 5 = .int .i64 pre.length
  wk : (Lit.int .i64 k).wf = true
  nst : Nst w0 ba 58 poly hd (pre ++ suf) w
  len : (pre ++ suf).length = N
  run : ∃ z, foldM27 g suf k = some z ∧ (pre ++ z.1, z.2) = y
section
variable {w0 : World} {ba : List Nat} {hd : Value} {g : G70h} {N : Nat} {y : List poly.den × Int}
theorem reg27_8 {a : Act} {w : World} {pre suf : List poly.den} {x : poly.den} {k : Int} {f : Nat → Value} {yx : Ress [.slice 135 term, i64]} {Q : Exit → Act → World → Prop} (k70 : KOne Try.prog 70 ⟨[.v (.slice 135 term), .v i64], [.slice 135 term, i64], false, false, 1, g⟩)
    (hA : AtV 34 f a) (f0 : f 0 = hd) (f1 : f 1 = .int .i64 k) (f5 : f 5 = .int .i64 pre.length) (wk : (Lit.int .i64 k).wf = true)
    (n1 : Nst w0 ba 58 poly hd (pre ++ x :: suf) w) (hyx : g (x.2.2.1, k, ()) = some yx)
    (hQ : ∀ a' w' f', AtV 34 f' a' → f' 0 = hd → f' 1 = .int .i64 yx.2.1 → f' 5 = .int .i64 pre.length → (Lit.int .i64 yx.2.1).wf = true → Nst w0 ba 58 poly hd (pre ++ (x.1, x.2.1, yx.1, ()) :: suf) w' → Q .normal a' w') : (Code.region 8 (o27 8) false).wp Try.prog Q a w := by
  obtain ⟨b, o, cap, c, e', be, r1, r2, r3, r4, r5, r6, r7, r8, fin⟩ := n1.elem (by decide)
  have three : (poly).size = 3 := rfl
  rw [three] at r3 r4
  obtain ⟨v, c1, c2, c3, c4⟩ := rdPoly.1 r4
  have v4 := c4
  obtain ⟨v', blkv, bsv, v1, v2, v3⟩ := v4
  injection v1 with v1 _
  subst v1
  have hcv : c[o + pre.length * 3 + 2]? = some v := by
    have : ((c.toList.drop (o + pre.length * 3)).take 3)[2]? = some v := by rw [c1]; rfl
    rw [List.getElem?_take_of_lt (by omega), List.getElem?_drop, Array.getElem?_toList] at this
    exact this
  refine wp_region ?_
  rw [rg27_8]
  obtain ⟨o0, o0a, o0b, o0c, o0d⟩ := q27_8_0
  obtain ⟨o1, o1a, o1b, o1c, o1d⟩ := q27_8_1
  obtain ⟨o2, o2a, o2b, o2c, o2d⟩ := q27_8_2
  obtain ⟨o3, o3a, o3b, o3c, o3d⟩ := q27_8_3
  obtain ⟨o4, o4a, o4b, o4c, o4d⟩ := q27_8_4
  obtain ⟨o5, o5a, o5b, o5c, o5d⟩ := q27_8_5
  obtain ⟨of, cf, zf, f1a, f1b, f1e, f1f, f1g, f1c, f1d⟩ := q27_8_6
  obtain ⟨o7, o7a, o7b, o7c, o7d⟩ := q27_8_7
  refine wpOps_cons o0a o0d (upon_val (v := hd) (w' := w) (by simp only [execOp, o0b, show a.eval (.tmp 0) = hd from hA.ev.trans f0, Sem.run_pure]) ?_)
  rw [o0c]
  have p1 := hA.put (d := 26) (by omega) hd
  generalize a.put (some 26) hd = a2 at p1 ⊢
  refine wpOps_cons o1a o1d (upon_val (v := .int .i64 pre.length) (w' := w) (by simp only [execOp, o1b, show a2.eval (.tmp 5) = .int .i64 pre.length from p1.ev.trans f5, Sem.run_pure]) ?_)
  rw [o1c]
  have p2 := p1.put (d := 27) (by omega) (.int .i64 pre.length)
  generalize a2.put (some 27) (.int .i64 pre.length) = a3 at p2 ⊢
  have ri := run_indexS (P := Try.prog) tt_ok (tt_ok 37 polys (by kernel_rfl)) (w := w) (b := b) (o := o) (m := (pre ++ x :: suf).length) (cap := cap) (kk := .i64) (i := pre.length) (by simp)
  rw [three, ← r1] at ri
  refine wpOps_cons o2a o2d (upon_val (v := .pointer (some ⟨b, o + pre.length * 3, none⟩)) (w' := w) (by
    simp only [execOp, o2b, show a3.eval (.tmp 26) = hd from p2.ev, show a3.eval (.tmp 27) = .int .i64 pre.length from p2.ev, Sem.run_bind, ri, Result.andThen_ok, Sem.run_pure]) ?_)
  rw [o2c]
  have p3 := p2.put (d := 28) (by omega) (.pointer (some ⟨b, o + pre.length * 3, none⟩))
  generalize a3.put (some 28) (.pointer (some ⟨b, o + pre.length * 3, none⟩)) = a4 at p3 ⊢
  have rf := run_fieldAt (P := Try.prog) (w := w) (b := b) (o := o + pre.length * 3) (j := 2) (u := .slice 135 term) tt_ok (tt_ok 58 poly (by kernel_rfl)) rfl rfl
  rw [show poff poly [.fld 2] = 2 from rfl] at rf
  refine wpOps_cons o3a o3d (upon_val (v := .pointer (some ⟨b, o + pre.length * 3 + 2, none⟩)) (w' := w) (by
    simp only [execOp, o3b, show a4.eval (.tmp 28) = .pointer (some ⟨b, o + pre.length * 3, none⟩) from p3.ev, Sem.run_bind, rf, Result.andThen_ok, Sem.run_pure]) ?_)
  rw [o3c]
  have p4 := p3.put (d := 29) (by omega) (.pointer (some ⟨b, o + pre.length * 3 + 2, none⟩))
  generalize a4.put (some 29) (.pointer (some ⟨b, o + pre.length * 3 + 2, none⟩)) = a5 at p4 ⊢
  have rl := run_loadS (P := Try.prog) (tt_ok 56 (.slice 135 term) (by kernel_rfl)) (w := w) (b := b) (o := o + pre.length * 3 + 2) r2 hcv
  refine wpOps_cons o4a o4d (upon_val (v := v) (w' := w) (by
    simp only [execOp, o4b, show a5.eval (.tmp 29) = .pointer (some ⟨b, o + pre.length * 3 + 2, none⟩) from p4.ev, Sem.run_bind, rl, Result.andThen_ok, Sem.run_pure]) ?_)
  rw [o4c]
  have p5 := p4.put (d := 30) (by omega) v
  generalize a5.put (some 30) v = a6 at p5 ⊢
  refine wpOps_cons o5a o5d (upon_val (v := .int .i64 k) (w' := w) (by simp only [execOp, o5b, show a6.eval (.tmp 1) = .int .i64 k from p5.ev.trans f1, Sem.run_pure]) ?_)
  rw [o5c]
  have p6 := p5.put (d := 31) (by omega) (.int .i64 k)
  generalize a6.put (some 31) (.int .i64 k) = a7 at p6 ⊢
  obtain ⟨fn, h1, h2, h3⟩ := k70.fn
  refine wpOps_cons f1a f1d ?_
  unfold Oper.wp
  rw [run_enter2 f1b f1e (isF_ev f1f a7) f1g h1 h2 h3]
  simp only [Oper.upon]
  have e15 : a7.eval (.tmp 30) = v := p6.ev
  have e16 : a7.eval (.tmp 31) = .int .i64 k := p6.ev
  rw [e15, e16]
  have hcvv : v.cells = #[v] := by
    rcases v2 with ⟨p, q, _⟩ | ⟨_, _, _, _, _, q, _⟩ <;> rw [q] <;> rfl
  have hone : OneV w.heap (.slice 135 term) x.2.2.1 v be := ⟨⟨v, blkv, bsv, by rw [hcvv], v2, v3⟩, fun q => (by cases q), fun _ => hcvv⟩
  have hav : ArgsV w.heap [.v (.slice 135 term), .v i64] (x.2.2.1, k, ()) [v, .int .i64 k] be :=
    ⟨_, _, be, [], rfl, by simp, hone, _, _, [], [], rfl, rfl, one_int wk, rfl, rfl⟩
  have call := k70.inp rfl (x.2.2.1, k, ()) yx hyx w _ be hav r5 (fun b hb => n1.wr b (r6 b hb))
  refine call.mono ?_
  rintro ee w2 ⟨v0', rv, bf, z1, rfl, z2, ⟨zn, zs⟩, z3, z4, z5, z6, z7, z8⟩
  simp only [List.head?_cons, Option.some.injEq] at z1
  subst z1
  obtain ⟨u1, ur, ub1, ub2, y1, y2, _, y3, y4⟩ := z2
  simp only [List.cons.injEq] at y1
  obtain ⟨y1a, y1b⟩ := y1
  subst y1a; subst y1b
  obtain ⟨u2, ur2, ub3, ub4, y5, y6, _, y7, y8⟩ := y3
  obtain ⟨y7a, y7b⟩ := y7
  subst y7a; subst y5; subst y7b; subst y8; subst y4
  have hk2 : u2 = .int .i64 yx.2.1 ∧ (Lit.int .i64 yx.2.1).wf = true ∧ ub3 = [] := by
    obtain ⟨⟨c1, c2, c3⟩, _, c4⟩ := y6
    rw [c4 rfl] at c1
    exact ⟨by simpa using c1, c2, c3⟩
  obtain ⟨hk2, wk2, hb3⟩ := hk2
  subst hk2; subst hb3
  simp only [List.append_nil] at zn zs
  show wpOps _ _ _ _ _ _
  rw [f1c]
  show wpOps _ _ _ _ (a7.put (some 32) (.int .i64 yx.2.1)) _
  have p7 := p6.put (d := 32) (by omega) (.int .i64 yx.2.1)
  generalize a7.put (some 32) (.int .i64 yx.2.1) = a8 at p7 ⊢
  refine wpOps_cons o7a o7d (upon_val (v := .int .i64 yx.2.1) (w' := w2) (by simp only [execOp, o7b, show a8.eval (.tmp 32) = .int .i64 yx.2.1 from p7.ev, Sem.run_pure]) ?_)
  rw [o7c]
  have p8 := p7.put (d := 1) (by omega) (.int .i64 yx.2.1)
  generalize a8.put (some 1) (.int .i64 yx.2.1) = a9 at p8 ⊢
  have hb2 : w2.heap[b]? = some (.cells c e' (0, 0)) := by
    rw [z7 b (Nat.lt_of_lt_of_le (n1.lt b r8) n1.size) r7]; exact r2
  have n2 : Nst w0 ba 58 poly hd (pre ++ (x.1, x.2.1, yx.1, ()) :: suf) w2 := by
    refine fin w2 (x.1, x.2.1, yx.1, ()) c ub1 hb2 rfl (fun _ _ => rfl) ?_ zn zs z3 z4 z5 z6 (fun z hz hn _ => z7 z hz hn) z8
    rw [three, c1]
    obtain ⟨⟨hd3, blk3, bs3, w1', w2', w3'⟩, _, _⟩ := y2
    rw [hcvv] at w1'
    exact rdPoly.2 ⟨v, rfl, c2, c3, hd3, blk3, bs3, w1', w2', w3'⟩
  exact hQ a9 w2 _ p8 (show _ = hd from f0) (show _ = Value.int .i64 yx.2.1 from rfl) (show _ = Value.int .i64 (pre.length : Int) from f5) wk2 n2
theorem round27 {a : Act} {w : World} {pre suf : List poly.den} {k : Int} {f : Nat → Value} {Q : Exit → Act → World → Prop} (k70 : KOne Try.prog 70 ⟨[.v (.slice 135 term), .v i64], [.slice 135 term, i64], false, false, 1, g⟩) (hN : N ≤ 100000000)
    (I : I27 w0 ba hd g N y a w pre suf k f) (hQ : ∀ a' w' f', AtV 34 f' a' → f' 0 = hd → f' 1 = .int .i64 y.2 → (Lit.int .i64 y.2).wf = true → Nst w0 ba 58 poly hd y.1 w' → (∃ i, f' 5 = .int .i64 i ∧ (Lit.int .i64 i).wf = true) → Q (.exit 0) a' w') :
    loop27.wp Try.prog (Exit.then (fun a' w' => (∃ pre suf k f, I27 w0 ba hd g N y a' w' pre suf k f) ∧ mu28 N a' < mu28 N a) Q) a w := by
  have hl := I.len
  simp only [List.length_append] at hl
  have wi : (Lit.int .i64 (pre.length : Int)).wf = true := wf_i (by omega) (by omega)
  have st := rawSt I.at_ I.f0 I.f1 I.f5 I.wk wi I.nst
  have hlen : decide (List.length (pre ++ suf) ≤ 9223372036854775807) = true := decide_eq_true (by rw [List.length_append]; omega)
  refine wp_seq (wp_seq (ev_wp (A := fun b => b ∈ ba) (ks := [0, 1, 5, 9]) mixed tt_ok KOK.nil (fun b hb => (by cases hb)) (oc27 2 (by simp) hd) trivial ((e27c (pre ++ suf) k pre.length).trans (by rw [hlen]; rfl)) st rfl fun a1 w1 g1 st1 A1 => ?_))
  have t0 : a1.tmps.getD 0 undef = hd := st1.sz.2 rfl
  have t1 : a1.tmps.getD 1 undef = .int .i64 k := (asI_inv (st1.ent 1) rfl).1
  have t5 : a1.tmps.getD 5 undef = .int .i64 pre.length := (asI_inv (st1.ent 5) rfl).1
  have t9 : a1.eval (.tmp 9) = .bool (decide ((pre.length : Int) < Int.ofNat (pre ++ suf).length)) := by
    have : EntR g1 w1.heap 9 (boolE (decide ((pre.length : Int) < Int.ofNat (pre ++ suf).length))) (a1.tmps.getD 9 undef) := st1.ent 9
    obtain ⟨bs4, hl4, _⟩ := val1 this
    obtain ⟨⟨z, _⟩, _⟩ := hl4
    injection z
  have n1 := I.nst.of_St st1
  have at1 : AtV 34 _ a1 := st1.atV
  show Code.wp _ _ _ _ _
  cases suf with
  | nil =>
    have t9 : a1.eval (.tmp 9) = .bool false := by rw [t9]; congr 1; exact decide_eq_false (by simp)
    refine wp_cond (t := false) t9 (wp_exit ?_)
    obtain ⟨z, hz, hy⟩ := I.run
    simp only [foldM27, Option.some.injEq] at hz
    subst hz
    subst hy
    rw [List.append_nil] at n1
    exact hQ a1 w1 _ at1 t0 t1 I.wk (by show Nst w0 ba 58 poly hd (pre ++ []) w1; rw [List.append_nil]; exact n1) ⟨_, t5, wi⟩
  | cons x suf =>
    have t9 : a1.eval (.tmp 9) = .bool true := by rw [t9]; congr 1; exact decide_eq_true (by simp; omega)
    refine wp_cond (t := true) t9 (wp_skip ?_)
    show Code.wp _ _ _ _ _
    obtain ⟨z, hz, hy⟩ := I.run
    simp only [foldM27] at hz
    split at hz
    · rename_i yx hyx
      split at hz
      · rename_i zr hzr
        injection hz with hz; subst hz
        have w1k : (Lit.int .i64 (wr1 k)).wf = true := wrap_wf _ _
        have w2k : (Lit.int .i64 (wr1 (wr1 k))).wf = true := wrap_wf _ _
        refine wp_seq (wp_block (wp_seq (reg27_4 at1 t0 t1 t5 I.wk n1 fun b1 u1 h1 bt1 bf0 bf1 bf5 m1 => ?_)))
        show Code.wp _ _ _ _ _
        have sa := rawSt bt1 bf0 bf1 bf5 I.wk wi m1
        refine wp_seq (ev_wp (A := fun b => b ∈ ba) (ks := [0, 1, 5]) mixed tt_ok KOK.nil (fun b hb => (by cases hb)) (oc27 5 (by simp) hd) trivial (e27f _ k pre.length) sa rfl fun b2 u2 h2 sb B2 => ?_)
        show Code.wp _ _ _ _ _
        refine wp_seq (reg27_6 (sb.atV : AtV 34 _ b2) (sb.sz.2 rfl) (asI_inv (sb.ent 1) rfl).1 (asI_inv (sb.ent 5) rfl).1 w1k (m1.of_St sb) fun b3 u3 h3 bt3 cf0 cf1 cf5 m3 => ?_)
        show Code.wp _ _ _ _ _
        have sc := rawSt bt3 cf0 cf1 cf5 w1k wi m3
        refine wp_seq (ev_wp (A := fun b => b ∈ ba) (ks := [0, 1, 5]) mixed tt_ok KOK.nil (fun b hb => (by cases hb)) (oc27 7 (by simp) hd) trivial (e27g _ (wr1 k) pre.length) sc rfl fun b4 u4 h4 sd B4 => ?_)
        show Code.wp _ _ _ _ _
        refine reg27_8 (x := setF 1 (setF 0 x k) (wr1 k)) k70 (sd.atV : AtV 34 _ b4) (sd.sz.2 rfl) (asI_inv (sd.ent 1) rfl).1 (asI_inv (sd.ent 5) rfl).1 w2k (m3.of_St sd) hyx fun a8 w2 h5 p7 df0 df1 df5 wk2 n2 => ?_
        show Code.wp _ _ _ _ _
        have st2 := rawSt p7 df0 df1 df5 wk2 wi n2
        refine ev_wp (A := fun b => b ∈ ba) (ks := [0, 1, 5]) mixed tt_ok KOK.nil (fun b hb => (by cases hb)) (oc27 3 (by simp) hd) trivial (e27d _ yx.2.1 pre.length) st2 rfl fun a9 w9 g9 st9 A9 => ?_
        have s0 : a9.tmps.getD 0 undef = hd := st9.sz.2 rfl
        have s1 : a9.tmps.getD 1 undef = .int .i64 yx.2.1 := (asI_inv (st9.ent 1) rfl).1
        have s5 : a9.tmps.getD 5 undef = .int .i64 (IntKind.i64.wrap (pre.length + 1)) := (asI_inv (st9.ent 5) rfl).1
        have hwr : IntKind.i64.wrap ((pre.length : Int) + 1) = ((pre.length + 1 : Nat) : Int) := by
          simp only [List.length_cons] at hl
          simp [IntKind.wrap, IntKind.bits, IntKind.signed]; split <;> omega
        rw [hwr] at s5
        have n9 := n2.of_St st9
        simp only [List.length_cons] at hl
        refine ⟨⟨pre ++ [(k, wr1 k, yx.1, ())], suf, yx.2.1, _, st9.atV, s0, s1, ?_, wk2, ?_, ?_, zr, hzr, ?_⟩, ?_⟩
        · show a9.tmps.getD 5 undef = _
          rw [s5]; simp
        · rw [List.append_assoc]; exact n9
        · simp; omega
        · rw [← hy]; simp
        · have : mu28 N a = N - pre.length := by
            unfold mu28
            rw [I.at_.at_, I.f5]; simp only; omega
          have m9 : mu28 N a9 = N - (pre.length + 1) := by unfold mu28; rw [s5]; simp only; omega
          rw [this, m9]; omega
      · cases hz
    · cases hz
theorem one27 {cf : G27h} (k70 : KOne Try.prog 70 ⟨[.v (.slice 135 term), .v i64], [.slice 135 term, i64], false, false, 1, g⟩)
    (h : ∀ x y, cf x = some y → (show List poly.den from x.1).length ≤ 100000000 ∧ ∃ z, foldM27 g x.1 x.2.1 = some z ∧ y = (z.1, z.2, ())) : KOne Try.prog 27 ⟨[.v polys, .v i64], [polys, i64], false, false, 1, cf⟩ := by
  refine ⟨fun q => (by cases q), fun _ => ?_, fun q => (by cases q), Try.f27, Try.func27, by decide, rfl⟩
  intro x y hxy w vs ba hv hnd hw
  obtain ⟨L, k, _⟩ := x
  obtain ⟨hN, z, hz, rfl⟩ := h _ _ hxy
  replace hN : List.length (show List poly.den from L) ≤ 100000000 := hN
  have hv0 := hv
  obtain ⟨v0, r1, b1, b2, rfl, rfl, o1, v1, r2, b3, b4, rfl, rfl, o2, rfl, rfl⟩ := hv
  have hv1 : v1 = .int .i64 k ∧ (Lit.int .i64 k).wf = true ∧ b3 = [] := by
    obtain ⟨⟨c1, c2, c3⟩, _, c4⟩ := o2
    rw [c4 rfl] at c1
    exact ⟨by simpa using c1, c2, c3⟩
  obtain ⟨rfl, wk, rfl⟩ := hv1
  simp only [List.append_nil] at hnd hw hv0 ⊢
  obtain ⟨⟨hd, blk, bs, z1, z2, z3⟩, _, z4⟩ := o1
  have hc := z4 rfl
  have eh : hd = v0 := by rw [hc] at z1; injection z1 with z1 _; exact z1.symm
  subst eh
  have lt : ∀ b ∈ b1, b < w.heap.size := fun b hb => by
    obtain ⟨c, e, q⟩ := hw b hb
    rcases Nat.lt_or_ge b w.heap.size with q' | q'
    · exact q'
    · rw [Array.getElem?_eq_none q'] at q; cases q
  have n0 : Nst w b1 58 poly hd L w := ⟨⟨blk, bs, z2, by rw [← z3]; exact hnd, by rw [← z3]; exact fun z hz => hz⟩, rfl, Tp.refl, rfl, Nat.le_refl _, fun _ _ _ => rfl, hw, lt⟩
  have st0 := init_St (n := Try.f27.ntmps) hv0 (by rw [nt27]; decide)
  refine calls_of_wp Try.func27 sk27 ?_
  have stk : St ⟨34, true, hd⟩ w (fun _ => False) (gh0 w [hd, .int .i64 k] b1) (initEnv 0 [.v polys, .v i64] (L, k, ())).get { tmps := [hd, .int .i64 k].toArray ++ Array.replicate (Try.f27.ntmps - [hd, .int .i64 k].toArray.size) undef, defers := [] } w :=
    ⟨st0.inv, st0.ent, ⟨st0.sz.1.trans nt27, fun _ => by rw [Array.getD_eq_getD_getElem?, Array.getElem?_append_left (by simp)]; rfl⟩, st0.df, st0.os, st0.tape, st0.output⟩
  refine wp_seq (ev_wp (A := fun b => b ∈ b1) (ks := [0, 1]) mixed tt_ok KOK.nil (fun b hb => (by cases hb)) (oc27 0 (by simp) hd) trivial (e27a L k) stk rfl fun a1 w1 g1 st1 A1 => ?_)
  show Code.wp _ _ _ _ _
  refine wp_seq (wp_seq (ev_wp (A := fun b => b ∈ b1) (ks := [0, 1, 5]) mixed tt_ok KOK.nil (fun b hb => (by cases hb)) (oc27 1 (by simp) hd) trivial (e27b L k) st1 A1 fun a2 w2 g2 st2 A2 => ?_))
  show Code.wp _ _ _ _ _
  have n2 := n0.of_St st2
  have at2 : AtV 34 _ a2 := st2.atV
  have t0 : a2.tmps.getD 0 undef = hd := st2.sz.2 rfl
  have t1 : a2.tmps.getD 1 undef = .int .i64 k := (asI_inv (st2.ent 1) rfl).1
  have t5 : a2.tmps.getD 5 undef = .int .i64 0 := (asI_inv (st2.ent 5) rfl).1
  refine wp_block (wp_loop (fun a' w' => ∃ pre suf k f, I27 w b1 hd g (List.length (show List poly.den from L)) z a' w' pre suf k f) (fun a' _ => mu28 (List.length (show List poly.den from L)) a') ⟨[], L, k, _, at2, t0, t1, t5, wk, n2, rfl, z, hz, rfl⟩ fun a3 w3 hI => ?_)
  obtain ⟨pre, suf, k3, f3, I⟩ := hI
  refine round27 k70 hN I fun a4 w4 f4 at4 s0 s1 wk4 n4 s5 => ?_
  obtain ⟨i, s5, wi⟩ := s5
  show Code.wp _ _ _ _ _
  have st4 := rawSt at4 s0 s1 s5 wk4 wi n4
  refine wp_seq (ev_wp (A := fun b => b ∈ b1) (ks := [0, 1, 4]) mixed tt_ok KOK.nil (fun b hb => (by cases hb)) (oc27 9 (by simp) hd) trivial (e27e z.1 z.2 i) st4 rfl fun a5 w5 g5 st5 A5 => ?_)
  show Code.wp _ _ _ _ _
  have n5 := n4.of_St st5
  have u4 : a5.tmps.getD 4 undef = .int .i64 z.2 := (asI_inv (st5.ent 4) rfl).1
  refine wp_ret ?_
  have hres : (Try.f27.results.toList.mapM (resOne a5.tmps)).run Try.prog w5 = .ok [.int .i64 z.2] w5 := by rw [rs27, ← u4]; rfl
  refine ⟨st5.df, _, results_run hres, ?_⟩
  obtain ⟨blk5, bs5, y1, y2, y3⟩ := n5.rd
  exact ⟨hd, [.int .i64 z.2], blk5.toList ++ bs5, rfl, rfl, ⟨hd, _, _, [], rfl, ⟨⟨hd, blk5, bs5, by rw [hc], y1, rfl⟩, fun q => (by cases q), fun _ => hc⟩, fun q => (by cases q), ⟨_, [], [], [], rfl, one_int wk4, fun q => (by cases q), ⟨rfl, rfl⟩, rfl⟩, by simp⟩,
    ⟨y2, y3⟩, n5.os, n5.tp, n5.out, n5.size, n5.old, n5.wr⟩
end
abbrev Po : Type := poly.den
def tms (x : Po) : List term.den := x.2.2.1
theorem copy_setG {α : Type} {l : List α} {i : Nat} {d d' : α} (h : i < l.length) : (l.take i ++ List.replicate (l.length - i) d).set i (l.getD i d') = l.take (i + 1) ++ List.replicate (l.length - (i + 1)) d := by
  apply List.ext_getElem?
  intro j
  rw [List.getElem?_set]
  have hl : (l.take i).length = i := by simp; omega
  have hl2 : (l.take (i + 1)).length = i + 1 := by simp; omega
  by_cases q : i = j
  · subst q
    rw [if_pos rfl, if_pos (by simp; omega), List.getElem?_append_left (by omega), List.getElem?_take_of_lt (by omega), List.getD_eq_getElem?_getD, List.getElem?_eq_getElem h]; rfl
  · rw [if_neg q]
    rcases Nat.lt_or_ge j i with z | z
    · rw [List.getElem?_append_left (by omega), List.getElem?_append_left (by omega), List.getElem?_take_of_lt z, List.getElem?_take_of_lt (by omega)]
    · rw [List.getElem?_append_right (by omega), List.getElem?_append_right (by omega), hl, hl2, List.getElem?_replicate, List.getElem?_replicate]
      by_cases y : j < l.length
      · rw [if_pos (by omega), if_pos (by omega)]
      · rw [if_neg (by omega), if_neg (by omega)]
def smallP (L : List Po) : Prop := L.length ≤ 2000000 ∧ ∀ x ∈ L, (tms x).length ≤ 2000000
def totT : List Po → Nat
  | [] => 0
  | x :: r => (tms x).length + totT r
open Classical in
noncomputable def cf27 : G27 := fun x => if smallP x.1 ∧ x.2.1 = (1 : Int) ∧ totT x.1 ≤ 2000000 then (match foldM27 cf70 x.1 1 with | some z => some (z.1, z.2, ()) | none => none) else none
theorem k27 : KOne Try.prog 27 ⟨[.v (.slice 58 poly), .v i64], [.slice 58 poly, i64], false, false, 1, cf27⟩ := one27 (cf := cf27) k70 fun x y h => by
  obtain ⟨L, k, _⟩ := x
  change List Po at L
  change Int at k
  simp only [cf27] at h
  split at h
  · rename_i hc
    obtain ⟨hs, hk, _⟩ := hc
    have hk : k = 1 := hk
    subst hk
    split at h
    · rename_i z hz
      injection h with h; subst h
      have hs1 : L.length ≤ 2000000 := hs.1
      exact ⟨Nat.le_trans hs1 (by omega), z, hz, rfl⟩
    · cases h
  · cases h
abbrev R71 : Type := Ress [i64]
abbrev G71 : Type := Args [.v (.slice 23 mat), .v i64] → Option R71
abbrev kp71 : List (Nat × List Nat) := [(0, [1, 0]), (1, [1]), (2, [10, 1]), (3, [4]), (4, [4])]
abbrev ct71 : CTab := []
def fn71 (F : Nat) (x : Args [.v (.slice 23 mat), .v i64]) : Option R71 :=
  match x with
  | (x0, x1, _) => (bif decide ((List.length x0) ≤ 9223372036854775807) then (bif decide ((w6 (x1 - (Int.ofNat (List.length x0)))) < (0 : Int)) then (some ((-(1 : Int)), ())) else (some ((w6 (x1 - (Int.ofNat (List.length x0)))), ()))) else none)
theorem ev71 (F : Nat) (x : Args [.v (.slice 23 mat), .v i64]) : fnK TT (ct71 ) kp71 [i64] [] (bodyOf Try.f71) [.tmp 4] [.v (.slice 23 mat), .v i64] false false x = fn71 F x := by
  obtain ⟨x0, x1, _⟩ := x
  kernel_rfl
theorem ok71 (hK : KOK Try.prog (ct71 )) (cf : G71) (h : ∀ x y, cf x = some y → ∃ F, fn71 F x = some y) : KOne Try.prog 71 ⟨[.v (.slice 23 mat), .v i64], [i64], false, false, 0, cf⟩ :=
  fn_one rfl (c := bodyOf Try.f71) mixed tt_ok hK Try.func71 (by kernel_rfl) (by kernel_rfl) (Nat.le_of_ble_eq_true (by kernel_rfl)) (by decide) fun x y hxy => by
    obtain ⟨F, hF⟩ := h x y hxy
    exact ⟨[], LTOK_by (l := []) (by kernel_rfl) trivial, (ev71 F x).trans hF⟩
abbrev R30 : Type := Ress [i64]
abbrev G30 : Type := Args [.v (.pair i64 (.pair i64 (.pair (.slice 23 mat) .unit))), .v i64] → Option R30
abbrev kp30 : List (Nat × List Nat) := [(0, [2, 1]), (1, [1]), (2, [10, 1]), (3, [4]), (4, [4])]
abbrev ct30 (g71 : G71) : CTab := [(71, ⟨[.v (.slice 23 mat), .v i64], [i64], false, false, 0, g71⟩)]
def fn30 (g71 : G71) (F : Nat) (x : Args [.v (.pair i64 (.pair i64 (.pair (.slice 23 mat) .unit))), .v i64]) : Option R30 :=
  match x with
  | (x0, x1, _) => (match (g71 (x0.2.2.1, (x1, ()))) with | some r5 => (bif decide (r5.1 < (0 : Int)) then (some ((-(1 : Int)), ())) else (some (r5.1, ()))) | none => none)
theorem ev30 (g71 : G71) (F : Nat) (x : Args [.v (.pair i64 (.pair i64 (.pair (.slice 23 mat) .unit))), .v i64]) : fnK TT (ct30 g71 ) kp30 [i64] [] (bodyOf Try.f30) [.tmp 4] [.v (.pair i64 (.pair i64 (.pair (.slice 23 mat) .unit))), .v i64] false false x = fn30 g71 F x := by
  obtain ⟨x0, x1, _⟩ := x
  kernel_rfl
theorem ok30 (g71 : G71) (hK : KOK Try.prog (ct30 g71 )) (cf : G30) (h : ∀ x y, cf x = some y → ∃ F, fn30 g71 F x = some y) : KOne Try.prog 30 ⟨[.v (.pair i64 (.pair i64 (.pair (.slice 23 mat) .unit))), .v i64], [i64], false, false, 0, cf⟩ :=
  fn_one rfl (c := bodyOf Try.f30) mixed tt_ok hK Try.func30 (by kernel_rfl) (by kernel_rfl) (Nat.le_of_ble_eq_true (by kernel_rfl)) (by decide) fun x y hxy => by
    obtain ⟨F, hF⟩ := h x y hxy
    exact ⟨[], LTOK_by (l := []) (by kernel_rfl) trivial, (ev30 g71 F x).trans hF⟩
abbrev R76 : Type := Ress [(.slice 27 mat)]
abbrev G76 : Type := Args [.v (.slice 23 mat)] → Option R76
abbrev kp76 : List (Nat × List Nat) := [(0, [0]), (1, [0, 3]), (2, [4, 0, 3]), (3, [11, 4, 0, 3]), (5, [4, 0, 3]), (4, [4, 0, 3]), (6, [2])]
abbrev ct76 (g16 : G16) : CTab := [(16, ⟨[.v mat], [mat], false, false, 0, g16⟩)]
abbrev kr76 : Env → Option R76 := endK TT [.tmp 2] [(.slice 27 mat)] true false
abbrev sh76_3 : Shape := [(0, .val false [.fz (.slice 23 mat) 0 true]), (3, vr 27 mat 49 false), (4, vv i64)]
def st76_3 (g16 : G16) (F : Nat) (s : ShVal sh76_3) (k kx : ShVal sh76_3 → Option R76) : Option R76 :=
  match s with
  | ((t0, _), (t3, _), (t4, _), _) => (bif decide ((List.length t0) ≤ 9223372036854775807) then (bif decide (t4 < (Int.ofNat (List.length t0))) then (bif ib t4 (Int.ofNat (List.length t0)) then (match (g16 ((List.getD t0 (tn t4) (Ty.dflt (.arr 3 (.arr 3 (.int .u8))))), ())) with | some r10 => (bif ib t4 (Int.ofNat (List.length t3)) then k ((t0, ()), (((List.set t3 (tn t4) r10.1), ()), (((w6 (t4 + (1 : Int))), ()), ()))) else none) | none => none) else none) else kx ((t0, ()), ((t3, ()), ((t4, ()), ())))) else none)
def ru76_3 (g16 : G16) (F : Nat) (s : ShVal sh76_3) (kx : ShVal sh76_3 → Option R76) : Option R76 := iter (fun s k => st76_3 g16 F s k kx) F s
abbrev ls76_3 (g16 : G16) (F : Nat) : LS R76 := ⟨sh76_3, 0, ru76_3 g16 F⟩
def fn76 (g16 : G16) (F : Nat) (x : Args [.v (.slice 23 mat)]) : Option R76 :=
  match x with
  | (x0, _) => (bif decide ((List.length x0) ≤ 9223372036854775807) then (bif ((decide ((0 : Int) ≤ (Int.ofNat (List.length x0))) && decide ((Int.ofNat (List.length x0)) ≤ (1099511627776 : Int))) && decide ((Int.ofNat (List.length x0)) = (Int.ofNat (List.length x0)))) then (ru76_3 g16 F ((x0, ()), (((List.replicate (tn (Int.ofNat (List.length x0))) (Ty.dflt (.arr 3 (.arr 3 (.int .u8))))), ()), (((0 : Int), ()), ()))) (fun s' => match s' with | ((t0, _), (t3, _), (t4, _), _) => (some (t3, ())))) else none) else none)
theorem ev76_3 (g16 : G16) (F : Nat) (s : ShVal sh76_3) (k kx : ShVal sh76_3 → Option R76) : evL TT (ct76 g16 ) kp76 [] (loopOf Try.f76 3) (envOf sh76_3 s) (fitK sh76_3 k) (fun j e => bif Nat.beq j 0 then fitK sh76_3 kx e else none) kr76 = st76_3 g16 F s k kx := by
  obtain ⟨⟨t0, _⟩, ⟨t3, _⟩, ⟨t4, _⟩, _⟩ := s
  kernel_rfl
theorem ok76_3 (g16 : G16) (F : Nat) (hK : KOK Try.prog (ct76 g16 )) : LSOK Try.prog ⟨23, false, undef⟩ (ls76_3 g16 F) (loopOf Try.f76 3) kr76 :=
  loop_ok (st76_3 g16 F) mixed tt_ok hK (by kernel_rfl) (LTOK_by (l := []) (by kernel_rfl) trivial) (ev76_3 g16 F)
theorem ev76 (g16 : G16) (F : Nat) (x : Args [.v (.slice 23 mat)]) : fnK TT (ct76 g16 ) kp76 [(.slice 27 mat)] [(3, ls76_3 g16 F)] (bodyOf Try.f76) [.tmp 2] [.v (.slice 23 mat)] true false x = fn76 g16 F x := by
  obtain ⟨x0, _⟩ := x
  kernel_rfl
theorem ok76 (g16 : G16) (hK : KOK Try.prog (ct76 g16 )) (cf : G76) (h : ∀ x y, cf x = some y → ∃ F, fn76 g16 F x = some y) : KOne Try.prog 76 ⟨[.v (.slice 23 mat)], [(.slice 27 mat)], true, false, 0, cf⟩ :=
  fn_one rfl (c := bodyOf Try.f76) mixed tt_ok hK Try.func76 (by kernel_rfl) (by kernel_rfl) (Nat.le_of_ble_eq_true (by kernel_rfl)) (by decide) fun x y hxy => by
    obtain ⟨F, hF⟩ := h x y hxy
    exact ⟨[(3, ls76_3 g16 F)], LTOK_by (l := [loopOf Try.f76 3]) (by kernel_rfl) ⟨ls_at (by kernel_rfl) (ok76_3 g16 F hK), trivial⟩, (ev76 g16 F x).trans hF⟩
abbrev R32 : Type := Ress [(.pair i64 (.pair i64 (.pair (.slice 27 mat) .unit)))]
abbrev G32 : Type := Args [.v (.pair i64 (.pair i64 (.pair (.slice 23 mat) .unit)))] → Option R32
abbrev kp32 : List (Nat × List Nat) := [(0, [1, 2]), (1, [1, 3, 2]), (2, [1, 3, 2]), (3, [1, 3, 2]), (4, [3, 2]), (5, [2])]
abbrev ct32 (g76 : G76) : CTab := [(76, ⟨[.v (.slice 23 mat)], [(.slice 27 mat)], true, false, 0, g76⟩)]
def fn32 (g76 : G76) (F : Nat) (x : Args [.v (.pair i64 (.pair i64 (.pair (.slice 23 mat) .unit)))]) : Option R32 :=
  match x with
  | (x0, _) => (match (g76 (x0.2.2.1, ())) with | some r7 => (some ((x0.1, (x0.2.1, (r7.1, ()))), ())) | none => none)
theorem ev32 (g76 : G76) (F : Nat) (x : Args [.v (.pair i64 (.pair i64 (.pair (.slice 23 mat) .unit)))]) : fnK TT (ct32 g76 ) kp32 [(.pair i64 (.pair i64 (.pair (.slice 27 mat) .unit)))] [] (bodyOf Try.f32) [.cell 2 51] [.v (.pair i64 (.pair i64 (.pair (.slice 23 mat) .unit)))] true false x = fn32 g76 F x := by
  obtain ⟨x0, _⟩ := x
  kernel_rfl
theorem ok32 (g76 : G76) (hK : KOK Try.prog (ct32 g76 )) (cf : G32) (h : ∀ x y, cf x = some y → ∃ F, fn32 g76 F x = some y) : KOne Try.prog 32 ⟨[.v (.pair i64 (.pair i64 (.pair (.slice 23 mat) .unit)))], [(.pair i64 (.pair i64 (.pair (.slice 27 mat) .unit)))], true, false, 0, cf⟩ :=
  fn_one rfl (c := bodyOf Try.f32) mixed tt_ok hK Try.func32 (by kernel_rfl) (by kernel_rfl) (Nat.le_of_ble_eq_true (by kernel_rfl)) (by decide) fun x y hxy => by
    obtain ⟨F, hF⟩ := h x y hxy
    exact ⟨[], LTOK_by (l := []) (by kernel_rfl) trivial, (ev32 g76 F x).trans hF⟩
abbrev R170 : Type := Ress [.bool]
abbrev G170 : Type := Args [.v ex, .v ex] → Option R170
abbrev kp170 : List (Nat × List Nat) := [(0, [3, 2]), (1, [5, 3, 2]), (2, [7, 2, 3, 5]), (4, [16, 2, 3, 5]), (5, [4]), (3, [5, 3, 2]), (6, [4])]
abbrev ct170 : CTab := []
abbrev kr170 : Env → Option R170 := endK TT [.tmp 4] [.bool] false false
abbrev sh170_2 : Shape := [(2, bb ex), (3, bb ex), (5, vv i64)]
def st170_2 (F : Nat) (s : ShVal sh170_2) (k kx : ShVal sh170_2 → Option R170) : Option R170 :=
  match s with
  | ((t2, _), (t3, _), (t5, _), _) => (bif decide (t5 < (3 : Int)) then (bif ib t5 (Int.ofNat 3) then (bif ib t5 (Int.ofNat 3) then (bif (!decide ((tget (0 : Int) 3 t2 (tn t5)) = (tget (0 : Int) 3 t3 (tn t5)))) then (some (false, ())) else k ((t2, ()), ((t3, ()), (((w6 (t5 + (1 : Int))), ()), ())))) else none) else none) else kx ((t2, ()), ((t3, ()), ((t5, ()), ()))))
def ru170_2 (F : Nat) (s : ShVal sh170_2) (kx : ShVal sh170_2 → Option R170) : Option R170 := iter (fun s k => st170_2 F s k kx) F s
abbrev ls170_2 (F : Nat) : LS R170 := ⟨sh170_2, 0, ru170_2 F⟩
def fn170 (F : Nat) (x : Args [.v ex, .v ex]) : Option R170 :=
  match x with
  | (x0, x1, _) => (ru170_2 F ((x0, ()), ((x1, ()), (((0 : Int), ()), ()))) (fun s' => match s' with | ((t2, _), (t3, _), (t5, _), _) => (some (true, ()))))
theorem ev170_2 (F : Nat) (s : ShVal sh170_2) (k kx : ShVal sh170_2 → Option R170) : evL TT (ct170 ) kp170 [] (loopOf Try.f170 2) (envOf sh170_2 s) (fitK sh170_2 k) (fun j e => bif Nat.beq j 0 then fitK sh170_2 kx e else none) kr170 = st170_2 F s k kx := by
  obtain ⟨⟨t2, _⟩, ⟨t3, _⟩, ⟨t5, _⟩, _⟩ := s
  kernel_rfl
theorem ok170_2 (F : Nat) (hK : KOK Try.prog (ct170 )) : LSOK Try.prog ⟨17, false, undef⟩ (ls170_2 F) (loopOf Try.f170 2) kr170 :=
  loop_ok (st170_2 F) mixed tt_ok hK (by kernel_rfl) (LTOK_by (l := []) (by kernel_rfl) trivial) (ev170_2 F)
theorem ev170 (F : Nat) (x : Args [.v ex, .v ex]) : fnK TT (ct170 ) kp170 [.bool] [(2, ls170_2 F)] (bodyOf Try.f170) [.tmp 4] [.v ex, .v ex] false false x = fn170 F x := by
  obtain ⟨x0, x1, _⟩ := x
  kernel_rfl
theorem ok170 (hK : KOK Try.prog (ct170 )) (cf : G170) (h : ∀ x y, cf x = some y → ∃ F, fn170 F x = some y) : KOne Try.prog 170 ⟨[.v ex, .v ex], [.bool], false, false, 0, cf⟩ :=
  fn_one rfl (c := bodyOf Try.f170) mixed tt_ok hK Try.func170 (by kernel_rfl) (by kernel_rfl) (Nat.le_of_ble_eq_true (by kernel_rfl)) (by decide) fun x y hxy => by
    obtain ⟨F, hF⟩ := h x y hxy
    exact ⟨[(2, ls170_2 F)], LTOK_by (l := [loopOf Try.f170 2]) (by kernel_rfl) ⟨ls_at (by kernel_rfl) (ok170_2 F hK), trivial⟩, (ev170 F x).trans hF⟩
abbrev R142 : Type := Ress [.bool]
abbrev G142 : Type := Args [.v mat, .v mat] → Option R142
abbrev kp142 : List (Nat × List Nat) := [(0, [3, 2]), (1, [5, 3, 2]), (2, [7, 2, 3, 5]), (4, [17, 2, 3, 5]), (5, [4]), (3, [5, 3, 2]), (6, [4])]
abbrev ct142 (g170 : G170) : CTab := [(170, ⟨[.v ex, .v ex], [.bool], false, false, 0, g170⟩)]
abbrev kr142 : Env → Option R142 := endK TT [.tmp 4] [.bool] false false
abbrev sh142_2 : Shape := [(2, bb mat), (3, bb mat), (5, vv i64)]
def st142_2 (g170 : G170) (F : Nat) (s : ShVal sh142_2) (k kx : ShVal sh142_2 → Option R142) : Option R142 :=
  match s with
  | ((t2, _), (t3, _), (t5, _), _) => (bif decide (t5 < (3 : Int)) then (bif ib t5 (Int.ofNat 3) then (bif ib t5 (Int.ofNat 3) then (match (g170 ((tget (Ty.dflt (.arr 3 (.int .u8))) 3 t2 (tn t5)), ((tget (Ty.dflt (.arr 3 (.int .u8))) 3 t3 (tn t5)), ()))) with | some r10 => (bif (!r10.1) then (some (false, ())) else k ((t2, ()), ((t3, ()), (((w6 (t5 + (1 : Int))), ()), ())))) | none => none) else none) else none) else kx ((t2, ()), ((t3, ()), ((t5, ()), ()))))
def ru142_2 (g170 : G170) (F : Nat) (s : ShVal sh142_2) (kx : ShVal sh142_2 → Option R142) : Option R142 := iter (fun s k => st142_2 g170 F s k kx) F s
abbrev ls142_2 (g170 : G170) (F : Nat) : LS R142 := ⟨sh142_2, 0, ru142_2 g170 F⟩
def fn142 (g170 : G170) (F : Nat) (x : Args [.v mat, .v mat]) : Option R142 :=
  match x with
  | (x0, x1, _) => (ru142_2 g170 F ((x0, ()), ((x1, ()), (((0 : Int), ()), ()))) (fun s' => match s' with | ((t2, _), (t3, _), (t5, _), _) => (some (true, ()))))
theorem ev142_2 (g170 : G170) (F : Nat) (s : ShVal sh142_2) (k kx : ShVal sh142_2 → Option R142) : evL TT (ct142 g170 ) kp142 [] (loopOf Try.f142 2) (envOf sh142_2 s) (fitK sh142_2 k) (fun j e => bif Nat.beq j 0 then fitK sh142_2 kx e else none) kr142 = st142_2 g170 F s k kx := by
  obtain ⟨⟨t2, _⟩, ⟨t3, _⟩, ⟨t5, _⟩, _⟩ := s
  kernel_rfl
theorem ok142_2 (g170 : G170) (F : Nat) (hK : KOK Try.prog (ct142 g170 )) : LSOK Try.prog ⟨18, false, undef⟩ (ls142_2 g170 F) (loopOf Try.f142 2) kr142 :=
  loop_ok (st142_2 g170 F) mixed tt_ok hK (by kernel_rfl) (LTOK_by (l := []) (by kernel_rfl) trivial) (ev142_2 g170 F)
theorem ev142 (g170 : G170) (F : Nat) (x : Args [.v mat, .v mat]) : fnK TT (ct142 g170 ) kp142 [.bool] [(2, ls142_2 g170 F)] (bodyOf Try.f142) [.tmp 4] [.v mat, .v mat] false false x = fn142 g170 F x := by
  obtain ⟨x0, x1, _⟩ := x
  kernel_rfl
theorem ok142 (g170 : G170) (hK : KOK Try.prog (ct142 g170 )) (cf : G142) (h : ∀ x y, cf x = some y → ∃ F, fn142 g170 F x = some y) : KOne Try.prog 142 ⟨[.v mat, .v mat], [.bool], false, false, 0, cf⟩ :=
  fn_one rfl (c := bodyOf Try.f142) mixed tt_ok hK Try.func142 (by kernel_rfl) (by kernel_rfl) (Nat.le_of_ble_eq_true (by kernel_rfl)) (by decide) fun x y hxy => by
    obtain ⟨F, hF⟩ := h x y hxy
    exact ⟨[(2, ls142_2 g170 F)], LTOK_by (l := [loopOf Try.f142 2]) (by kernel_rfl) ⟨ls_at (by kernel_rfl) (ok142_2 g170 F hK), trivial⟩, (ev142 g170 F x).trans hF⟩
abbrev R80 : Type := Ress [.bool]
abbrev G80 : Type := Args [.v (.slice 27 mat), .v (.slice 27 mat)] → Option R80
abbrev kp80 : List (Nat × List Nat) := [(0, [0, 1]), (1, [10, 0, 1]), (2, [4]), (3, [5, 1, 0]), (4, [14, 0, 1, 5]), (6, [26, 0, 1, 5]), (7, [4]), (5, [5, 1, 0]), (8, [4])]
abbrev ct80 (g142 : G142) : CTab := [(142, ⟨[.v mat, .v mat], [.bool], false, false, 0, g142⟩)]
abbrev kr80 : Env → Option R80 := endK TT [.tmp 4] [.bool] false false
abbrev sh80_4 : Shape := [(0, .val false [.fz (.slice 27 mat) 0 true]), (1, .val false [.fz (.slice 27 mat) 0 true]), (5, vv i64)]
def st80_4 (g142 : G142) (F : Nat) (s : ShVal sh80_4) (k kx : ShVal sh80_4 → Option R80) : Option R80 :=
  match s with
  | ((t0, _), (t1, _), (t5, _), _) => (bif decide ((List.length t0) ≤ 9223372036854775807) then (bif decide (t5 < (Int.ofNat (List.length t0))) then (bif ib t5 (Int.ofNat (List.length t0)) then (bif ib t5 (Int.ofNat (List.length t1)) then (match (g142 ((List.getD t0 (tn t5) (Ty.dflt (.arr 3 (.arr 3 (.int .u8))))), ((List.getD t1 (tn t5) (Ty.dflt (.arr 3 (.arr 3 (.int .u8))))), ()))) with | some r11 => (bif (!r11.1) then (some (false, ())) else k ((t0, ()), ((t1, ()), (((w6 (t5 + (1 : Int))), ()), ())))) | none => none) else none) else none) else kx ((t0, ()), ((t1, ()), ((t5, ()), ())))) else none)
def ru80_4 (g142 : G142) (F : Nat) (s : ShVal sh80_4) (kx : ShVal sh80_4 → Option R80) : Option R80 := iter (fun s k => st80_4 g142 F s k kx) F s
abbrev ls80_4 (g142 : G142) (F : Nat) : LS R80 := ⟨sh80_4, 0, ru80_4 g142 F⟩
def fn80 (g142 : G142) (F : Nat) (x : Args [.v (.slice 27 mat), .v (.slice 27 mat)]) : Option R80 :=
  match x with
  | (x0, x1, _) => (bif decide ((List.length x0) ≤ 9223372036854775807) then (bif decide ((List.length x1) ≤ 9223372036854775807) then (bif (!decide ((Int.ofNat (List.length x0)) = (Int.ofNat (List.length x1)))) then (some (false, ())) else (ru80_4 g142 F ((x0, ()), ((x1, ()), (((0 : Int), ()), ()))) (fun s' => match s' with | ((t0, _), (t1, _), (t5, _), _) => (some (true, ()))))) else none) else none)
theorem ev80_4 (g142 : G142) (F : Nat) (s : ShVal sh80_4) (k kx : ShVal sh80_4 → Option R80) : evL TT (ct80 g142 ) kp80 [] (loopOf Try.f80 4) (envOf sh80_4 s) (fitK sh80_4 k) (fun j e => bif Nat.beq j 0 then fitK sh80_4 kx e else none) kr80 = st80_4 g142 F s k kx := by
  obtain ⟨⟨t0, _⟩, ⟨t1, _⟩, ⟨t5, _⟩, _⟩ := s
  kernel_rfl
theorem ok80_4 (g142 : G142) (F : Nat) (hK : KOK Try.prog (ct80 g142 )) : LSOK Try.prog ⟨27, false, undef⟩ (ls80_4 g142 F) (loopOf Try.f80 4) kr80 :=
  loop_ok (st80_4 g142 F) mixed tt_ok hK (by kernel_rfl) (LTOK_by (l := []) (by kernel_rfl) trivial) (ev80_4 g142 F)
theorem ev80 (g142 : G142) (F : Nat) (x : Args [.v (.slice 27 mat), .v (.slice 27 mat)]) : fnK TT (ct80 g142 ) kp80 [.bool] [(4, ls80_4 g142 F)] (bodyOf Try.f80) [.tmp 4] [.v (.slice 27 mat), .v (.slice 27 mat)] false false x = fn80 g142 F x := by
  obtain ⟨x0, x1, _⟩ := x
  kernel_rfl
theorem ok80 (g142 : G142) (hK : KOK Try.prog (ct80 g142 )) (cf : G80) (h : ∀ x y, cf x = some y → ∃ F, fn80 g142 F x = some y) : KOne Try.prog 80 ⟨[.v (.slice 27 mat), .v (.slice 27 mat)], [.bool], false, false, 0, cf⟩ :=
  fn_one rfl (c := bodyOf Try.f80) mixed tt_ok hK Try.func80 (by kernel_rfl) (by kernel_rfl) (Nat.le_of_ble_eq_true (by kernel_rfl)) (by decide) fun x y hxy => by
    obtain ⟨F, hF⟩ := h x y hxy
    exact ⟨[(4, ls80_4 g142 F)], LTOK_by (l := [loopOf Try.f80 4]) (by kernel_rfl) ⟨ls_at (by kernel_rfl) (ok80_4 g142 F hK), trivial⟩, (ev80 g142 F x).trans hF⟩
abbrev R34 : Type := Ress [.bool]
abbrev G34 : Type := Args [.v (.pair i64 (.pair i64 (.pair (.slice 27 mat) .unit))), .v (.pair i64 (.pair i64 (.pair (.slice 27 mat) .unit)))] → Option R34
abbrev kp34 : List (Nat × List Nat) := [(0, [2, 3]), (1, [9, 2, 3]), (2, [4]), (3, [14, 3, 2]), (4, [4]), (5, [20]), (6, [4]), (7, [4])]
abbrev ct34 (g80 : G80) : CTab := [(80, ⟨[.v (.slice 27 mat), .v (.slice 27 mat)], [.bool], false, false, 0, g80⟩)]
def fn34 (g80 : G80) (F : Nat) (x : Args [.v (.pair i64 (.pair i64 (.pair (.slice 27 mat) .unit))), .v (.pair i64 (.pair i64 (.pair (.slice 27 mat) .unit)))]) : Option R34 :=
  match x with
  | (x0, x1, _) => (bif (!decide (x0.1 = x1.1)) then (some (false, ())) else (bif (!decide (x0.2.1 = x1.2.1)) then (some (false, ())) else (match (g80 (x0.2.2.1, (x1.2.2.1, ()))) with | some r7 => (bif (!r7.1) then (some (false, ())) else (some (true, ()))) | none => none)))
theorem ev34 (g80 : G80) (F : Nat) (x : Args [.v (.pair i64 (.pair i64 (.pair (.slice 27 mat) .unit))), .v (.pair i64 (.pair i64 (.pair (.slice 27 mat) .unit)))]) : fnK TT (ct34 g80 ) kp34 [.bool] [] (bodyOf Try.f34) [.tmp 4] [.v (.pair i64 (.pair i64 (.pair (.slice 27 mat) .unit))), .v (.pair i64 (.pair i64 (.pair (.slice 27 mat) .unit)))] false false x = fn34 g80 F x := by
  obtain ⟨x0, x1, _⟩ := x
  kernel_rfl
theorem ok34 (g80 : G80) (hK : KOK Try.prog (ct34 g80 )) (cf : G34) (h : ∀ x y, cf x = some y → ∃ F, fn34 g80 F x = some y) : KOne Try.prog 34 ⟨[.v (.pair i64 (.pair i64 (.pair (.slice 27 mat) .unit))), .v (.pair i64 (.pair i64 (.pair (.slice 27 mat) .unit)))], [.bool], false, false, 0, cf⟩ :=
  fn_one rfl (c := bodyOf Try.f34) mixed tt_ok hK Try.func34 (by kernel_rfl) (by kernel_rfl) (Nat.le_of_ble_eq_true (by kernel_rfl)) (by decide) fun x y hxy => by
    obtain ⟨F, hF⟩ := h x y hxy
    exact ⟨[], LTOK_by (l := []) (by kernel_rfl) trivial, (ev34 g80 F x).trans hF⟩
abbrev R81 : Type := Ress [(.slice 27 mat), i64]
abbrev G81 : Type := Args [.v (.slice 27 mat), .v i64] → Option R81
abbrev kp81 : List (Nat × List Nat) := [(0, [1, 0]), (1, [5, 1, 0]), (2, [9, 5, 1, 0]), (3, [5, 1, 0]), (4, [4, 0])]
abbrev ct81 : CTab := []
abbrev kr81 : Env → Option R81 := endM 27 mat [.tmp 4]
abbrev sh81_2 : Shape := [(0, vr 27 mat 1 false), (1, vv i64), (5, vv i64)]
def st81_2 (F : Nat) (s : ShVal sh81_2) (k kx : ShVal sh81_2 → Option R81) : Option R81 :=
  match s with
  | ((t0, _), (t1, _), (t5, _), _) => (bif decide ((List.length t0) ≤ 9223372036854775807) then (bif decide (t5 < (Int.ofNat (List.length t0))) then k ((t0, ()), ((t1, ()), (((w6 (t5 + (1 : Int))), ()), ()))) else kx ((t0, ()), ((t1, ()), ((t5, ()), ())))) else none)
def ru81_2 (F : Nat) (s : ShVal sh81_2) (kx : ShVal sh81_2 → Option R81) : Option R81 := iter (fun s k => st81_2 F s k kx) F s
abbrev ls81_2 (F : Nat) : LS R81 := ⟨sh81_2, 0, ru81_2 F⟩
def fn81 (F : Nat) (x : Args [.v (.slice 27 mat), .v i64]) : Option R81 :=
  match x with
  | (x0, x1, _) => (ru81_2 F ((x0, ()), ((x1, ()), (((0 : Int), ()), ()))) (fun s' => match s' with | ((t0, _), (t1, _), (t5, _), _) => (some (t0, (t1, ())))))
theorem ev81_2 (F : Nat) (s : ShVal sh81_2) (k kx : ShVal sh81_2 → Option R81) : evL TT (ct81 ) kp81 [] (loopOf Try.f81 2) (envOf sh81_2 s) (fitK sh81_2 k) (fun j e => bif Nat.beq j 0 then fitK sh81_2 kx e else none) kr81 = st81_2 F s k kx := by
  obtain ⟨⟨t0, _⟩, ⟨t1, _⟩, ⟨t5, _⟩, _⟩ := s
  kernel_rfl
theorem ok81_2 (F : Nat) (hK : KOK Try.prog (ct81 )) (v0 : Value) : LSOK Try.prog ⟨13, true, v0⟩ (ls81_2 F) (loopOf Try.f81 2) kr81 :=
  loop_ok (st81_2 F) mixed tt_ok hK (by kernel_rfl) (LTOK_by (l := []) (by kernel_rfl) trivial) (ev81_2 F)
theorem ev81 (F : Nat) (x : Args [.v (.slice 27 mat), .v i64]) : fnM TT (ct81 ) kp81 27 mat [(2, ls81_2 F)] (bodyOf Try.f81) [.tmp 4] x = fn81 F x := by
  obtain ⟨x0, x1, _⟩ := x
  kernel_rfl
theorem ok81 (hK : KOK Try.prog (ct81 )) (cf : G81) (h : ∀ x y, cf x = some y → ∃ F, fn81 F x = some y) : KOne Try.prog 81 ⟨[.v (.slice 27 mat), .v i64], [(.slice 27 mat), i64], false, false, 1, cf⟩ :=
  fnM_one rfl (c := bodyOf Try.f81) mixed tt_ok hK Try.func81 (by kernel_rfl) (by kernel_rfl) (Nat.le_of_ble_eq_true (by kernel_rfl)) (by decide) fun x y hxy => by
    obtain ⟨F, hF⟩ := h x y hxy
    exact ⟨[(2, ls81_2 F)], fun v0 => LTOK_by (l := [loopOf Try.f81 2]) (by kernel_rfl) ⟨ls_at (by kernel_rfl) (ok81_2 F hK v0), trivial⟩, (ev81 F x).trans hF⟩
abbrev R35 : Type := Ress [(.pair i64 (.pair i64 (.pair (.slice 27 mat) .unit))), i64]
abbrev G35 : Type := Args [.v (.pair i64 (.pair i64 (.pair (.slice 27 mat) .unit))), .v i64] → Option R35
abbrev kp35 : List (Nat × List Nat) := [(0, [2, 1, 0]), (1, [1, 0]), (2, [4, 0])]
abbrev ct35 (g81 : G81) : CTab := [(81, ⟨[.v (.slice 27 mat), .v i64], [(.slice 27 mat), i64], false, false, 1, g81⟩)]
def fn35 (g81 : G81) (F : Nat) (x : Args [.v (.pair i64 (.pair i64 (.pair (.slice 27 mat) .unit))), .v i64]) : Option R35 :=
  match x with
  | (x0, x1, _) => (match (g81 (x0.2.2.1, (x1, ()))) with | some r5 => (some ((x0.1, (x0.2.1, ((bif ((Nat.beq 27 27) && ((Nat.beq 3 3) && ((Nat.beq 3 3) && true))) then r5.1 else []), ()))), (r5.2.1, ()))) | none => none)
theorem ev35 (g81 : G81) (F : Nat) (x : Args [.v (.pair i64 (.pair i64 (.pair (.slice 27 mat) .unit))), .v i64]) : fnS TT (ct35 g81 ) kp35 (.pair i64 (.pair i64 (.pair (.slice 27 mat) .unit))) [] (bodyOf Try.f35) [.tmp 4] x = fn35 g81 F x := by
  obtain ⟨x0, x1, _⟩ := x
  kernel_rfl
theorem ok35 (g81 : G81) (hK : KOK Try.prog (ct35 g81 )) (cf : G35) (h : ∀ x y, cf x = some y → ∃ F, fn35 g81 F x = some y) : KOne Try.prog 35 ⟨[.v (.pair i64 (.pair i64 (.pair (.slice 27 mat) .unit))), .v i64], [(.pair i64 (.pair i64 (.pair (.slice 27 mat) .unit))), i64], false, false, 1, cf⟩ :=
  fnS_one (c := bodyOf Try.f35) mixed tt_ok hK Try.func35 (by kernel_rfl) (by kernel_rfl) (Nat.le_of_ble_eq_true (by kernel_rfl)) (by decide) fun x y hxy => by
    obtain ⟨F, hF⟩ := h x y hxy
    exact ⟨[], fun v0 => LTOK_by (l := []) (by kernel_rfl) trivial, (ev35 g81 F x).trans hF⟩
abbrev R195 : Type := Ress [i64]
abbrev G195 : Type := Args [.v (.slice 27 mat), .v mat] → Option R195
abbrev kp195 : List (Nat × List Nat) := [(0, [0, 3]), (1, [8, 0, 3, 7]), (2, [9, 7, 3, 0, 8]), (3, [7, 3, 0, 8, 5]), (4, [16, 7, 3, 0, 8, 5]), (5, [4]), (6, [8, 0, 3, 7]), (7, [4])]
abbrev ct195 : CTab := []
abbrev kr195 : Env → Option R195 := endK TT [.tmp 4] [i64] false false
abbrev sh195_2 : Shape := [(0, .val false [.fz (.slice 27 mat) 0 true]), (3, bb mat), (7, vv i64), (8, vv i64)]
def st195_2 (F : Nat) (s : ShVal sh195_2) (k kx : ShVal sh195_2 → Option R195) : Option R195 :=
  match s with
  | ((t0, _), (t3, _), (t7, _), (t8, _), _) => (bif decide (t8 < t7) then (bif ib t8 (Int.ofNat (List.length t0)) then (bif (Ty.eqd (.arr 3 (.arr 3 (.int .u8))) t3 (List.getD t0 (tn t8) (Ty.dflt (.arr 3 (.arr 3 (.int .u8)))))) then (some (t8, ())) else k ((t0, ()), ((t3, ()), ((t7, ()), (((w6 (t8 + (1 : Int))), ()), ()))))) else none) else kx ((t0, ()), ((t3, ()), ((t7, ()), ((t8, ()), ())))))
def ru195_2 (F : Nat) (s : ShVal sh195_2) (kx : ShVal sh195_2 → Option R195) : Option R195 := iter (fun s k => st195_2 F s k kx) F s
abbrev ls195_2 (F : Nat) : LS R195 := ⟨sh195_2, 0, ru195_2 F⟩
def fn195 (F : Nat) (x : Args [.v (.slice 27 mat), .v mat]) : Option R195 :=
  match x with
  | (x0, x1, _) => (bif decide ((List.length x0) ≤ 9223372036854775807) then (ru195_2 F ((x0, ()), ((x1, ()), (((Int.ofNat (List.length x0)), ()), (((0 : Int), ()), ())))) (fun s' => match s' with | ((t0, _), (t3, _), (t7, _), (t8, _), _) => (some ((-(1 : Int)), ())))) else none)
theorem ev195_2 (F : Nat) (s : ShVal sh195_2) (k kx : ShVal sh195_2 → Option R195) : evL TT (ct195 ) kp195 [] (loopOf Try.f195 2) (envOf sh195_2 s) (fitK sh195_2 k) (fun j e => bif Nat.beq j 0 then fitK sh195_2 kx e else none) kr195 = st195_2 F s k kx := by
  obtain ⟨⟨t0, _⟩, ⟨t3, _⟩, ⟨t7, _⟩, ⟨t8, _⟩, _⟩ := s
  kernel_rfl
theorem ok195_2 (F : Nat) (hK : KOK Try.prog (ct195 )) : LSOK Try.prog ⟨19, false, undef⟩ (ls195_2 F) (loopOf Try.f195 2) kr195 :=
  loop_ok (st195_2 F) mixed tt_ok hK (by kernel_rfl) (LTOK_by (l := []) (by kernel_rfl) trivial) (ev195_2 F)
theorem ev195 (F : Nat) (x : Args [.v (.slice 27 mat), .v mat]) : fnK TT (ct195 ) kp195 [i64] [(2, ls195_2 F)] (bodyOf Try.f195) [.tmp 4] [.v (.slice 27 mat), .v mat] false false x = fn195 F x := by
  obtain ⟨x0, x1, _⟩ := x
  kernel_rfl
theorem ok195 (hK : KOK Try.prog (ct195 )) (cf : G195) (h : ∀ x y, cf x = some y → ∃ F, fn195 F x = some y) : KOne Try.prog 195 ⟨[.v (.slice 27 mat), .v mat], [i64], false, false, 0, cf⟩ :=
  fn_one rfl (c := bodyOf Try.f195) mixed tt_ok hK Try.func195 (by kernel_rfl) (by kernel_rfl) (Nat.le_of_ble_eq_true (by kernel_rfl)) (by decide) fun x y hxy => by
    obtain ⟨F, hF⟩ := h x y hxy
    exact ⟨[(2, ls195_2 F)], LTOK_by (l := [loopOf Try.f195 2]) (by kernel_rfl) ⟨ls_at (by kernel_rfl) (ok195_2 F hK), trivial⟩, (ev195 F x).trans hF⟩
abbrev R180 : Type := Ress [.bool]
abbrev G180 : Type := Args [.v (.slice 27 mat), .v mat] → Option R180
abbrev kp180 : List (Nat × List Nat) := [(0, [0, 3]), (1, [4])]
abbrev ct180 (g195 : G195) : CTab := [(195, ⟨[.v (.slice 27 mat), .v mat], [i64], false, false, 0, g195⟩)]
def fn180 (g195 : G195) (F : Nat) (x : Args [.v (.slice 27 mat), .v mat]) : Option R180 :=
  match x with
  | (x0, x1, _) => (match (g195 (x0, (x1, ()))) with | some r5 => (some (decide ((0 : Int) ≤ r5.1), ())) | none => none)
theorem ev180 (g195 : G195) (F : Nat) (x : Args [.v (.slice 27 mat), .v mat]) : fnK TT (ct180 g195 ) kp180 [.bool] [] (bodyOf Try.f180) [.tmp 4] [.v (.slice 27 mat), .v mat] false false x = fn180 g195 F x := by
  obtain ⟨x0, x1, _⟩ := x
  kernel_rfl
theorem ok180 (g195 : G195) (hK : KOK Try.prog (ct180 g195 )) (cf : G180) (h : ∀ x y, cf x = some y → ∃ F, fn180 g195 F x = some y) : KOne Try.prog 180 ⟨[.v (.slice 27 mat), .v mat], [.bool], false, false, 0, cf⟩ :=
  fn_one rfl (c := bodyOf Try.f180) mixed tt_ok hK Try.func180 (by kernel_rfl) (by kernel_rfl) (Nat.le_of_ble_eq_true (by kernel_rfl)) (by decide) fun x y hxy => by
    obtain ⟨F, hF⟩ := h x y hxy
    exact ⟨[], LTOK_by (l := []) (by kernel_rfl) trivial, (ev180 g195 F x).trans hF⟩
abbrev grpT : Ty := .pair i64 (.pair i64 (.pair (.slice 27 mat) .unit))
abbrev Gr : Type := grpT.den
def els (x : Gr) : List Mat := x.2.2.1
def cf71 : G71 := fun x => if (show List Mat from x.1).length ≤ 9223372036854775807 ∧ 0 ≤ x.2.1 ∧ x.2.1 ≤ (1048576 : Int) then some (if x.2.1 - ((show List Mat from x.1).length : Int) < 0 then -1 else x.2.1 - ((show List Mat from x.1).length : Int), ()) else none
theorem k71 : KOne Try.prog 71 ⟨[.v (.slice 23 mat), .v i64], [i64], false, false, 0, cf71⟩ := ok71 .nil cf71 fun x y h => by
  obtain ⟨l, k, _⟩ := x
  change List Mat at l
  change Int at k
  simp only [cf71] at h
  split at h
  · rename_i hc
    injection h with h; subst h
    obtain ⟨h1, h2, h3⟩ := hc
    have h2 : (0 : Int) ≤ k := h2
    have h3 : k ≤ (1048576 : Int) := h3
    refine ⟨0, ?_⟩
    simp only [fn71]
    rw [dln_t h1, cond_true]
    have hw := w6_id (x := k - (l.length : Int)) (by omega) (by omega)
    simp only [ofn, hw]
    by_cases q : k - (l.length : Int) < 0
    · rw [dlt_t q, if_pos q]; rfl
    · rw [dlt_f (by omega), if_neg q]; rfl
  · cases h
def cf30 : G30 := fun x => cf71 (x.1.2.2.1, x.2.1, ())
theorem k30 : KOne Try.prog 30 ⟨[.v (.pair i64 (.pair i64 (.pair (.slice 23 mat) .unit))), .v i64], [i64], false, false, 0, cf30⟩ := ok30 _ (.cons k71 .nil) cf30 fun x y h => by
  obtain ⟨⟨p, v, l, u⟩, k, _⟩ := x
  change List Mat at l
  change Int at k
  have h' : cf71 (l, k, ()) = some y := h
  refine ⟨0, ?_⟩
  show (match cf71 (l, k, ()) with | some r5 => (bif decide (r5.1 < (0 : Int)) then (some ((-(1 : Int)), ())) else (some (r5.1, ()))) | none => none) = _
  rw [h']
  simp only [cf71] at h'
  split at h'
  · injection h' with h'; subst h'
    by_cases q : k - (l.length : Int) < 0
    · rw [if_pos q]; rfl
    · rw [if_neg q]
      show (bif decide (k - (l.length : Int) < 0) then _ else _) = _
      rw [dlt_f (by omega)]; rfl
  · cases h'
def sz30 (g : Gr) : Int := if (1048576 : Int) - ((els g).length : Int) < 0 then -1 else (1048576 : Int) - ((els g).length : Int)
theorem g30_ok {g : Gr} (h : (els g).length ≤ 9223372036854775807) : cf30 (g, (1048576 : Int), ()) = some (sz30 g, ()) := if_pos ⟨h, by show (0 : Int) ≤ 1048576; omega, by show (1048576 : Int) ≤ 1048576; omega⟩
theorem sz30_small {g : Gr} (h : 0 ≤ sz30 g) : (els g).length ≤ 1048576 := by
  unfold sz30 at h
  split at h <;> omega
def cf76 : G76 := fun x => if (show List Mat from x.1).length ≤ 2000000 then some (x.1, ()) else none
theorem k76 : KOne Try.prog 76 ⟨[.v (.slice 23 mat)], [.slice 27 mat], true, false, 0, cf76⟩ := ok76 _ (.cons k16 .nil) cf76 fun x y h => by
  obtain ⟨l, _⟩ := x
  change List Mat at l
  simp only [cf76] at h
  split at h
  · rename_i hc
    injection h with h; subst h
    refine ⟨l.length + 1, ?_⟩
    simp only [fn76]
    rw [dln_t (by omega)]
    simp only [cond_true, ofn]
    rw [dle_t (by omega), dle_t (by omega)]
    simp only [decide_true, Bool.and_self, cond_true, tn_cast, ru76_3]
    refine iter_run (step := fun s k => st76_3 cf16 (l.length + 1) s k (fun s' => match s' with | ((t0, _), (t3, _), (t4, _), _) => (some (t3, ())))) (r := some (l, ())) l.length (l.length + 1) (fun i => ((l, ()), ((l.take i ++ List.replicate (l.length - i) (Ty.dflt mat), ()), ((i : Int), ()), ()))) (by omega) (fun i hi k => ?_) (fun k => ?_)
    · have h1 : (l.take i ++ List.replicate (l.length - i) (Ty.dflt mat)).length = l.length := by simp; omega
      have h2 := fun d' => copy_setG (d := Ty.dflt mat) (d' := d') hi
      generalize hL : l.take i ++ List.replicate (l.length - i) (Ty.dflt mat) = L at *
      simp (disch := omega) only [st76_3, dln_t, cond_true, ofn, dlt_t, ib_t, tn_cast, w6_id, cf16, h2]
      rfl
    · have h1 : l.take l.length ++ List.replicate (l.length - l.length) (Ty.dflt mat) = l := by simp
      rw [h1]
      simp (disch := omega) only [st76_3, dln_t, cond_true, ofn, dlt_f, cond_false]
  · cases h
def cf32 : G32 := fun x => if (show List Mat from x.1.2.2.1).length ≤ 2000000 then some (x.1, ()) else none
theorem k32 : KOne Try.prog 32 ⟨[.v (.pair i64 (.pair i64 (.pair (.slice 23 mat) .unit)))], [.pair i64 (.pair i64 (.pair (.slice 27 mat) .unit))], true, false, 0, cf32⟩ := ok32 _ (.cons k76 .nil) cf32 fun x y h => by
  obtain ⟨⟨p, v, l, u⟩, _⟩ := x
  simp only [cf32] at h
  split at h
  · rename_i hc
    injection h with h; subst h
    refine ⟨0, ?_⟩
    have g : cf76 (l, ()) = some (l, ()) := if_pos hc
    simp only [fn32, g]
  · cases h
theorem g32_ok {g : Gr} (h : (els g).length ≤ 2000000) : cf32 (g, ()) = some (g, ()) := if_pos h
def cf170 : G170 := fun x => if x.1 = x.2.1 then some (true, ()) else none
theorem k170 : KOne Try.prog 170 ⟨[.v ex, .v ex], [.bool], false, false, 0, cf170⟩ := ok170 .nil cf170 fun x y h => by
  obtain ⟨a, b, _⟩ := x
  simp only [cf170] at h
  split at h
  · rename_i hc
    injection h with h; subst h
    replace hc : a = b := hc
    subst hc
    obtain ⟨a0, a1, a2, _⟩ := a
    refine ⟨4, ?_⟩
    have e : ∀ x : Int, (!decide (x = x)) = false := fun x => by simp
    show (bif !decide (a0 = a0) then _ else bif !decide (a1 = a1) then _ else bif !decide (a2 = a2) then _ else _) = _
    rw [e, e, e]; rfl
  · cases h
instance decM : DecidableEq mat.den := inferInstanceAs (DecidableEq (ex.den × ex.den × ex.den × Unit))
def cf142 : G142 := fun x => if (show Mat from x.1) = x.2.1 then some (true, ()) else none
theorem k142 : KOne Try.prog 142 ⟨[.v mat, .v mat], [.bool], false, false, 0, cf142⟩ := ok142 _ (.cons k170 .nil) cf142 fun x y h => by
  obtain ⟨a, b, _⟩ := x
  simp only [cf142] at h
  split at h
  · rename_i hc
    injection h with h; subst h
    replace hc : a = b := hc
    subst hc
    obtain ⟨a0, a1, a2, _⟩ := a
    refine ⟨4, ?_⟩
    have e : ∀ x : ex.den, cf170 (x, x, ()) = some (true, ()) := fun x => if_pos rfl
    show (match cf170 (a0, a0, ()) with | some r10 => (bif !r10.1 then some (false, ()) else (match cf170 (a1, a1, ()) with | some r10 => (bif !r10.1 then some (false, ()) else (match cf170 (a2, a2, ()) with | some r10 => (bif !r10.1 then some (false, ()) else some (true, ())) | none => none)) | none => none)) | none => none) = _
    rw [e, e, e]; rfl
  · cases h
theorem run80 {L : List Mat} (hs : L.length ≤ 2000000) {F0 : Nat} : ∀ (r pre : List Mat) (F : Nat), r.length < F → pre ++ r = L →
    iter (fun s k => st80_4 cf142 F0 s k (fun s' => match s' with | ((t0, _), (t1, _), (t5, _), _) => (some (true, ())))) F ((L, ()), ((L, ()), (((pre.length : Int), ()), ()))) = some (true, ())
  | [], pre, F, hF, e => by
    obtain ⟨F, rfl⟩ : ∃ f, F = f + 1 := ⟨F - 1, by simp at hF; omega⟩
    rw [List.append_nil] at e; subst e
    simp only [iter, st80_4]
    simp (disch := omega) only [dln_t, cond_true, ofn, dlt_f, cond_false]
  | x :: r, pre, F, hF, e => by
    obtain ⟨F, rfl⟩ : ∃ f, F = f + 1 := ⟨F - 1, by simp at hF; omega⟩
    have l1 : pre.length < L.length := by rw [← e]; simp
    have g1 : ∀ dd, L.getD pre.length dd = x := fun dd => by rw [← e, List.getD_eq_getElem?_getD, List.getElem?_append_right (Nat.le_refl _)]; simp
    have g : cf142 (x, x, ()) = some (true, ()) := if_pos rfl
    simp only [iter, st80_4]
    simp (disch := omega) only [dln_t, cond_true, ofn, dlt_t, ib_t, tn_cast, w6_id, g1]
    show (match cf142 (x, x, ()) with | some r11 => _ | none => none) = _
    rw [g]
    have ih := run80 hs (F0 := F0) r (pre ++ [x]) F (by simp at hF; omega) (by simpa using e)
    simp only [List.length_append, List.length_singleton] at ih
    exact ih
def cf80 : G80 := fun x => if (show List Mat from x.1) = x.2.1 ∧ (show List Mat from x.1).length ≤ 2000000 then some (true, ()) else none
theorem k80 : KOne Try.prog 80 ⟨[.v (.slice 27 mat), .v (.slice 27 mat)], [.bool], false, false, 0, cf80⟩ := ok80 _ (.cons k142 .nil) cf80 fun x y h => by
  obtain ⟨L, M, _⟩ := x
  change List Mat at L
  change List Mat at M
  simp only [cf80] at h
  split at h
  · rename_i hc
    injection h with h; subst h
    obtain ⟨c0, hL⟩ := hc
    have c0 : L = M := c0
    subst c0
    have hL : L.length ≤ 2000000 := hL
    refine ⟨L.length + 1, ?_⟩
    simp (disch := omega) only [fn80, dln_t, cond_true, ofn, ru80_4]
    simp only [decide_true, Bool.not_true, cond_false]
    exact run80 hL L [] (L.length + 1) (by omega) rfl
  · cases h
def cf34 : G34 := fun x => if (show Gr from x.1) = x.2.1 ∧ (els x.1).length ≤ 2000000 then some (true, ()) else none
where decG : DecidableEq Gr := inferInstanceAs (DecidableEq (Int × Int × List Mat × Unit))
theorem k34 : KOne Try.prog 34 ⟨[.v grpT, .v grpT], [.bool], false, false, 0, cf34⟩ := ok34 _ (.cons k80 .nil) cf34 fun x y h => by
  obtain ⟨⟨p, n, l, u⟩, b, _⟩ := x
  change List Mat at l
  simp only [cf34] at h
  split at h
  · rename_i hc
    injection h with h; subst h
    obtain ⟨c0, hL⟩ := hc
    have c0 : (p, n, l, u) = b := c0
    subst c0
    have g : cf80 (l, l, ()) = some (true, ()) := if_pos ⟨rfl, hL⟩
    refine ⟨0, ?_⟩
    simp only [fn34, decide_true, Bool.not_true, cond_false, g]
  · cases h
theorem g34_ok {g : Gr} (h : (els g).length ≤ 2000000) : cf34 (g, g, ()) = some (true, ()) := if_pos ⟨rfl, h⟩
def cf81 : G81 := fun x => if (show List Mat from x.1).length ≤ 2000000 then some (x.1, x.2.1, ()) else none
theorem k81 : KOne Try.prog 81 ⟨[.v (.slice 27 mat), .v i64], [.slice 27 mat, i64], false, false, 1, cf81⟩ := ok81 .nil cf81 fun x y h => by
  obtain ⟨l, k, _⟩ := x
  change List Mat at l
  simp only [cf81] at h
  split at h
  · rename_i hc
    injection h with h; subst h
    refine ⟨l.length + 1, ?_⟩
    simp only [fn81, ru81_2]
    refine iter_run (step := fun s k => st81_2 (l.length + 1) s k (fun s' => match s' with | ((t0, _), (t1, _), (t5, _), _) => (some (t0, (t1, ()))))) (r := some (l, k, ())) l.length (l.length + 1) (fun i => ((l, ()), ((k, ()), (((i : Int), ()), ())))) (by omega) (fun i hi kk => ?_) (fun kk => ?_)
    · simp (disch := omega) only [st81_2, dln_t, cond_true, ofn, dlt_t, w6_id]
      rfl
    · simp (disch := omega) only [st81_2, dln_t, cond_true, ofn, dlt_f, cond_false]
  · cases h
def cf35 : G35 := fun x => if (els x.1).length ≤ 2000000 then some (x.1, x.2.1, ()) else none
theorem k35 : KOne Try.prog 35 ⟨[.v grpT, .v i64], [grpT, i64], false, false, 1, cf35⟩ := ok35 _ (.cons k81 .nil) cf35 fun x y h => by
  obtain ⟨⟨p, n, l, u⟩, k, _⟩ := x
  change List Mat at l
  simp only [cf35] at h
  split at h
  · rename_i hc
    injection h with h; subst h
    have g : cf81 (l, k, ()) = some (l, k, ()) := if_pos hc
    refine ⟨0, ?_⟩
    simp only [fn35, g]
    rfl
  · cases h
theorem g35_ok {g : Gr} {k : Int} (h : (els g).length ≤ 2000000) : cf35 (g, k, ()) = some (g, k, ()) := if_pos h
theorem eqdM {a b : Mat} : Ty.eqd mat a b = true ↔ a = b := by
  obtain ⟨a0, a1, a2, _⟩ := a
  obtain ⟨b0, b1, b2, _⟩ := b
  have e : Ty.eqd mat (a0, a1, a2, ()) (b0, b1, b2, ()) = (Ty.eqd ex a0 b0 && (Ty.eqd ex a1 b1 && (Ty.eqd ex a2 b2 && true))) := rfl
  show Ty.eqd mat (a0, a1, a2, ()) (b0, b1, b2, ()) = true ↔ _
  rw [e]
  simp only [Bool.and_eq_true, Bool.and_true, eqd_key keyT_ex]
  constructor
  · rintro ⟨rfl, rfl, rfl⟩; rfl
  · intro h
    injection h with h1 h; injection h with h2 h; injection h with h3 h
    exact ⟨h1, h2, h3⟩
def fstM (m : Mat) : List Mat → Nat
  | [] => 0
  | x :: r => if m = x then 0 else fstM m r + 1
theorem run195 {m : Mat} {F0 N : Nat} : ∀ (r pre : List Mat) (F : Nat), r.length < F → (pre ++ r).length = N → N ≤ 2000000 →
    iter (fun s k => st195_2 F0 s k (fun s' => match s' with | ((t0, _), (t3, _), (t7, _), (t8, _), _) => (some ((-(1 : Int)), ())))) F ((pre ++ r, ()), ((m, ()), (((N : Int), ()), (((pre.length : Int), ()), ())))) = some (if m ∈ r then ((pre.length : Int) + (fstM m r : Int)) else -1, ())
  | [], pre, F, hF, hl, hN => by
    obtain ⟨F, rfl⟩ : ∃ f, F = f + 1 := ⟨F - 1, by simp at hF; omega⟩
    rw [List.append_nil] at hl ⊢
    simp only [iter, st195_2]
    simp (disch := omega) only [ofn, dlt_f, cond_false]
    simp
  | x :: r, pre, F, hF, hl, hN => by
    obtain ⟨F, rfl⟩ : ∃ f, F = f + 1 := ⟨F - 1, by simp at hF; omega⟩
    have l1 : pre.length < N := by rw [← hl]; simp
    have g1 : ∀ dd, (pre ++ x :: r).getD pre.length dd = x := fun dd => by rw [List.getD_eq_getElem?_getD, List.getElem?_append_right (Nat.le_refl _)]; simp
    have ih := run195 (m := m) (F0 := F0) (N := N) r (pre ++ [x]) F (by simp at hF; omega) (by simpa using hl) hN
    simp only [List.append_assoc, List.singleton_append, List.length_append, List.length_singleton] at ih
    simp only [iter, st195_2]
    simp (disch := omega) only [ofn, cond_true, dlt_t, ib_t, tn_cast, hl, g1, w6_id]
    by_cases q : m = x
    · have e : Ty.eqd mat m x = true := eqdM.2 q
      show (bif Ty.eqd mat m x then _ else _) = _
      rw [e, cond_true, if_pos (by rw [q]; exact .head _)]
      simp [fstM, q]
    · have e : Ty.eqd mat m x = false := by
        cases h : Ty.eqd mat m x with
        | false => rfl
        | true => exact absurd (eqdM.1 h) q
      show (bif Ty.eqd mat m x then _ else _) = _
      rw [e, cond_false]
      refine ih.trans ?_
      have hm : (m ∈ x :: r) ↔ m ∈ r := by simp [q]
      by_cases z : m ∈ r
      · rw [if_pos z, if_pos (hm.2 z)]
        simp only [fstM, if_neg q]
        congr 2; omega
      · rw [if_neg z, if_neg (fun h => z (hm.1 h))]
def cf195 : G195 := fun x => if (show List Mat from x.1).length ≤ 2000000 then some (if (show Mat from x.2.1) ∈ (show List Mat from x.1) then (fstM x.2.1 x.1 : Int) else -1, ()) else none
theorem k195 : KOne Try.prog 195 ⟨[.v (.slice 27 mat), .v mat], [i64], false, false, 0, cf195⟩ := ok195 .nil cf195 fun x y h => by
  obtain ⟨L, m, _⟩ := x
  change List Mat at L
  change Mat at m
  simp only [cf195] at h
  split at h
  · rename_i hc
    injection h with h; subst h
    have hc : L.length ≤ 2000000 := hc
    refine ⟨L.length + 1, ?_⟩
    simp only [fn195]
    rw [dln_t (by omega)]
    simp only [cond_true, ofn, ru195_2]
    refine (run195 (m := m) (N := L.length) L [] (L.length + 1) (by omega) rfl hc).trans ?_
    congr 2
    by_cases z : m ∈ L
    · rw [if_pos z, if_pos z]; simp
    · rw [if_neg z, if_neg z]
  · cases h
def cf180 : G180 := fun x => if (show List Mat from x.1).length ≤ 2000000 then some (decide ((show Mat from x.2.1) ∈ (show List Mat from x.1)), ()) else none
theorem k180 : KOne Try.prog 180 ⟨[.v (.slice 27 mat), .v mat], [.bool], false, false, 0, cf180⟩ := ok180 _ (.cons k195 .nil) cf180 fun x y h => by
  obtain ⟨L, m, _⟩ := x
  change List Mat at L
  change Mat at m
  simp only [cf180] at h
  split at h
  · rename_i hc
    injection h with h; subst h
    have g : cf195 (L, m, ()) = some (if m ∈ L then (fstM m L : Int) else -1, ()) := if_pos hc
    refine ⟨0, ?_⟩
    simp only [fn180]
    rw [g]
    by_cases z : m ∈ L
    · rw [if_pos z, decide_eq_true z]
      show some (decide (0 ≤ (fstM m L : Int)), ()) = _
      rw [dle_t (by omega)]
    · rw [if_neg z, decide_eq_false z]; rfl
  · cases h
abbrev R79 : Type := Ress [i64]
abbrev G79 : Type := Args [.v i64, .v i64] → Option R79
abbrev kp79 : List (Nat × List Nat) := [(0, [1, 0]), (1, [5, 1, 0]), (2, [8, 0, 1, 5]), (4, [16, 0, 1, 5]), (5, [4]), (3, [5, 1, 0]), (6, [4])]
abbrev ct79 : CTab := []
abbrev kr79 : Env → Option R79 := endK TT [.tmp 4] [i64] false false
abbrev sh79_2 : Shape := [(0, vv i64), (1, vv i64), (5, vv i64)]
def st79_2 (F : Nat) (s : ShVal sh79_2) (k kx : ShVal sh79_2 → Option R79) : Option R79 :=
  match s with
  | ((t0, _), (t1, _), (t5, _), _) => (bif decide (t5 < t1) then (bif (!decide (t1 = (0 : Int))) then (bif decide ((Int.tmod (w6 (t0 * t5)) t1) = (1 : Int)) then (some (t5, ())) else k ((t0, ()), ((t1, ()), (((w6 (t5 + (1 : Int))), ()), ())))) else none) else kx ((t0, ()), ((t1, ()), ((t5, ()), ()))))
def ru79_2 (F : Nat) (s : ShVal sh79_2) (kx : ShVal sh79_2 → Option R79) : Option R79 := iter (fun s k => st79_2 F s k kx) F s
abbrev ls79_2 (F : Nat) : LS R79 := ⟨sh79_2, 0, ru79_2 F⟩
def fn79 (F : Nat) (x : Args [.v i64, .v i64]) : Option R79 :=
  match x with
  | (x0, x1, _) => (ru79_2 F ((x0, ()), ((x1, ()), (((1 : Int), ()), ()))) (fun s' => match s' with | ((t0, _), (t1, _), (t5, _), _) => (some ((0 : Int), ()))))
theorem ev79_2 (F : Nat) (s : ShVal sh79_2) (k kx : ShVal sh79_2 → Option R79) : evL TT (ct79 ) kp79 [] (loopOf Try.f79 2) (envOf sh79_2 s) (fitK sh79_2 k) (fun j e => bif Nat.beq j 0 then fitK sh79_2 kx e else none) kr79 = st79_2 F s k kx := by
  obtain ⟨⟨t0, _⟩, ⟨t1, _⟩, ⟨t5, _⟩, _⟩ := s
  kernel_rfl
theorem ok79_2 (F : Nat) (hK : KOK Try.prog (ct79 )) : LSOK Try.prog ⟨18, false, undef⟩ (ls79_2 F) (loopOf Try.f79 2) kr79 :=
  loop_ok (st79_2 F) mixed tt_ok hK (by kernel_rfl) (LTOK_by (l := []) (by kernel_rfl) trivial) (ev79_2 F)
theorem ev79 (F : Nat) (x : Args [.v i64, .v i64]) : fnK TT (ct79 ) kp79 [i64] [(2, ls79_2 F)] (bodyOf Try.f79) [.tmp 4] [.v i64, .v i64] false false x = fn79 F x := by
  obtain ⟨x0, x1, _⟩ := x
  kernel_rfl
theorem ok79 (hK : KOK Try.prog (ct79 )) (cf : G79) (h : ∀ x y, cf x = some y → ∃ F, fn79 F x = some y) : KOne Try.prog 79 ⟨[.v i64, .v i64], [i64], false, false, 0, cf⟩ :=
  fn_one rfl (c := bodyOf Try.f79) mixed tt_ok hK Try.func79 (by kernel_rfl) (by kernel_rfl) (Nat.le_of_ble_eq_true (by kernel_rfl)) (by decide) fun x y hxy => by
    obtain ⟨F, hF⟩ := h x y hxy
    exact ⟨[(2, ls79_2 F)], LTOK_by (l := [loopOf Try.f79 2]) (by kernel_rfl) ⟨ls_at (by kernel_rfl) (ok79_2 F hK), trivial⟩, (ev79 F x).trans hF⟩
theorem run79 {p x : Int} (hp : 2 ≤ p ∧ p ≤ 13) (hx : 0 ≤ x ∧ x < p) {F0 : Nat} : ∀ (f F : Nat) (k : Int), 1 ≤ k → p - k < f → f < F →
    iter (fun s k => st79_2 F0 s k (fun s' => match s' with | ((t0, _), (t1, _), (t5, _), _) => (some ((0 : Int), ())))) F ((x, ()), ((p, ()), ((k, ()), ()))) = some (invA p (x % p) f k, ())
  | 0, F, k, h1, h2, h3 => by
    obtain ⟨F, rfl⟩ : ∃ f, F = f + 1 := ⟨F - 1, by omega⟩
    simp (disch := omega) only [iter, st79_2, dlt_f, cond_false, invA]
  | f + 1, F, k, h1, h2, h3 => by
    obtain ⟨F, rfl⟩ : ∃ f, F = f + 1 := ⟨F - 1, by omega⟩
    have r : x % p = x := Int.emod_eq_of_lt hx.1 hx.2
    by_cases q : k < p
    · have s := sq_rng (p := p) (by omega) hx.1 hx.2 (show 0 ≤ k by omega) q
      have e : Int.tmod (w6 (x * k)) p = k * (x % p) % p := by rw [w6_id (by omega) (by omega), Int.tmod_eq_emod_of_nonneg s.1, r, Int.mul_comm]
      have ih := fun k h1 h2 => run79 hp hx (F0 := F0) f F k h1 h2 (by omega)
      simp only [iter]
      generalize iter _ F = G at ih ⊢
      simp (disch := omega) only [st79_2, dlt_t, cond_true, deq_f, Bool.not_false, e]
      by_cases z : k * (x % p) % p = 1
      · rw [decide_eq_true z]; simp only [cond_true, invA, if_pos q, if_pos z]
      · rw [decide_eq_false z]
        simp (disch := omega) only [cond_false, w6_id]
        rw [ih (k + 1) (by omega) (by omega)]
        simp only [invA, if_pos q, if_neg z]
    · simp (disch := omega) only [iter, st79_2, dlt_f, cond_false, invA, if_neg q]
def c79 (x p : Int) : Option (Int × Unit) := if (2 ≤ p ∧ p ≤ 13) ∧ (0 ≤ x ∧ x < p) then some (inv p x, ()) else none
def cf79 : G79 := fun x => c79 x.1 x.2.1
theorem k79 : KOne Try.prog 79 ⟨[.v i64, .v i64], [i64], false, false, 0, cf79⟩ := ok79 .nil cf79 fun x y h => by
  obtain ⟨a, p, _⟩ := x
  simp only [cf79, c79] at h
  split at h
  · rename_i hc
    injection h with h; subst h
    exact ⟨20, run79 hc.1 hc.2 13 20 1 (by omega) (by omega) (by omega)⟩
  · cases h
theorem g79_ok {x p : Int} (hp : 2 ≤ p ∧ p ≤ 13) (hx : 0 ≤ x ∧ x < p) : cf79 (x, p, ()) = some (inv p x, ()) := if_pos ⟨hp, hx⟩
noncomputable def cf129 : Args [.v i64, .v i64, .v mat] → Option R129 := fn129 cf108 cf153 8
theorem k129 : KOne Try.prog 129 ⟨[.v i64, .v i64, .v mat], [mat, .bool], false, false, 0, cf129⟩ := ok129 _ _ (.cons k108 (.cons k153 .nil)) cf129 fun x y h => ⟨8, h⟩
def rowsL (n : Int) (g : Mat) : List (List Int) :=
  if n = 1 then [[me g 0 0, 1]] else if n = 2 then [[me g 0 0, me g 0 1, 1, 0], [me g 1 0, me g 1 1, 0, 1]]
  else [[me g 0 0, me g 0 1, me g 0 2, 1, 0, 0], [me g 1 0, me g 1 1, me g 1 2, 0, 1, 0], [me g 2 0, me g 2 1, me g 2 2, 0, 0, 1]]
theorem w6_me {g : Mat} (hg : okM g = true) (i j : Nat) : w6 (tget (0 : Int) 3 (tget (Ty.dflt (.arr 3 (.int .u8))) 3 g i) j) = me g i j := by
  have := me_rng hg i j
  rw [show tget (0 : Int) 3 (tget (Ty.dflt (.arr 3 (.int .u8))) 3 g i) j = me g i j from rfl]
  exact w6_id (by omega) (by omega)
theorem build129 {p n : Int} {g M : Mat} (hg : okM g = true) (hn : n = 1 ∨ n = 2 ∨ n = 3) {g108 : Args [.v i64, .v (.slice 24 (.slice 2 i64))] → Option (Ress [.slice 24 (.slice 2 i64)])} {g153 : Args [.v (.slice 2 i64)] → Option (Ress [i64])} {kx : ShVal sh129_3 → Option R129} :
    iter (fun s k => st129_3 g108 g153 8 s k kx) 8 ((p, ()), ((n, ()), ((g, ()), ((M, ()), (([], ()), (((0 : Int), ()), ())))))) = kx ((p, ()), ((n, ()), ((g, ()), ((M, ()), ((rowsL n g, ()), ((n, ()), ())))))) := by
  have W : ∀ i j, w6 (me g i j) = me g i j := w6_me hg
  rcases hn with rfl | rfl | rfl
  · have e : iter (fun s k => st129_3 g108 g153 8 s k kx) 8 ((p, ()), (((1 : Int), ()), ((g, ()), ((M, ()), (([], ()), (((0 : Int), ()), ())))))) = kx ((p, ()), (((1 : Int), ()), ((g, ()), ((M, ()), (([[w6 (me g 0 0), 1]], ()), (((1 : Int), ()), ())))))) := by kernel_rfl
    rw [e]; simp only [W]; rfl
  · have e : iter (fun s k => st129_3 g108 g153 8 s k kx) 8 ((p, ()), (((2 : Int), ()), ((g, ()), ((M, ()), (([], ()), (((0 : Int), ()), ())))))) = kx ((p, ()), (((2 : Int), ()), ((g, ()), ((M, ()), (([[w6 (me g 0 0), w6 (me g 0 1), 1, 0], [w6 (me g 1 0), w6 (me g 1 1), 0, 1]], ()), (((2 : Int), ()), ())))))) := by kernel_rfl
    rw [e]; simp only [W]; rfl
  · have e : iter (fun s k => st129_3 g108 g153 8 s k kx) 8 ((p, ()), (((3 : Int), ()), ((g, ()), ((M, ()), (([], ()), (((0 : Int), ()), ())))))) = kx ((p, ()), (((3 : Int), ()), ((g, ()), ((M, ()), (([[w6 (me g 0 0), w6 (me g 0 1), w6 (me g 0 2), 1, 0, 0], [w6 (me g 1 0), w6 (me g 1 1), w6 (me g 1 2), 0, 1, 0], [w6 (me g 2 0), w6 (me g 2 1), w6 (me g 2 2), 0, 0, 1]], ()), (((3 : Int), ()), ())))))) := by kernel_rfl
    rw [e]; simp only [W]; rfl
theorem can_of {p : Int} {m : Nat} {r : List Int} (hp : 0 < p) (hl : r.length = m) (h : ∀ x ∈ r, 0 ≤ x ∧ x < p) : Can p m r := by
  refine ⟨hl, fun i => ?_⟩
  rcases Nat.lt_or_ge i r.length with q | q
  · rw [el_get q]; exact h _ (List.getElem_mem q)
  · rw [el_ge q]; omega
theorem cell_lt {p n i j v : Int} (h : cellB p n i j v = true) : v < p := by
  simp only [cellB, Bool.and_eq_true, decide_eq_true_eq] at h; exact h.1
theorem rng_lt {p n : Int} {g : Mat} (h : rngB p n g = true) : (me g 0 0 < p ∧ me g 0 1 < p ∧ me g 0 2 < p) ∧ (me g 1 0 < p ∧ me g 1 1 < p ∧ me g 1 2 < p) ∧ me g 2 0 < p ∧ me g 2 1 < p ∧ me g 2 2 < p := by
  simp only [rngB, rowB, Bool.and_eq_true] at h
  obtain ⟨⟨a, b, c⟩, ⟨d, e, f⟩, x, y, z⟩ := h
  exact ⟨⟨cell_lt a, cell_lt b, cell_lt c⟩, ⟨cell_lt d, cell_lt e, cell_lt f⟩, cell_lt x, cell_lt y, cell_lt z⟩
theorem rows_ok {p n : Int} {g : Mat} (hg : okM g = true) (hP : isP p = true) (hn : n = 1 ∨ n = 2 ∨ n = 3) (hr : rngB p n g = true) :
    (rowsL n g).length = tn n ∧ (∀ r ∈ rowsL n g, Can p (tn n + tn n) r) ∧ (∀ (i : Nat) (hi : i < (rowsL n g).length), ∀ l, l < tn n → el (rowsL n g)[i] (tn n + l) = if i = l then 1 else 0) ∧
      (∀ (i : Nat) (hi : i < (rowsL n g).length), ∀ j, j < tn n → el (rowsL n g)[i] j = me g i j) := by
  have hp := isP_pos hP
  have r := me_rng hg
  have l := rng_lt hr
  have z := fun i j => (r i j).1
  rcases hn with rfl | rfl | rfl
  · rw [show tn 1 = 1 from rfl]
    refine ⟨rfl, fun x hx => ?_, fun i hi l hl => ?_, fun i hi j hj => ?_⟩
    · simp only [rowsL, if_true, List.mem_singleton] at hx
      subst hx
      refine can_of (by omega) rfl fun y hy => ?_
      simp only [List.mem_cons, List.not_mem_nil, or_false] at hy
      rcases hy with rfl | rfl
      · exact ⟨z 0 0, l.1.1⟩
      · omega
    · simp [rowsL] at hi; subst hi
      obtain rfl : l = 0 := by omega
      rfl
    · simp [rowsL] at hi; subst hi
      obtain rfl : j = 0 := by omega
      rfl
  · rw [show tn 2 = 2 from rfl]
    have hi2 : ∀ i, i < (rowsL 2 g).length → i = 0 ∨ i = 1 := fun i hi => by simp [rowsL] at hi; omega
    refine ⟨rfl, fun x hx => ?_, fun i hi l hl => ?_, fun i hi j hj => ?_⟩
    · have hx : x = [me g 0 0, me g 0 1, 1, 0] ∨ x = [me g 1 0, me g 1 1, 0, 1] := by simpa [rowsL] using hx
      refine can_of (by omega) (by rcases hx with rfl | rfl <;> rfl) fun y hy => ?_
      have := z 0 0
      have := z 0 1
      have := z 1 0
      have := z 1 1
      rcases hx with rfl | rfl <;> (simp only [List.mem_cons, List.not_mem_nil, or_false] at hy; omega)
    · rcases hi2 i hi with rfl | rfl <;> (obtain rfl | rfl : l = 0 ∨ l = 1 := by omega) <;> rfl
    · rcases hi2 i hi with rfl | rfl <;> (obtain rfl | rfl : j = 0 ∨ j = 1 := by omega) <;> rfl
  · rw [show tn 3 = 3 from rfl]
    have hi2 : ∀ i, i < (rowsL 3 g).length → i = 0 ∨ i = 1 ∨ i = 2 := fun i hi => by simp [rowsL] at hi; omega
    refine ⟨rfl, fun x hx => ?_, fun i hi l hl => ?_, fun i hi j hj => ?_⟩
    · have hx : x = [me g 0 0, me g 0 1, me g 0 2, 1, 0, 0] ∨ x = [me g 1 0, me g 1 1, me g 1 2, 0, 1, 0] ∨ x = [me g 2 0, me g 2 1, me g 2 2, 0, 0, 1] := by simpa [rowsL] using hx
      refine can_of (by omega) (by rcases hx with rfl | rfl | rfl <;> rfl) fun y hy => ?_
      have := z 0 0
      have := z 0 1
      have := z 0 2
      have := z 1 0
      have := z 1 1
      have := z 1 2
      have := z 2 0
      have := z 2 1
      have := z 2 2
      rcases hx with rfl | rfl | rfl <;> (simp only [List.mem_cons, List.not_mem_nil, or_false] at hy; omega)
    · rcases hi2 i hi with rfl | rfl | rfl <;> (obtain rfl | rfl | rfl : l = 0 ∨ l = 1 ∨ l = 2 := by omega) <;> rfl
    · rcases hi2 i hi with rfl | rfl | rfl <;> (obtain rfl | rfl | rfl : j = 0 ∨ j = 1 ∨ j = 2 := by omega) <;> rfl
theorem iter_succ {S α : Type} {step : S → (S → Option α) → Option α} {f : Nat} {s : S} : iter step (f + 1) s = step s (iter step f) := rfl
theorem row129 {N : Nat} (hN : N ≤ 3) {g : Mat} {out : List (List Int)} {i : Nat} (hi : i < N) (ho : i < out.length) (hl : (out.getD i []).length = N + N) (M : Mat) {g108 : Args [.v i64, .v (.slice 24 (.slice 2 i64))] → Option (Ress [.slice 24 (.slice 2 i64)])} {g153 : Args [.v (.slice 2 i64)] → Option (Ress [i64])} :
    ∃ M' : Mat, ∀ (F0 : Nat) (kx : ShVal sh129_21 → Option R129), iter (fun s k => st129_21 g108 g153 F0 s k kx) 8 (((N : Int), ()), ((g, ()), ((out, ()), ((M, ()), (((i : Int), ()), (((0 : Int), ()), ())))))) = kx (((N : Int), ()), ((g, ()), ((out, ()), ((M', ()), (((i : Int), ()), (((N : Int), ()), ())))))) := by
  let Mj : Nat → Mat := fun j => Nat.rec (motive := fun _ => Mat) M (fun j (m : Mat) => (tset (tset (w8 (List.getD (List.getD out i []) (tn ((N : Int) + (j : Int))) (0 : Int))) 3 (tget (Ty.dflt (.arr 3 (.int .u8))) 3 m i) j) 3 m i : Mat)) j
  refine ⟨Mj N, fun F0 kx => ?_⟩
  refine iter_run N 8 (fun j => (((N : Int), ()), ((g, ()), ((out, ()), ((Mj j, ()), (((i : Int), ()), (((j : Int), ()), ()))))))) (by omega) (fun j hj k => ?_) (fun k => ?_)
  · simp (disch := omega) only [st129_21, dlt_t, cond_true, ib_t, ofn, tn_cast, w6_id]
    rfl
  · simp (disch := omega) only [st129_21, dlt_f, cond_false]
theorem lead129 {p : Int} {N : Nat} (hN : N ≤ 3) {g : Mat} {out : List (List Int)} (rr : RR p (N + N) out) (hl : out.length = N) {g108 : Args [.v i64, .v (.slice 24 (.slice 2 i64))] → Option (Ress [.slice 24 (.slice 2 i64)])} : ∀ (k i : Nat) (M : Mat) (F : Nat), i + k = N → k < F →
    ∃ (M' : Mat) (b : Bool), iter (fun s k => st129_16 g108 cf153 8 s k (fun s' => match s' with | ((t1, _), (t6, _), (t12, _), (t13, _), (t14, _), _) => (some (t13, (true, ()))))) F (((N : Int), ()), ((g, ()), ((out, ()), ((M, ()), (((i : Int), ()), ()))))) = some (M', (b, ())) ∧
      (b = true ↔ ∀ (i' : Nat) (h : i' < out.length), i ≤ i' → ld out[i'] = i')
  | 0, i, M, F, hk, hF => by
    obtain ⟨F, rfl⟩ : ∃ f, F = f + 1 := ⟨F - 1, by omega⟩
    refine ⟨M, true, ?_, by simp; omega⟩
    rw [iter_succ]
    simp (disch := omega) only [st129_16, dlt_f, cond_false]
  | k + 1, i, M, F, hk, hF => by
    obtain ⟨F, rfl⟩ : ∃ f, F = f + 1 := ⟨F - 1, by omega⟩
    have hi : i < out.length := by omega
    have e : out.getD i [] = out[i] := by simp [List.getD_eq_getElem?_getD, List.getElem?_eq_getElem hi]
    have c := rr.can _ (List.getElem_mem hi)
    have lt := rr.lt _ (List.getElem_mem hi)
    have g1 := g153_ok (l := out[i]) (by rw [c.len]; omega)
    rw [ldI_lt c.len lt] at g1
    obtain ⟨M1, h1⟩ := row129 (N := N) hN (g := g) (out := out) (i := i) (by omega) hi (by rw [e]; exact c.len) M (g108 := g108) (g153 := cf153)
    obtain ⟨M2, b, h2, h3⟩ := lead129 hN rr hl (g := g) (g108 := g108) k (i + 1) M1 F (by omega) (by omega)
    by_cases q : ld out[i] = i
    · refine ⟨M2, b, ?_, h3.trans ⟨fun h i' hi' hle => ?_, fun h i' hi' hle => h i' hi' (by omega)⟩⟩
      · rw [iter_succ]
        generalize iter _ F = G at h2 ⊢
        simp (disch := omega) only [st129_16, dlt_t, cond_true, ib_t, ofn, tn_cast, e, g1, deq_t, Bool.not_true, cond_false, ru129_21, h1, w6_id]
        exact h2
      · rcases Nat.lt_or_ge i i' with z | z
        · exact h i' hi' (by omega)
        · obtain rfl : i' = i := by omega
          exact q
    · refine ⟨M, false, ?_, by simp; exact ⟨i, Nat.le_refl _, hi, q⟩⟩
      rw [iter_succ]
      simp (disch := omega) only [st129_16, dlt_t, cond_true, ib_t, ofn, tn_cast, e, g1, deq_f, Bool.not_false]
theorem g129_ok {p n : Int} {g : Mat} (hg : okM g = true) (hP : isP p = true) (hn : n = 1 ∨ n = 2 ∨ n = 3) (hr : rngB p n g = true) : ∃ M, cf129 (p, n, g, ()) = some (M, (!decide (detN (tn n) (me g) % p = 0), ())) := by
  obtain ⟨r1, r2, r3, r4⟩ := rows_ok hg hP hn hr
  have hN : ((tn n : Nat) : Int) = n := Int.toNat_of_nonneg (by omega)
  have hn3 : tn n ≤ 3 := by omega
  obtain ⟨e1, e2, e3⟩ := unit_ech hP (n := tn n) (by omega) (G := me g) r1 r2 r3 r4
  have g1 := g108_ok hP r2 (by omega) (by omega)
  obtain ⟨M, b, h1, h2⟩ := lead129 (p := p) hn3 (g := Ty.dflt (.arr 3 (.arr 3 (.int .u8)))) e2 e1 (g108 := cf108) (tn n) 0 (tup (Prod Int (Prod Int (Prod Int Unit))) (Ty.dflt (.arr 3 (.int .u8))) 3) 8 (by omega) (by omega)
  rw [hN] at h1
  have hb : b = !decide (detN (tn n) (me g) % p = 0) := by
    have : b = true ↔ detN (tn n) (me g) % p ≠ 0 := h2.trans ⟨fun h => e3.1 fun i hi => h i hi (by omega), fun h i hi _ => e3.2 h i hi⟩
    by_cases q : detN (tn n) (me g) % p = 0
    · rw [decide_eq_true q]
      cases b with
      | false => rfl
      | true => exact absurd q (this.1 rfl)
    · rw [decide_eq_false q]
      exact this.2 q
  refine ⟨M, ?_⟩
  rw [← hb]
  unfold cf129 fn129 ru129_3
  refine (build129 hg hn).trans ?_
  simp only [g1]
  simp (disch := omega) only [dln_t, cond_true, ofn, e1, hN, deq_t, decide_true, Bool.not_true, cond_false, ru129_16]
  exact h1
noncomputable def cf58 : Args [.v i64, .v i64, .v mat] → Option R58 := fn58 cf82 cf73 cf129 6
theorem k58 : KOne Try.prog 58 ⟨[.v i64, .v i64, .v mat], [.bool], false, false, 0, cf58⟩ := ok58 _ _ _ (.cons k82 (.cons k73 (.cons k129 .nil))) cf58 fun x y h => ⟨6, h⟩
theorem g58_ok {p n : Int} {g : Mat} (hg : okM g = true) : cf58 (p, n, g, ()) = some (matB p n g, ()) := by
  simp only [cf58, fn58]
  rw [show cf82 (p, ()) = some (isP p, ()) from rfl, show cf73 (n, (1 : Int), (3 : Int), ()) = some (inR n, ()) from rfl]
  simp only
  unfold matB
  cases hP : isP p with
  | false => rfl
  | true =>
    cases hR : inR n with
    | false => rfl
    | true =>
      simp only [Bool.not_true, cond_false, Bool.true_and]
      rw [show ru58_4 cf82 cf73 cf129 6 = fun s kx => iter (fun s k => st58_4 cf82 cf73 cf129 (2 + 4) s k kx) (2 + 4) s from rfl]
      simp only
      rw [loop58 hg]
      cases hr : rngB p n g with
      | false => rfl
      | true =>
        simp only [cond_true]
        obtain ⟨M, hM⟩ := g129_ok hg hP (inR_cases hR) hr
        rw [hM]
        rfl
def c61 (p n : Int) (l : List Mat) : Option (Bool × Unit) := if l.length ≤ 1000000 ∧ l.all okM = true then some (l.all (matB p n) && (isP p && inR n), ()) else none
def cf61 : Args [.v i64, .v i64, .v (.slice 27 mat)] → Option R61 := fun x => c61 x.1 x.2.1 x.2.2.1
theorem all_split {l : List Mat} {f : Mat → Bool} {i : Nat} (hi : i < l.length) : (l.drop i).all f = (f l[i] && (l.drop (i + 1)).all f) := by
  rw [List.drop_eq_getElem_cons hi, List.all_cons]
theorem run61 {p n : Int} {l : List Mat} (hl : l.length ≤ 1000000) (ho : l.all okM = true) : fn61 cf131 cf87 cf82 (l.length + 1) (p, n, l, ()) = some (l.all (matB p n) && (isP p && inR n), ()) := by
  simp (disch := omega) only [fn61, dln_t, cond_true, ru61_2]
  have main : ∀ (k i F : Nat), i + k = l.length → k < F → iter (fun s k => st61_2 cf131 cf87 cf82 (l.length + 1) s k (fun s' => match s' with | ((t0, _), (t1, _), (t9, _), (t10, _), (t11, _), _) => (match (cf82 (t0, ())) with | some r14 => (bif r14.1 then (match (cf87 (t1, ())) with | some r15 => (some ((bif true then r15.1 else false), ())) | none => none) else (some (false, ()))) | none => none))) F ((p, ()), ((n, ()), ((l, ()), (((l.length : Nat) : Int), ()), (((i : Nat) : Int), ()), ()))) =
      some ((l.drop i).all (matB p n) && (isP p && inR n), ()) := by
    intro k
    induction k with
    | zero =>
      intro i F hi hF
      obtain ⟨F, rfl⟩ : ∃ f, F = f + 1 := ⟨F - 1, by omega⟩
      rw [iter_succ]
      simp (disch := omega) only [st61_2, dlt_f, cond_false]
      rw [List.drop_eq_nil_of_le (by omega)]
      simp only [List.all_nil, Bool.true_and]
      rw [show cf82 (p, ()) = some (isP p, ()) from rfl, show cf87 (n, ()) = some (inR n, ()) from rfl]
      cases isP p <;> rfl
    | succ k ih =>
      intro i F hi hF
      obtain ⟨F, rfl⟩ : ∃ f, F = f + 1 := ⟨F - 1, by omega⟩
      have hil : i < l.length := by omega
      have e : l.getD i (Ty.dflt (.arr 3 (.arr 3 (.int .u8)))) = l[i] := by simp [List.getD_eq_getElem?_getD, List.getElem?_eq_getElem hil]
      have g1 := g131_ok (p := p) (n := n) (List.all_eq_true.1 ho _ (List.getElem_mem hil))
      rw [iter_succ, all_split hil]
      have ih := ih (i + 1) F (by omega) (by omega)
      generalize iter _ F = G at ih ⊢
      simp (disch := omega) only [st61_2, dlt_t, cond_true, ib_t, ofn, tn_cast, e, g1]
      cases matB p n l[i] with
      | false => rfl
      | true =>
        simp (disch := omega) only [Bool.not_true, cond_false, w6_id, Bool.true_and]
        exact ih
  exact main l.length 0 (l.length + 1) (by omega) (by omega)
theorem k61 : KOne Try.prog 61 ⟨[.v i64, .v i64, .v (.slice 27 mat)], [.bool], false, false, 0, cf61⟩ := ok61 _ _ _ (.cons k131 (.cons k87 (.cons k86 .nil))) cf61 fun x y h => by
  obtain ⟨p, n, l, _⟩ := x
  simp only [cf61, c61] at h
  split at h
  · rename_i hc
    injection h with h; subst h
    exact ⟨_, run61 hc.1 hc.2⟩
  · cases h
theorem g19_ok {l : List Int} {k : Int} (hl : l.length ≤ 1000000) (hk : 0 ≤ k ∧ k ≤ 1000000000000) : cf19 (l, k, ()) = some (marks k l.length, k + l.length, ()) := if_pos ⟨hl, hk.1, hk.2⟩
theorem g20_ok {n : Nat} {k : Int} (hl : n ≤ 1000000) (hk : 0 ≤ k ∧ k ≤ 1000000000000) : cf20 (marks k n, k, ()) = some (k + n, ()) := by
  have hm := marks_len n k
  have : cf20 (marks k n, k, ()) = some (k + ((marks k n).length : Int), ()) := if_pos ⟨by rw [hm]; exact hl, hk.1, hk.2, by rw [hm]⟩
  rw [this, hm]
theorem range_set {n i : Nat} {f : Nat → Int} {x : Int} (hi : i < n) : ((List.range n).map f).set i x = (List.range n).map fun j => if i = j then x else f j := by
  apply List.ext_getElem?
  intro j
  rw [List.getElem?_set]
  by_cases q : i = j
  · subst q; simp [hi]
  · rw [if_neg q]
    simp only [List.getElem?_map, List.getElem?_range]
    by_cases h : j < n
    · simp [h, q]
    · simp [h]
abbrev R162 : Type := Ress [i64]
abbrev G162 : Type := Args [.v mat, .v mat] → Option R162
def mcell (g : mat.den) (i j : Nat) : Int := tget (0 : Int) 3 (tget (Ty.dflt (.arr 3 (.int .u8))) 3 g i) j
def rkM (g : mat.den) (i : Nat) : Int := 65536 * mcell g i 0 + 256 * mcell g i 1 + mcell g i 2
def keyM (g : mat.den) : Int := 281474976710656 * rkM g 0 + 16777216 * rkM g 1 + rkM g 2
def sgn (a b : Int) : Int := if a < b then -1 else if b < a then 1 else 0
def cmpM (a b : mat.den) : Int := sgn (keyM a) (keyM b)
theorem rd_mat {h : Mem} {A : mat.den} {cs : List Value} {bs : List Nat} (hr : Rd h mat A cs bs) {i j : Nat} (hi : i < 3) (hj : j < 3) : cs[i * 3 + j]? = some (.int .u8 (mcell A i j)) ∧ (Lit.int .u8 (mcell A i j)).wf = true := by
  obtain ⟨hl, hr⟩ := hr
  obtain ⟨b1, ⟨_, r1⟩, _⟩ := RdL.get hr (tlist_get (Ty.dflt (.arr 3 (.int .u8))) 3 A i hi)
  obtain ⟨b2, r2, _⟩ := RdL.get r1 (tlist_get (0 : Int) 3 (tget (Ty.dflt (.arr 3 (.int .u8))) 3 A i) j hj)
  obtain ⟨e, w, _⟩ := r2
  refine ⟨?_, w⟩
  have := congrArg (fun l => l[0]?) e
  simp only [List.getElem?_take_of_lt (show 0 < (Ty.int IntKind.u8).size from Nat.zero_lt_one), List.getElem?_drop] at this
  rw [List.getElem?_take_of_lt (show j * (Ty.int IntKind.u8).size + 0 < (Ty.arr 3 (Ty.int IntKind.u8)).size by show j * 1 + 0 < 3; omega), List.getElem?_drop] at this
  have e2 : i * (Ty.arr 3 (Ty.int IntKind.u8)).size + (j * (Ty.int IntKind.u8).size + 0) = i * 3 + j := by show i * 3 + (j * 1 + 0) = _; omega
  rw [e2] at this
  exact this
theorem wf_u8 {x : Int} (h : (Lit.int .u8 x).wf = true) : 0 ≤ x ∧ x ≤ 255 := by
  simp [Lit.wf, IntKind.min, IntKind.max, IntKind.bits, IntKind.signed] at h; omega
theorem by8_lt {x y : Int} (hx : 0 ≤ x ∧ x ≤ 255) (hy : 0 ≤ y ∧ y ≤ 255) : x.toNat.toUInt8 < y.toNat.toUInt8 ↔ x < y := by
  rw [UInt8.lt_iff_toNat_lt]
  simp only [Nat.toUInt8, UInt8.toNat_ofNat']
  rw [Nat.mod_eq_of_lt (by omega), Nat.mod_eq_of_lt (by omega)]
  omega
theorem sgn3 {x0 x1 x2 y0 y1 y2 : Int} (a0 : 0 ≤ x0 ∧ x0 ≤ 255) (a1 : 0 ≤ x1 ∧ x1 ≤ 255) (a2 : 0 ≤ x2 ∧ x2 ≤ 255) (b0 : 0 ≤ y0 ∧ y0 ≤ 255) (b1 : 0 ≤ y1 ∧ y1 ≤ 255) (b2 : 0 ≤ y2 ∧ y2 ≤ 255) :
    Lib.compareBytes [x0.toNat.toUInt8, x1.toNat.toUInt8, x2.toNat.toUInt8] [y0.toNat.toUInt8, y1.toNat.toUInt8, y2.toNat.toUInt8] = sgn (65536 * x0 + 256 * x1 + x2) (65536 * y0 + 256 * y1 + y2) := by
  simp only [Lib.compareBytes, by8_lt a0 b0, by8_lt b0 a0, by8_lt a1 b1, by8_lt b1 a1, by8_lt a2 b2, by8_lt b2 a2, sgn]
  split
  · rw [if_pos (by omega)]
  · split
    · rw [if_neg (by omega), if_pos (by omega)]
    · split
      · rw [if_pos (by omega)]
      · split
        · rw [if_neg (by omega), if_pos (by omega)]
        · split
          · rw [if_pos (by omega)]
          · split
            · rw [if_neg (by omega), if_pos (by omega)]
            · rw [if_neg (by omega), if_neg (by omega)]
def At3 (w : World) (b o : Nat) (x : Nat → Int) : Prop := ∃ c e fr, w.heap[b]? = some (.cells c e fr) ∧ ∀ j, j < 3 → c[o + j]? = some (.int .u8 (x j)) ∧ (0 ≤ x j ∧ x j ≤ 255)
theorem run_bytes3 {P : Program} {w : World} {b o cap : Nat} {x : Nat → Int} (h : At3 w b o x) : (Extern.Bytes.bytesOf (.slice (some ⟨b, o, none⟩) 3 cap)).run P w = .ok ⟨#[(x 0).toNat.toUInt8, (x 1).toNat.toUInt8, (x 2).toNat.toUInt8]⟩ w := by
  obtain ⟨c, e, fr, h1, h2⟩ := h
  have ld : ∀ j, j < 3 → (load ⟨b, o + j, none⟩).run P w = .ok (.int .u8 (x j)) w := fun j hj => by
    have := (h2 j hj).1
    have hc : w.cell? ⟨b, o + j, none⟩ = some (.int .u8 (x j)) := by simp [World.cell?, h1, this]
    rw [run_load, hc]
  have l0 := ld 0 (by omega)
  have l1 := ld 1 (by omega)
  have l2 := ld 2 (by omega)
  have a1 : Addr.add ⟨b, o, none⟩ 1 = ⟨b, o + 1, none⟩ := addr_add _ _ _
  have a2 : Addr.add ⟨b, o + 1, none⟩ 1 = ⟨b, o + 2, none⟩ := addr_add _ _ _
  rw [Nat.add_zero] at l0
  simp only [Extern.Bytes.bytesOf, Extern.Bytes.loadBytes, Sem.run_bind, a1, a2, l0, l1, l2, Result.andThen_ok, Sem.run_pure]
  rfl
theorem run_cmp3 {P : Program} {w : World} {b o b' o' : Nat} {x y : Nat → Int} (h : At3 w b o x) (h' : At3 w b' o' y) :
    (Extern.BytealgCompare.compare #[.slice (some ⟨b, o, none⟩) 3 3, .slice (some ⟨b', o', none⟩) 3 3]).run P w = .ok (.int .i64 (sgn (65536 * x 0 + 256 * x 1 + x 2) (65536 * y 0 + 256 * y 1 + y 2))) w := by
  have e1 := run_bytes3 (P := P) (cap := 3) h
  have e2 := run_bytes3 (P := P) (cap := 3) h'
  obtain ⟨_, _, _, _, r⟩ := h
  obtain ⟨_, _, _, _, r'⟩ := h'
  change Sem.run P (do pure (goInt (Extern.BytealgCompare.cmp (← Extern.Bytes.bytesOf (.slice (some ⟨b, o, none⟩) 3 3)) (← Extern.Bytes.bytesOf (.slice (some ⟨b', o', none⟩) 3 3))))) w = _
  simp only [Sem.run_bind, e1, e2, Result.andThen_ok, Sem.run_pure, Lib.cmp_eq, goInt]
  rw [sgn3 (r 0 (by omega)).2 (r 1 (by omega)).2 (r 2 (by omega)).2 (r' 0 (by omega)).2 (r' 1 (by omega)).2 (r' 2 (by omega)).2]
noncomputable def o179 (i : Nat) : Array Oper := match opsIn i (bodyOf Try.f179) with | some x => x | none => #[]
theorem sk179 : Try.f179.body = some (.seq (.region 0 (o179 0) false) (.seq (.region 1 (o179 1) false) .ret)) := by kernel_rfl
theorem run_ext2 {P : Program} {a : Act} {w : World} {o : Oper} {c : Call} {kf : Nat} {x y z : Operand} {fn : Func} {e : Array Value → Sem Value} (hop : o.op = .call c) (hcal : c.callee = .value z) (hz : a.eval z = .func (.func kf) #[] #[]) (hargs : c.args.toList = [x, y])
    (f1 : P.funcs[kf]? = some fn) (f2 : (fn.name == "runtime.NumGoroutine") = false) (f3 : fn.body.isNone = true) (f4 : Extern.findNext fn = none) (f5 : Extern.find fn = some e) {v : Value} (hv : (e #[a.eval x, a.eval y]).run P w = .ok v w) : (execOp a.eval o).run P w = .ok (.value v) w := by
  have hargs : c.args.map a.eval = #[a.eval x, a.eval y] := by apply Array.ext'; simp [hargs]
  simp only [execOp, hop, resolve, hcal, hz, Deferred.ofValue, invoke, Sem.run_bind, Sem.run_pure, Result.andThen_ok, hargs]
  rw [show (#[] ++ #[a.eval x, a.eval y] ++ #[] : Array Value) = #[a.eval x, a.eval y] by simp, run_callFunc_extern f1 f2 f3 f4 f5, hv]
  rfl
theorem q179_0 : ∃ o, (o179 0)[0]? = some o ∧ o.op = .assign (.const (.int .i64 0)) ∧ o.dst = some 4 ∧ o.guard = none := ⟨((o179 0)[0]?).get (by kernel_rfl), (Option.some_get _).symm, by kernel_rfl, by kernel_rfl, by kernel_rfl⟩
theorem q179_1 : ∃ o, (o179 1)[0]? = some o ∧ o.op = .move (.tmp 0) ∧ o.dst = some 5 ∧ o.guard = none := ⟨((o179 1)[0]?).get (by kernel_rfl), (Option.some_get _).symm, by kernel_rfl, by kernel_rfl, by kernel_rfl⟩
theorem q179_2 : ∃ o, (o179 1)[1]? = some o ∧ o.op = .move (.tmp 1) ∧ o.dst = some 6 ∧ o.guard = none := ⟨((o179 1)[1]?).get (by kernel_rfl), (Option.some_get _).symm, by kernel_rfl, by kernel_rfl, by kernel_rfl⟩
noncomputable def o179_3 : Oper := ((o179 1)[2]?).get (by kernel_rfl)
noncomputable def c179_3 : Call := (callOf o179_3).get (by kernel_rfl)
noncomputable def z179_3 : Operand := (valOf c179_3.callee).get (by kernel_rfl)
theorem q179_3 : ∃ o c z, (o179 1)[2]? = some o ∧ o.op = .call c ∧ c.callee = .value z ∧ isF 194 z = true ∧ c.args.toList = [.tmp 5, .tmp 6] ∧ o.dst = some 7 ∧ o.guard = none :=
  ⟨o179_3, c179_3, z179_3, (Option.some_get _).symm, by kernel_rfl, by kernel_rfl, by kernel_rfl, by kernel_rfl, by kernel_rfl, by kernel_rfl⟩
theorem q179_4 : ∃ o, (o179 1)[3]? = some o ∧ o.op = .assign (.tmp 7) ∧ o.dst = some 4 ∧ o.guard = none := ⟨((o179 1)[3]?).get (by kernel_rfl), (Option.some_get _).symm, by kernel_rfl, by kernel_rfl, by kernel_rfl⟩
theorem rg179 : List.range (o179 0).size = [0] ∧ List.range (o179 1).size = [0, 1, 2, 3] := ⟨by kernel_rfl, by kernel_rfl⟩
theorem rs179 : Try.f179.results.toList = [.tmp 4] := by kernel_rfl
theorem nt179 : Try.f179.ntmps = 8 := by kernel_rfl
theorem calls179 {w : World} {b o b' o' : Nat} {x y : Nat → Int} (h : At3 w b o x) (h' : At3 w b' o' y) :
    Calls Try.prog 179 #[.slice (some ⟨b, o, none⟩) 3 3, .slice (some ⟨b', o', none⟩) 3 3] w fun e w' => e = .returned (.int .i64 (sgn (65536 * x 0 + 256 * x 1 + x 2) (65536 * y 0 + 256 * y 1 + y 2))) ∧ w' = w := by
  refine calls_of_wp Try.func179 sk179 ?_
  generalize ha : ({ tmps := _, defers := [] } : Act) = a
  have A0 : AtV 8 (fun s => a.tmps.getD s Go.undef) a := by
    subst ha
    exact ⟨by rw [nt179]; rfl, rfl, fun _ => rfl⟩
  have e0 : a.tmps.getD 0 Go.undef = .slice (some ⟨b, o, none⟩) 3 3 := by subst ha; rw [nt179]; rfl
  have e1 : a.tmps.getD 1 Go.undef = .slice (some ⟨b', o', none⟩) 3 3 := by subst ha; rw [nt179]; rfl
  clear ha
  obtain ⟨o0, o0a, o0b, o0c, o0d⟩ := q179_0
  obtain ⟨o1, o1a, o1b, o1c, o1d⟩ := q179_1
  obtain ⟨o2, o2a, o2b, o2c, o2d⟩ := q179_2
  obtain ⟨o3, c3, z3, o3a, o3b, o3e, o3f, o3g, o3c, o3d⟩ := q179_3
  obtain ⟨o4, o4a, o4b, o4c, o4d⟩ := q179_4
  refine wp_seq (wp_region ?_)
  rw [rg179.1]
  refine wpOps_cons o0a o0d (upon_val (v := .int .i64 0) (w' := w) (by simp only [execOp, o0b, Sem.run_pure]; rfl) ?_)
  rw [o0c]
  have A1 := A0.put (d := 4) (by omega) (.int .i64 0)
  generalize a.put (some 4) (.int .i64 0) = a1 at A1 ⊢
  show Code.wp _ _ _ _ _
  refine wp_seq (wp_region ?_)
  rw [rg179.2]
  refine wpOps_cons o1a o1d (upon_val (v := .slice (some ⟨b, o, none⟩) 3 3) (w' := w) (by simp only [execOp, o1b, show a1.eval (.tmp 0) = _ from A1.ev.trans e0, Sem.run_pure]) ?_)
  rw [o1c]
  have A2 := A1.put (d := 5) (by omega) (.slice (some ⟨b, o, none⟩) 3 3)
  generalize a1.put (some 5) (.slice (some ⟨b, o, none⟩) 3 3) = a2 at A2 ⊢
  refine wpOps_cons o2a o2d (upon_val (v := .slice (some ⟨b', o', none⟩) 3 3) (w' := w) (by simp only [execOp, o2b, show a2.eval (.tmp 1) = _ from A2.ev.trans e1, Sem.run_pure]) ?_)
  rw [o2c]
  have A3 := A2.put (d := 6) (by omega) (.slice (some ⟨b', o', none⟩) 3 3)
  generalize a2.put (some 6) (.slice (some ⟨b', o', none⟩) 3 3) = a3 at A3 ⊢
  have x5 : a3.eval (.tmp 5) = .slice (some ⟨b, o, none⟩) 3 3 := A3.ev
  have x6 : a3.eval (.tmp 6) = .slice (some ⟨b', o', none⟩) 3 3 := A3.ev
  refine wpOps_cons o3a o3d (upon_val (v := .int .i64 (sgn (65536 * x 0 + 256 * x 1 + x 2) (65536 * y 0 + 256 * y 1 + y 2))) (w' := w)
    (run_ext2 o3b o3e (isF_ev o3f a3) o3g Try.func194 (by kernel_rfl) (by kernel_rfl) (by kernel_rfl) (e := Extern.BytealgCompare.compare) (by kernel_rfl) (by rw [x5, x6]; exact run_cmp3 h h')) ?_)
  rw [o3c]
  have A4 := A3.put (d := 7) (by omega) (.int .i64 (sgn (65536 * x 0 + 256 * x 1 + x 2) (65536 * y 0 + 256 * y 1 + y 2)))
  generalize a3.put (some 7) (.int .i64 (sgn (65536 * x 0 + 256 * x 1 + x 2) (65536 * y 0 + 256 * y 1 + y 2))) = a4 at A4 ⊢
  refine wpOps_cons o4a o4d (upon_val (v := .int .i64 (sgn (65536 * x 0 + 256 * x 1 + x 2) (65536 * y 0 + 256 * y 1 + y 2))) (w' := w) (by simp only [execOp, o4b, show a4.eval (.tmp 7) = _ from A4.ev, Sem.run_pure]; rfl) ?_)
  rw [o4c]
  have A5 := A4.put (d := 4) (by omega) (.int .i64 (sgn (65536 * x 0 + 256 * x 1 + x 2) (65536 * y 0 + 256 * y 1 + y 2)))
  generalize a4.put (some 4) (.int .i64 (sgn (65536 * x 0 + 256 * x 1 + x 2) (65536 * y 0 + 256 * y 1 + y 2))) = a5 at A5 ⊢
  show Code.wp _ _ _ _ _
  refine wp_ret ?_
  have u4 : a5.tmps.getD 4 Go.undef = .int .i64 (sgn (65536 * x 0 + 256 * x 1 + x 2) (65536 * y 0 + 256 * y 1 + y 2)) := A5.ev
  have hres : (Try.f179.results.toList.mapM (resOne a5.tmps)).run Try.prog w = .ok [.int .i64 (sgn (65536 * x 0 + 256 * x 1 + x 2) (65536 * y 0 + 256 * y 1 + y 2))] w := by rw [rs179, ← u4]; rfl
  exact ⟨A5.df, _, results_run hres, rfl, rfl⟩
noncomputable def o162 (i : Nat) : Array Oper := match opsIn i (bodyOf Try.f162) with | some x => x | none => #[]
noncomputable def in162 : Code := .seq (.region 3 (o162 3) false) (.seq (.region 4 (o162 4) true) (.seq (.region 5 (o162 5) false) (.cond (.tmp 18) (.seq (.region 6 (o162 6) false) .ret) .skip)))
noncomputable def body162 : Code := .seq (.region 2 (o162 2) false) (.seq (.cond (.tmp 8) .skip (.exit 0)) (.seq (.block 1 in162) (.region 7 (o162 7) false)))
noncomputable def end162 : Code := .seq (.region 8 (o162 8) false) .ret
theorem sk162 : Try.f162.body = some (.seq (.region 0 (o162 0) false) (.seq (.seq (.region 1 (o162 1) false) (.block 0 (.loop body162))) end162)) := by kernel_rfl
theorem q162_0 : ∃ o, (o162 4)[0]? = some o ∧ o.op = .move (.tmp 5) ∧ o.dst = some 10 ∧ o.guard = none := ⟨((o162 4)[0]?).get (by kernel_rfl), (Option.some_get _).symm, by kernel_rfl, by kernel_rfl, by kernel_rfl⟩
theorem q162_1 : ∃ o, (o162 4)[1]? = some o ∧ o.op = .indexAddr 27 (.tmp 2) (.tmp 10) ∧ o.dst = some 11 ∧ o.guard = none := ⟨((o162 4)[1]?).get (by kernel_rfl), (Option.some_get _).symm, by kernel_rfl, by kernel_rfl, by kernel_rfl⟩
theorem q162_2 : ∃ o, (o162 4)[2]? = some o ∧ o.op = .slice 22 (.tmp 11) none none none ∧ o.dst = some 12 ∧ o.guard = none := ⟨((o162 4)[2]?).get (by kernel_rfl), (Option.some_get _).symm, by kernel_rfl, by kernel_rfl, by kernel_rfl⟩
theorem q162_3 : ∃ o, (o162 4)[3]? = some o ∧ o.op = .move (.tmp 5) ∧ o.dst = some 13 ∧ o.guard = none := ⟨((o162 4)[3]?).get (by kernel_rfl), (Option.some_get _).symm, by kernel_rfl, by kernel_rfl, by kernel_rfl⟩
theorem q162_4 : ∃ o, (o162 4)[4]? = some o ∧ o.op = .indexAddr 27 (.tmp 3) (.tmp 13) ∧ o.dst = some 14 ∧ o.guard = none := ⟨((o162 4)[4]?).get (by kernel_rfl), (Option.some_get _).symm, by kernel_rfl, by kernel_rfl, by kernel_rfl⟩
theorem q162_5 : ∃ o, (o162 4)[5]? = some o ∧ o.op = .slice 22 (.tmp 14) none none none ∧ o.dst = some 15 ∧ o.guard = none := ⟨((o162 4)[5]?).get (by kernel_rfl), (Option.some_get _).symm, by kernel_rfl, by kernel_rfl, by kernel_rfl⟩
theorem q162_7 : ∃ o, (o162 4)[7]? = some o ∧ o.op = .assign (.tmp 16) ∧ o.dst = some 6 ∧ o.guard = none := ⟨((o162 4)[7]?).get (by kernel_rfl), (Option.some_get _).symm, by kernel_rfl, by kernel_rfl, by kernel_rfl⟩
noncomputable def o162_6 : Oper := ((o162 4)[6]?).get (by kernel_rfl)
noncomputable def c162_6 : Call := (callOf o162_6).get (by kernel_rfl)
noncomputable def z162_6 : Operand := (valOf c162_6.callee).get (by kernel_rfl)
theorem q162_6 : ∃ o c z, (o162 4)[6]? = some o ∧ o.op = .call c ∧ c.callee = .value z ∧ isF 179 z = true ∧ c.args.toList = [.tmp 12, .tmp 15] ∧ o.dst = some 16 ∧ o.guard = none :=
  ⟨o162_6, c162_6, z162_6, (Option.some_get _).symm, by kernel_rfl, by kernel_rfl, by kernel_rfl, by kernel_rfl, by kernel_rfl, by kernel_rfl⟩
def E162 (A B : mat.den) (i : Int) : Env := [(2, .box false [.fz mat 0 false A]), (3, .box false [.fz mat 0 false B]), (7, intE .i64 i)]
def E162b (A B : mat.den) (i : Int) : Env := [(2, .box false [.fz mat 0 false A]), (3, .box false [.fz mat 0 false B]), (5, intE .i64 i), (7, intE .i64 i)]
def E162c (A B : mat.den) (i r : Int) : Env := [(2, .box false [.fz mat 0 false A]), (3, .box false [.fz mat 0 false B]), (6, intE .i64 r), (7, intE .i64 i)]
theorem e162a (A B : mat.den) : evL TT [] [] [] (.region 0 (o162 0) false) (initEnv 0 [.v mat, .v mat] (A, B, ())) (fun e => some (keepK [2, 3] e)) (fun _ _ => none) (fun _ => none) =
    some [(2, .box false [.fz mat 0 false A]), (3, .box false [.fz mat 0 false B])] := by kernel_rfl
theorem e162b (A B : mat.den) : evL TT [] [] [] (.region 1 (o162 1) false) [(2, .box false [.fz mat 0 false A]), (3, .box false [.fz mat 0 false B])] (fun e => some (keepK [2, 3, 7] e)) (fun _ _ => none) (fun _ => none) =
    some (E162 A B 0) := by kernel_rfl
theorem e162c (A B : mat.den) (i : Int) : evL TT [] [] [] (.region 2 (o162 2) false) (E162 A B i) (fun e => some (keepK [2, 3, 7, 8] e)) (fun _ _ => none) (fun _ => none) =
    some (E162 A B i ++ [(8, boolE (decide (i < 3)))]) := by kernel_rfl
theorem e162d (A B : mat.den) (i : Int) : evL TT [] [] [] (.region 3 (o162 3) false) (E162 A B i ++ [(8, boolE true)]) (fun e => some (keepK [2, 3, 5, 7] e)) (fun _ _ => none) (fun _ => none) =
    some (E162b A B i) := by kernel_rfl
theorem e162e (A B : mat.den) (i r : Int) : evL TT [] [] [] (.region 5 (o162 5) false) (E162c A B i r) (fun e => some (keepK [2, 3, 6, 7, 18] e)) (fun _ _ => none) (fun _ => none) =
    some (E162c A B i r ++ [(18, boolE (!decide (r = 0)))]) := by kernel_rfl
theorem e162f (A B : mat.den) (i r : Int) : evL TT [] [] [] (.region 7 (o162 7) false) (E162c A B i r ++ [(18, boolE false)]) (fun e => some (keepK [2, 3, 7] e)) (fun _ _ => none) (fun _ => none) =
    some (E162 A B (IntKind.i64.wrap (i + 1))) := by kernel_rfl
theorem e162g (A B : mat.den) (i r : Int) : evL TT [] [] [] (.seq (.region 6 (o162 6) false) .ret) (E162c A B i r ++ [(18, boolE true)]) (fun _ => none) (fun _ _ => none) (endK TT [.tmp 4] [i64] false false) = some (r, ()) := by kernel_rfl
theorem e162h (A B : mat.den) (i : Int) : evL TT [] [] [] end162 (E162 A B i ++ [(8, boolE false)]) (endK TT [.tmp 4] [i64] false false) (fun _ _ => none) (endK TT [.tmp 4] [i64] false false) = some ((0 : Int), ()) := by kernel_rfl
theorem oc162 (i : Nat) (hi : i = 0 ∨ i = 1 ∨ i = 2 ∨ i = 3 ∨ i = 5 ∨ i = 7) : okCode ⟨21, false, undef⟩ (.region i (o162 i) false) = true := by
  rcases hi with rfl | rfl | rfl | rfl | rfl | rfl <;> kernel_rfl
theorem nt162 : Try.f162.ntmps = 21 := by kernel_rfl
theorem rs162 : Try.f162.results.toList = [.tmp 4] := by kernel_rfl
theorem run_idx {P : Program} {T : TTab} {t : TypeId} {n : Nat} {u : Ty} (hT : TOK P T) (k : TyOK P T t (.arr n u)) {b o : Nat} {i : Int} (hi : 0 ≤ i ∧ i < n) (w : World) :
    (Instr.indexAt t (.pointer (some ⟨b, o, none⟩)) (.int .i64 i)).run P w = .ok (.pointer (some ⟨b, o + i.toNat * u.size, none⟩)) w := by
  obtain ⟨e', hu, hte, hz, hn1⟩ := k.und
  have asInt : (asIntOf (.int .i64 i)).run P w = .ok (.i64, i) w := rfl
  simp only [Instr.indexAt, Sem.run_bind, asInt, Result.andThen_ok, run_underlying hu, run_sureAddr, Sem.run_pure, sizeOf_of (hT _ _ hte), if_pos hi]
  rw [addr_add]
theorem run_cut {P : Program} {T : TTab} {t : TypeId} {n : Nat} {u : Ty} (hT : TOK P T) (k : TyOK P T t (.arr n u)) {b o : Nat} (w : World) :
    (Instr.sliceAt t (.pointer (some ⟨b, o, none⟩)) none none none).run P w = .ok (.slice (some ⟨b, o, none⟩) n n) w := by
  obtain ⟨e', hu, hte, hz, hn1⟩ := k.und
  have h0 : (Instr.sliceBounds false n n none none none).run P w = .ok (0, n, n) w := by
    simp [Instr.sliceBounds]
  simp only [Instr.sliceAt, Sem.run_bind, Result.andThen_ok, run_underlying hu, run_sureAddr, Sem.run_pure, sizeOf_of (hT _ _ hte), h0]
  split
  · rfl
  · rw [addr_add]; simp
theorem cell3 {g : Gh} {w : World} {s : Nat} {A : mat.den} {v : Value} (h : EntR g w.heap s (.box false [.fz mat 0 false A]) v) : ∃ b, v = .pointer (some ⟨b, 0, none⟩) ∧ ∀ i, i < 3 → ∀ n, At3 { w with drawn := n } b (i * 3) (fun j => mcell A i j) := by
  obtain ⟨b, c, e, fr, bs, h1, h2, ⟨b1, b2, ⟨h3, _⟩, _, _⟩, _⟩ := h
  refine ⟨b, h1, fun i hi n => ⟨c, e, fr, h2, fun j hj => ?_⟩⟩
  obtain ⟨q, w⟩ := rd_mat h3 hi hj
  have hlt : i * 3 + j < 9 := by omega
  rw [List.getElem?_take_of_lt (show i * 3 + j < (Leaf.fz mat 0 false A).ty.size from hlt)] at q
  exact ⟨by simpa using q, wf_u8 w⟩
theorem reg162 {w0 w : World} {W : Nat → Prop} {g : Gh} {A B : mat.den} {i : Nat} {a : Act} {Q : Exit → Act → World → Prop} (hi : i < 3) (st : St ⟨21, false, undef⟩ w0 W g (E162b A B i).get a w) (hQ : ∀ c a d v w, Q (.panic c) (a.put d v) w → Q (.panic c) a w)
    (hk : ∀ a' w', St ⟨21, false, undef⟩ w0 W g (E162c A B i (sgn (rkM A i) (rkM B i))).get a' w' → Q .normal a' w') : (Code.region 4 (o162 4) true).wp Try.prog Q a w := by
  have k27 := tt_ok 27 mat (by kernel_rfl)
  have k22 := tt_ok 22 ex (by kernel_rfl)
  obtain ⟨b1, p1, c1⟩ := cell3 (st.ent 2)
  obtain ⟨b2, p2, c2⟩ := cell3 (st.ent 3)
  have p5 : a.tmps.getD 5 Go.undef = .int .i64 (i : Int) := (asI_inv (st.ent 5) rfl).1
  obtain ⟨o0, o0a, o0b, o0c, o0d⟩ := q162_0
  obtain ⟨o1, o1a, o1b, o1c, o1d⟩ := q162_1
  obtain ⟨o2, o2a, o2b, o2c, o2d⟩ := q162_2
  obtain ⟨o3, o3a, o3b, o3c, o3d⟩ := q162_3
  obtain ⟨o4, o4a, o4b, o4c, o4d⟩ := q162_4
  obtain ⟨o5, o5a, o5b, o5c, o5d⟩ := q162_5
  obtain ⟨o6, c6, z6, o6a, o6b, o6e, o6f, o6g, o6c, o6d⟩ := q162_6
  obtain ⟨o7, o7a, o7b, o7c, o7d⟩ := q162_7
  have st' : St ⟨21, false, undef⟩ w0 W g (E162b A B i).get a { w with drawn := w.drawn + 1 } := ⟨st.inv, st.ent, st.sz, st.df, st.os, ⟨st.tape.tape, Nat.le_trans st.tape.dr (Nat.le_succ _)⟩, st.output⟩
  have c1 := c1 i hi (w.drawn + 1)
  have c2 := c2 i hi (w.drawn + 1)
  have A0 : AtV 21 (fun s => a.tmps.getD s Go.undef) a := ⟨st.sz.1, st.df, fun _ => rfl⟩
  refine wp_region_any mixed ?_
  rw [show (o162 4).size = 8 by kernel_rfl]
  clear st
  generalize hw : ({ w with drawn := w.drawn + 1 } : World) = w1 at st' c1 c2 ⊢
  clear hw
  have wanted : ∀ {o : Oper} {f : Nat → Option Bool}, o.guard = none → Region.wanted o f = true := fun h => by simp [Region.wanted, h]
  refine wpAny_take (i := 0) (v := .int .i64 i) o0a (by kernel_rfl) (by kernel_rfl) (by kernel_rfl) (fun c a w h => hQ c _ _ _ w h) (.inl ⟨wanted o0d, fun w => by simp only [execOp, o0b, show a.eval (.tmp 5) = _ from A0.ev.trans p5, Sem.run_pure]⟩) ?_
  rw [o0c]
  have A1 := A0.put (d := 10) (by omega) (.int .i64 i)
  have s1 := st'.passed (d := 10) (v := .int .i64 i) ⟨by decide, fun q => (by cases q)⟩ rfl
  generalize a.put (some 10) (.int .i64 i) = a1 at A1 s1 ⊢
  refine wpAny_take (i := 1) (v := .pointer (some ⟨b1, i * 3, none⟩)) o1a (by kernel_rfl) (by kernel_rfl) (by kernel_rfl) (fun c a w h => hQ c _ _ _ w h) (.inl ⟨wanted o1d, fun w => by
    have e1 : a1.eval (.tmp 2) = .pointer (some ⟨b1, 0, none⟩) := A1.ev.trans p1
    have e2 : a1.eval (.tmp 10) = .int .i64 i := A1.ev
    simp only [execOp, o1b, e1, e2, Sem.run_bind, run_idx tt_ok k27 (show (0 : Int) ≤ (i : Int) ∧ (i : Int) < (3 : Nat) by omega), Result.andThen_ok, Sem.run_pure]
    rw [show 0 + (i : Int).toNat * ex.size = i * 3 by show 0 + (i : Int).toNat * 3 = i * 3; simp]⟩) ?_
  rw [o1c]
  have A2 := A1.put (d := 11) (by omega) (.pointer (some ⟨b1, i * 3, none⟩))
  have s2 := s1.passed (d := 11) (v := .pointer (some ⟨b1, i * 3, none⟩)) ⟨by decide, fun q => (by cases q)⟩ rfl
  generalize a1.put (some 11) (.pointer (some ⟨b1, i * 3, none⟩)) = a2 at A2 s2 ⊢
  refine wpAny_take (i := 2) (v := .slice (some ⟨b1, i * 3, none⟩) 3 3) o2a (by kernel_rfl) (by kernel_rfl) (by kernel_rfl) (fun c a w h => hQ c _ _ _ w h) (.inl ⟨wanted o2d, fun w => by
    have e1 : a2.eval (.tmp 11) = .pointer (some ⟨b1, i * 3, none⟩) := A2.ev
    simp only [execOp, o2b, e1, Option.map_none, Sem.run_bind, run_cut tt_ok k22, Result.andThen_ok, Sem.run_pure]⟩) ?_
  rw [o2c]
  have A3 := A2.put (d := 12) (by omega) (.slice (some ⟨b1, i * 3, none⟩) 3 3)
  have s3 := s2.passed (d := 12) (v := .slice (some ⟨b1, i * 3, none⟩) 3 3) ⟨by decide, fun q => (by cases q)⟩ rfl
  generalize a2.put (some 12) (.slice (some ⟨b1, i * 3, none⟩) 3 3) = a3 at A3 s3 ⊢
  refine wpAny_take (i := 3) (v := .int .i64 i) o3a (by kernel_rfl) (by kernel_rfl) (by kernel_rfl) (fun c a w h => hQ c _ _ _ w h) (.inl ⟨wanted o3d, fun w => by simp only [execOp, o3b, show a3.eval (.tmp 5) = _ from A3.ev.trans p5, Sem.run_pure]⟩) ?_
  rw [o3c]
  have A4 := A3.put (d := 13) (by omega) (.int .i64 i)
  have s4 := s3.passed (d := 13) (v := .int .i64 i) ⟨by decide, fun q => (by cases q)⟩ rfl
  generalize a3.put (some 13) (.int .i64 i) = a4 at A4 s4 ⊢
  refine wpAny_take (i := 4) (v := .pointer (some ⟨b2, i * 3, none⟩)) o4a (by kernel_rfl) (by kernel_rfl) (by kernel_rfl) (fun c a w h => hQ c _ _ _ w h) (.inl ⟨wanted o4d, fun w => by
    have e1 : a4.eval (.tmp 3) = .pointer (some ⟨b2, 0, none⟩) := A4.ev.trans p2
    have e2 : a4.eval (.tmp 13) = .int .i64 i := A4.ev
    simp only [execOp, o4b, e1, e2, Sem.run_bind, run_idx tt_ok k27 (show (0 : Int) ≤ (i : Int) ∧ (i : Int) < (3 : Nat) by omega), Result.andThen_ok, Sem.run_pure]
    rw [show 0 + (i : Int).toNat * ex.size = i * 3 by show 0 + (i : Int).toNat * 3 = i * 3; simp]⟩) ?_
  rw [o4c]
  have A5 := A4.put (d := 14) (by omega) (.pointer (some ⟨b2, i * 3, none⟩))
  have s5 := s4.passed (d := 14) (v := .pointer (some ⟨b2, i * 3, none⟩)) ⟨by decide, fun q => (by cases q)⟩ rfl
  generalize a4.put (some 14) (.pointer (some ⟨b2, i * 3, none⟩)) = a5 at A5 s5 ⊢
  refine wpAny_take (i := 5) (v := .slice (some ⟨b2, i * 3, none⟩) 3 3) o5a (by kernel_rfl) (by kernel_rfl) (by kernel_rfl) (fun c a w h => hQ c _ _ _ w h) (.inl ⟨wanted o5d, fun w => by
    have e1 : a5.eval (.tmp 14) = .pointer (some ⟨b2, i * 3, none⟩) := A5.ev
    simp only [execOp, o5b, e1, Option.map_none, Sem.run_bind, run_cut tt_ok k22, Result.andThen_ok, Sem.run_pure]⟩) ?_
  rw [o5c]
  have A6 := A5.put (d := 15) (by omega) (.slice (some ⟨b2, i * 3, none⟩) 3 3)
  have s6 := s5.passed (d := 15) (v := .slice (some ⟨b2, i * 3, none⟩) 3 3) ⟨by decide, fun q => (by cases q)⟩ rfl
  generalize a5.put (some 15) (.slice (some ⟨b2, i * 3, none⟩) 3 3) = a6 at A6 s6 ⊢
  refine wpAny_all (rs := [6]) (by kernel_rfl) (by simp) fun j hj => ?_
  rw [List.mem_singleton] at hj; subst hj
  have e12 : a6.eval (.tmp 12) = .slice (some ⟨b1, i * 3, none⟩) 3 3 := A6.ev
  have e15 : a6.eval (.tmp 15) = .slice (some ⟨b2, i * 3, none⟩) 3 3 := A6.ev
  unfold wpOp
  simp only [o6a]
  rw [wanted o6d]
  refine .inl ?_
  unfold Oper.wp
  rw [run_enter2 o6b o6e (isF_ev o6f a6) o6g Try.func179 (by decide) rfl]
  simp only [Oper.upon]
  rw [e12, e15]
  refine (calls179 c1 c2).mono ?_
  rintro e w' ⟨rfl, rfl⟩
  show wpAny _ _ _ _ _ _ (a6.put o6.dst _) _
  rw [o6c, show sgn (65536 * mcell A i 0 + 256 * mcell A i 1 + mcell A i 2) (65536 * mcell B i 0 + 256 * mcell B i 1 + mcell B i 2) = sgn (rkM A i) (rkM B i) from rfl]
  generalize hr : sgn (rkM A i) (rkM B i) = r
  have hrw : (Lit.int .i64 r).wf = true := by
    rw [← hr]; unfold sgn; split
    · rfl
    · split <;> rfl
  have A7 := A6.put (d := 16) (by omega) (.int .i64 r)
  have s7 := s6.passed (d := 16) (v := .int .i64 r) ⟨by decide, fun q => (by cases q)⟩ rfl
  generalize a6.put (some 16) (.int .i64 r) = a7 at A7 s7 ⊢
  refine wpAny_take (i := 7) (v := .int .i64 r) o7a (by kernel_rfl) (by kernel_rfl) (by kernel_rfl) (fun c a w h => hQ c _ _ _ w h) (.inl ⟨wanted o7d, fun w => by simp only [execOp, o7b, show a7.eval (.tmp 16) = _ from A7.ev, Sem.run_pure]; rfl⟩) ?_
  rw [o7c]
  have s8 := s7.putA (d := 6) (v := .int .i64 r) ⟨by decide, fun q => (by cases q)⟩ (intE_sound hrw)
  refine wpAny_done (by kernel_rfl) (hk _ _ ?_) _
  rw [hr]
  exact s8.kill fun s => match s with
    | 0 | 1 | 2 | 3 | 4 | 6 | 7 => .inl rfl
    | 5 => .inr rfl
    | s + 8 => .inl rfl
theorem keyM_eq {A B : mat.den} (h : ∀ j, j < 3 → rkM A j = rkM B j) : cmpM A B = 0 := by
  unfold cmpM sgn keyM
  rw [h 0 (by omega), h 1 (by omega), h 2 (by omega)]
  simp
def okMc (g : mat.den) : Prop := ∀ i j, 0 ≤ mcell g i j ∧ mcell g i j ≤ 255
theorem rkM_rng {g : mat.den} (h : okMc g) (i : Nat) : 0 ≤ rkM g i ∧ rkM g i ≤ 16777215 := by
  have := h i 0; have := h i 1; have := h i 2; unfold rkM; omega
theorem keyM_at {A B : mat.den} (ha : okMc A) (hb : okMc B) {i : Nat} (hi : i < 3) (h : ∀ j, j < i → rkM A j = rkM B j) (hne : sgn (rkM A i) (rkM B i) ≠ 0) : cmpM A B = sgn (rkM A i) (rkM B i) := by
  have r0 := rkM_rng ha 0; have r1 := rkM_rng ha 1; have r2 := rkM_rng ha 2
  have t0 := rkM_rng hb 0; have t1 := rkM_rng hb 1; have t2 := rkM_rng hb 2
  have : i = 0 ∨ i = 1 ∨ i = 2 := by omega
  rcases this with rfl | rfl | rfl
  · unfold cmpM sgn keyM at *
    split at hne
    · rename_i q; rw [if_pos q, if_pos (by omega)]
    · split at hne
      · rename_i q q'; rw [if_neg q, if_pos q', if_neg (by omega), if_pos (by omega)]
      · exact absurd rfl hne
  · have e0 := h 0 (by omega)
    unfold cmpM sgn keyM at *
    split at hne
    · rename_i q; rw [if_pos q, if_pos (by omega)]
    · split at hne
      · rename_i q q'; rw [if_neg q, if_pos q', if_neg (by omega), if_pos (by omega)]
      · exact absurd rfl hne
  · have e0 := h 0 (by omega)
    have e1 := h 1 (by omega)
    unfold cmpM sgn keyM at *
    split at hne
    · rename_i q; rw [if_pos q, if_pos (by omega)]
    · split at hne
      · rename_i q q'; rw [if_neg q, if_pos q', if_neg (by omega), if_pos (by omega)]
      · exact absurd rfl hne
theorem sgn_zero {a b : Int} (h : sgn a b = 0) : a = b := by
  unfold sgn at h
  split at h
  · cases h
  · split at h
    · cases h
    · omega
open Classical in
noncomputable def cf162 : G162 := fun x => if okMc x.1 ∧ okMc x.2.1 then some (cmpM x.1 x.2.1, ()) else none
theorem k162 : KOne Try.prog 162 ⟨[.v mat, .v mat], [i64], false, false, 0, cf162⟩ := by
  refine ⟨fun _ => ?_, fun q => (by cases q), fun q => (by cases q), Try.f162, Try.func162, by decide, rfl⟩
  intro x y hxy w vs ba hv
  obtain ⟨A, B, _⟩ := x
  change mat.den at A
  change mat.den at B
  simp only [cf162] at hxy
  split at hxy
  case isFalse => cases hxy
  rename_i hc
  injection hxy with hxy; subst hxy
  obtain ⟨hA, hB⟩ := hc
  have st0 := init_St (n := 21) hv (by decide)
  rw [← nt162] at st0
  refine calls_of_wp Try.func162 sk162 (wp_seq ?_)
  rw [nt162] at st0 ⊢
  refine ev_wp (A := fun b => b ∈ ba) (ks := [2, 3]) mixed tt_ok KOK.nil (fun b hb => (by cases hb)) (oc162 0 (by simp)) trivial (e162a A B) st0 rfl fun a1 w1 g1 st1 A1 => ?_
  show Code.wp _ _ _ _ _
  refine wp_seq (wp_seq (ev_wp (A := fun b => b ∈ ba) (ks := [2, 3, 7]) mixed tt_ok KOK.nil (fun b hb => (by cases hb)) (oc162 1 (by simp)) trivial (e162b A B) st1 A1 fun a2 w2 g2 st2 A2 => ?_))
  show Code.wp _ _ _ _ _
  refine wp_block (wp_loop (fun a' w' => ∃ (i : Nat) (g : Gh), i ≤ 3 ∧ St ⟨21, false, undef⟩ w (fun _ => False) g (E162 A B i).get a' w' ∧ g.al = (fun b => b ∈ ba) ∧ ∀ j, j < i → rkM A j = rkM B j) (fun a' _ => match a'.tmps.getD 7 undef with | .int _ i => (3 - i).toNat | _ => 0) ⟨0, g2, by omega, st2, A2, fun j hj => by omega⟩ fun a3 w3 hI => ?_)
  obtain ⟨i, g3, hi, st3, A3, hr⟩ := hI
  have m3 : a3.tmps.getD 7 Go.undef = .int .i64 (i : Int) := (asI_inv (st3.ent 7) rfl).1
  rw [m3]
  refine wp_seq (ev_wp (A := fun b => b ∈ ba) (ks := [2, 3, 7, 8]) mixed tt_ok KOK.nil (fun b hb => (by cases hb)) (oc162 2 (by simp)) trivial (e162c A B i) st3 A3 fun a4 w4 g4 st4 A4 => ?_)
  show Code.wp _ _ _ _ _
  have t8 : a4.eval (.tmp 8) = .bool (decide ((i : Int) < 3)) := bool_at (st4.ent 8)
  refine wp_seq (wp_cond (t := decide ((i : Int) < 3)) t8 ?_)
  by_cases h3 : (i : Int) < 3
  · have h3' : i < 3 := by omega
    rw [decide_eq_true h3] at st4 ⊢
    refine wp_skip ?_
    show Code.wp _ _ _ _ _
    refine wp_seq (wp_block (wp_seq (ev_wp (A := fun b => b ∈ ba) (ks := [2, 3, 5, 7]) mixed tt_ok KOK.nil (fun b hb => (by cases hb)) (oc162 3 (by simp)) trivial (e162d A B i) st4 A4 fun a5 w5 g5 st5 A5 => ?_)))
    show Code.wp _ _ _ _ _
    refine wp_seq (reg162 h3' st5 (fun c a d v w h => by cases d <;> exact h) fun a6 w6 st6 => ?_)
    show Code.wp _ _ _ _ _
    refine wp_seq (ev_wp (A := fun b => b ∈ ba) (ks := [2, 3, 6, 7, 18]) mixed tt_ok KOK.nil (fun b hb => (by cases hb)) (oc162 5 (by simp)) trivial (e162e A B i (sgn (rkM A i) (rkM B i))) st6 A5 fun a7 w7 g7 st7 A7 => ?_)
    show Code.wp _ _ _ _ _
    have t18 : a7.eval (.tmp 18) = .bool (!decide (sgn (rkM A i) (rkM B i) = 0)) := bool_at (st7.ent 18)
    refine wp_cond (t := !decide (sgn (rkM A i) (rkM B i) = 0)) t18 ?_
    by_cases hz : sgn (rkM A i) (rkM B i) = 0
    · rw [decide_eq_true hz] at st7 ⊢
      refine wp_skip ?_
      show Code.wp _ _ _ _ _
      refine ev_wp (A := fun b => b ∈ ba) (ks := [2, 3, 7]) mixed tt_ok KOK.nil (fun b hb => (by cases hb)) (oc162 7 (by simp)) trivial (e162f A B i (sgn (rkM A i) (rkM B i))) st7 A7 fun a8 w8 g8 st8 A8 => ?_
      have hwr : IntKind.i64.wrap ((i : Int) + 1) = ((i + 1 : Nat) : Int) := by
        have : i = 0 ∨ i = 1 ∨ i = 2 := by omega
        rcases this with rfl | rfl | rfl <;> rfl
      rw [hwr] at st8
      have m8 : a8.tmps.getD 7 Go.undef = .int .i64 ((i + 1 : Nat) : Int) := (asI_inv (st8.ent 7) rfl).1
      refine ⟨⟨i + 1, g8, by omega, st8, A8, fun j hj => ?_⟩, ?_⟩
      · rcases Nat.lt_or_ge j i with q | q
        · exact hr j q
        · have : j = i := by omega
          subst this; exact sgn_zero hz
      · rw [m8]; simp only; omega
    · rw [decide_eq_false hz] at st7 ⊢
      have hres := keyM_at hA hB h3' hr hz
      rw [hres]
      exact evL_sound (T := TT) (K := []) (H := []) (LT := ([] : LTab R162)) (A := fun b => b ∈ ba) (W := fun _ => False) (y := (sgn (rkM A i) (rkM B i), ())) (kn := fun _ => none) (kx := fun _ _ => none) (kr := endK TT [.tmp 4] [i64] false false) mixed tt_ok KOK.nil (fun b hb => (by cases hb)) (by kernel_rfl) (by exact ⟨trivial, trivial⟩) (e162g A B i _) st7 A7
        (fun _ _ _ _ q => (by cases q)) (fun _ _ _ _ _ q => (by cases q)) (fun env' a' w' g' q1 q2 q3 => After_of (C := ⟨[.v mat, .v mat], [i64], false, false, 0, cf162⟩) tt_ok q2 q3 (by rw [rs162]; exact q1))
  · have h3' : i = 3 := by omega
    subst h3'
    rw [decide_eq_false h3] at st4 ⊢
    refine wp_exit ?_
    show Code.wp _ _ _ _ _
    rw [keyM_eq hr]
    exact evL_sound (T := TT) (K := []) (H := []) (LT := ([] : LTab R162)) (A := fun b => b ∈ ba) (W := fun _ => False) (y := ((0 : Int), ())) (kn := endK TT [.tmp 4] [i64] false false) (kx := fun _ _ => none) (kr := endK TT [.tmp 4] [i64] false false) mixed tt_ok KOK.nil (fun b hb => (by cases hb)) (by kernel_rfl) (by exact ⟨trivial, trivial⟩) (e162h A B _) st4 A4
      (fun env' a' w' g' q1 q2 q3 => After_of (C := ⟨[.v mat, .v mat], [i64], false, false, 0, cf162⟩) tt_ok q2 q3 (by rw [rs162]; exact q1)) (fun _ _ _ _ _ q => (by cases q)) (fun env' a' w' g' q1 q2 q3 => After_of (C := ⟨[.v mat, .v mat], [i64], false, false, 0, cf162⟩) tt_ok q2 q3 (by rw [rs162]; exact q1))
end Go.Proofs.YtkoifikjfnbcpaaEv
