/- What the functions of matrices compute: entries, determinants, and whether a matrix is one. -/
import Derived.Test.YtkoifikjfnbcpaaEvPC
import Derived.Test.YtkoifikjfnbcpaaEvInv
import Derived.Test.YtkoifikjfnbcpaaEvMD
set_option linter.unusedVariables false
set_option linter.unusedSimpArgs false
namespace Go.Proofs.YtkoifikjfnbcpaaEv
open Go Go.RowKit

abbrev Mat : Type := mat.den
def me (g : Mat) (i j : Nat) : Int := tget (0 : Int) 3 (tget (Ty.dflt (.arr 3 (.int .u8))) 3 g i) j
def okM (g : Mat) : Bool := okV mat g
theorem kwf_u8 {x : Int} (h : kwf .u8 x = true) : 0 ≤ x ∧ x ≤ 255 := by
  simpa [kwf, IntKind.min, IntKind.max, IntKind.bits, IntKind.signed] using h
theorem me_rng {g : Mat} (h : okM g = true) (i j : Nat) : 0 ≤ me g i j ∧ me g i j ≤ 255 := by
  obtain ⟨⟨a, b, c, _⟩, ⟨d, e, f, _⟩, ⟨x, y, z, _⟩, _⟩ := g
  simp only [okM, okV, okV.okT, Bool.and_eq_true, and_true] at h
  obtain ⟨⟨h1, h2, h3⟩, ⟨h4, h5, h6⟩, h7, h8, h9⟩ := h
  have h1 := kwf_u8 h1
  have h2 := kwf_u8 h2
  have h3 := kwf_u8 h3
  have h4 := kwf_u8 h4
  have h5 := kwf_u8 h5
  have h6 := kwf_u8 h6
  have h7 := kwf_u8 h7
  have h8 := kwf_u8 h8
  have h9 := kwf_u8 h9
  have z0 : (0 : Int) ≤ 0 ∧ (0 : Int) ≤ 255 := by omega
  rcases i with _ | _ | _ | i <;> rcases j with _ | _ | _ | j <;> first | exact h1 | exact h2 | exact h3 | exact h4 | exact h5 | exact h6 | exact h7 | exact h8 | exact h9 | exact z0

def cf60 : Args [.v ex] → Option R60 := fun x => some (x.1, ())
theorem k60 : KOne Try.prog 60 ⟨[.v ex], [ex], false, false, 0, cf60⟩ := ok60 .nil cf60 fun x y h => by
  obtain ⟨⟨a, b, c, _⟩, _⟩ := x
  injection h with h; subst h
  exact ⟨5, rfl⟩
def cf16 : Args [.v mat] → Option R16 := fun x => some (x.1, ())
theorem k16 : KOne Try.prog 16 ⟨[.v mat], [mat], false, false, 0, cf16⟩ := ok16 _ (.cons k60 .nil) cf16 fun x y h => by
  obtain ⟨⟨⟨a, b, c, _⟩, ⟨d, e, f, _⟩, ⟨u, v, z, _⟩, _⟩, _⟩ := x
  injection h with h; subst h
  exact ⟨5, rfl⟩

def cf166 : Args [.v i64, .v i64, .p mat] → Option R166 := fn166 0
theorem k166 : KOne Try.prog 166 ⟨[.v i64, .v i64, .p mat], [i64], false, false, 0, cf166⟩ := ok166 .nil cf166 fun x y h => ⟨0, h⟩
theorem g166_ok {g : Mat} (hg : okM g = true) {i j : Int} (hi : 0 ≤ i ∧ i < 3) (hj : 0 ≤ j ∧ j < 3) : cf166 (i, j, g, ()) = some (me g (tn i) (tn j), ()) := by
  have h := me_rng hg (tn i) (tn j)
  simp only [me] at h ⊢
  simp (disch := omega) only [cf166, fn166, ib_t, ofn, cond_true, w6_id]
theorem by2 {x y : Int} (h1 : 0 ≤ x ∧ x ≤ 255) (h2 : 0 ≤ y ∧ y ≤ 255) : 0 ≤ x * y ∧ x * y ≤ 65025 := by
  have := mul_rng (c := 256) (d := 256) h1.1 (by omega) h2.1 (by omega)
  refine ⟨this.1, ?_⟩
  have : x * y ≤ 255 * y := Int.mul_le_mul_of_nonneg_right h1.2 h2.1
  omega
theorem by3 {x y : Int} (h1 : 0 ≤ x ∧ x ≤ 255) (h2 : -65025 ≤ y ∧ y ≤ 65025) : -16581375 ≤ x * y ∧ x * y ≤ 16581375 := by
  have a : x * y ≤ x * 65025 := Int.mul_le_mul_of_nonneg_left h2.2 h1.1
  have b : x * (-65025) ≤ x * y := Int.mul_le_mul_of_nonneg_left h2.1 h1.1
  omega

def cf133 : Args [.v i64, .v i64, .v mat] → Option R133 := fn133 cf166 0
theorem k133 : KOne Try.prog 133 ⟨[.v i64, .v i64, .v mat], [i64], false, false, 0, cf133⟩ := ok133 _ (.cons k166 .nil) cf133 fun x y h => ⟨0, h⟩
theorem g133_ok {p n : Int} {g : Mat} (hg : okM g = true) (hp : 2 ≤ p ∧ p ≤ 13) (hn : n = 1 ∨ n = 2 ∨ n = 3) : cf133 (p, n, g, ()) = some (detN (tn n) (me g) % p, ()) := by
  have r := me_rng hg
  have G := fun i j hi hj => g166_ok (g := g) (i := i) (j := j) hg hi hj
  have m := fun (x : Int) => tmod_md (p := p) (x := x) (by omega)
  rcases hn with rfl | rfl | rfl
  · have := r 0 0
    simp (disch := omega) only [cf133, fn133, G, deq_f, Bool.not_false, cond_true, cond_false]
    have z := m (me g (tn 0) (tn 0))
    rw [w6_id (by omega) (by omega), z.1]; rfl
  · have a := by2 (r 0 0) (r 1 1)
    have b := by2 (r 0 1) (r 1 0)
    simp (disch := omega) only [cf133, fn133, G, deq_f, deq_t, decide_true, Bool.not_false, cond_true, cond_false]
    rw [show tn 0 = 0 from rfl, show tn 1 = 1 from rfl]
    have z := m (me g 0 0 * me g 1 1 - me g 0 1 * me g 1 0)
    simp (disch := omega) only [w6_id, z.1]
    rfl
  · have a := by2 (r 1 1) (r 2 2)
    have b := by2 (r 1 2) (r 2 1)
    have c := by2 (r 1 0) (r 2 2)
    have d := by2 (r 1 2) (r 2 0)
    have e := by2 (r 1 0) (r 2 1)
    have f := by2 (r 1 1) (r 2 0)
    have a1 := by3 (r 0 0) (y := me g 1 1 * me g 2 2 - me g 1 2 * me g 2 1) (by omega)
    have a2 := by3 (r 0 1) (y := me g 1 0 * me g 2 2 - me g 1 2 * me g 2 0) (by omega)
    have a3 := by3 (r 0 2) (y := me g 1 0 * me g 2 1 - me g 1 1 * me g 2 0) (by omega)
    simp (disch := omega) only [cf133, fn133, G, deq_f, deq_t, decide_true, Bool.not_false, cond_true, cond_false]
    rw [show tn 0 = 0 from rfl, show tn 1 = 1 from rfl, show tn 2 = 2 from rfl]
    have z := m (me g 0 0 * (me g 1 1 * me g 2 2 - me g 1 2 * me g 2 1) - me g 0 1 * (me g 1 0 * me g 2 2 - me g 1 2 * me g 2 0) + me g 0 2 * (me g 1 0 * me g 2 1 - me g 1 1 * me g 2 0))
    simp (disch := omega) only [w6_id, z.1]
    rfl

/-! ### the range of the entries -/
def cellB (p n i j v : Int) : Bool := decide (v < p) && ((decide (i < n) && decide (j < n)) || decide (v = 0))
def rowB (p n : Int) (g : Mat) (i : Nat) : Bool := cellB p n i 0 (me g i 0) && (cellB p n i 1 (me g i 1) && cellB p n i 2 (me g i 2))
def rngB (p n : Int) (g : Mat) : Bool := rowB p n g 0 && (rowB p n g 1 && rowB p n g 2)
theorem step58 {p n i j : Int} {g : Mat} (hg : okM g = true) (hi : 0 ≤ i ∧ i < 3) (hj : 0 ≤ j ∧ j < 3) {g82 : Args [.v i64] → Option (Ress [.bool])} {g73 : Args [.v i64, .v i64, .v i64] → Option (Ress [.bool])} {g129 : Args [.v i64, .v i64, .v mat] → Option (Ress [mat, .bool])} {F : Nat} {k kx : ShVal sh58_7 → Option R58} :
    st58_7 g82 g73 g129 F ((p, ()), ((n, ()), ((g, ()), ((i, ()), ((j, ()), ()))))) k kx = bif cellB p n i j (me g (tn i) (tn j)) then k ((p, ()), ((n, ()), ((g, ()), ((i, ()), ((j + 1, ()), ()))))) else some (false, ()) := by
  have r := me_rng hg (tn i) (tn j)
  simp (disch := omega) only [st58_7, dlt_t, cond_true, ib_t, ofn, w6_id (x := j + 1)]
  rw [show tget (0 : Int) 3 (tget (Ty.dflt (.arr 3 (.int .u8))) 3 g (tn i)) (tn j) = me g (tn i) (tn j) from rfl]
  rw [w6_id (by omega) (by omega)]
  generalize me g (tn i) (tn j) = v at *
  unfold cellB
  by_cases h1 : p ≤ v
  · rw [decide_eq_true h1, decide_eq_false (show ¬ v < p by omega)]; rfl
  · rw [decide_eq_false h1, decide_eq_true (show v < p by omega)]
    by_cases h2 : n ≤ i
    · rw [decide_eq_true h2, decide_eq_false (show ¬ i < n by omega)]
      by_cases h4 : v = 0
      · rw [decide_eq_true h4]; rfl
      · rw [decide_eq_false h4]; rfl
    · rw [decide_eq_false h2, decide_eq_true (show i < n by omega)]
      by_cases h3 : n ≤ j
      · rw [decide_eq_true h3, decide_eq_false (show ¬ j < n by omega)]
        by_cases h4 : v = 0
        · rw [decide_eq_true h4]; rfl
        · rw [decide_eq_false h4]; rfl
      · rw [decide_eq_false h3, decide_eq_true (show j < n by omega)]; rfl
theorem row58 {p n i : Int} {g : Mat} (hg : okM g = true) (hi : 0 ≤ i ∧ i < 3) {g82 : Args [.v i64] → Option (Ress [.bool])} {g73 : Args [.v i64, .v i64, .v i64] → Option (Ress [.bool])} {g129 : Args [.v i64, .v i64, .v mat] → Option (Ress [mat, .bool])} {F0 F : Nat} {kx : ShVal sh58_7 → Option R58} :
    iter (fun s k => st58_7 g82 g73 g129 F0 s k kx) (F + 4) ((p, ()), ((n, ()), ((g, ()), ((i, ()), (((0 : Int), ()), ()))))) = bif rowB p n g (tn i) then kx ((p, ()), ((n, ()), ((g, ()), ((i, ()), (((3 : Int), ()), ()))))) else some (false, ()) := by
  have hi' : ((tn i : Nat) : Int) = i := Int.toNat_of_nonneg hi.1
  simp only [iter]
  rw [step58 hg hi (by omega)]
  simp only [iter]
  rw [step58 hg hi (by omega)]
  simp only [iter]
  rw [step58 hg hi (by omega)]
  unfold rowB
  rw [hi']
  simp only [show ((0 : Int) + 1) = 1 from rfl, show ((1 : Int) + 1) = 2 from rfl, show ((2 : Int) + 1) = 3 from rfl, show tn 0 = 0 from rfl, show tn 1 = 1 from rfl, show tn 2 = 2 from rfl]
  cases cellB p n i 0 (me g (tn i) 0) with
  | false => rfl
  | true =>
    cases cellB p n i 1 (me g (tn i) 1) with
    | false => rfl
    | true =>
      cases cellB p n i 2 (me g (tn i) 2) with
      | false => rfl
      | true => simp (disch := omega) only [cond_true, Bool.and_self, st58_7, dlt_f, cond_false]
theorem loop58 {p n : Int} {g : Mat} (hg : okM g = true) {g82 : Args [.v i64] → Option (Ress [.bool])} {g73 : Args [.v i64, .v i64, .v i64] → Option (Ress [.bool])} {g129 : Args [.v i64, .v i64, .v mat] → Option (Ress [mat, .bool])} {F : Nat} {kx : ShVal sh58_4 → Option R58} :
    iter (fun s k => st58_4 g82 g73 g129 (F + 4) s k kx) (F + 4) ((p, ()), ((n, ()), ((g, ()), (((0 : Int), ()), ())))) = bif rngB p n g then kx ((p, ()), ((n, ()), ((g, ()), (((3 : Int), ()), ())))) else some (false, ()) := by
  have one : ∀ (i : Int) (hi : 0 ≤ i ∧ i < 3) (k : ShVal sh58_4 → Option R58), st58_4 g82 g73 g129 (F + 4) ((p, ()), ((n, ()), ((g, ()), ((i, ()), ())))) k kx = bif rowB p n g (tn i) then k ((p, ()), ((n, ()), ((g, ()), ((i + 1, ()), ())))) else some (false, ()) := by
    intro i hi k
    simp (disch := omega) only [st58_4, dlt_t, cond_true, ru58_7]
    rw [row58 hg hi]
    simp (disch := omega) only [w6_id]
  simp only [iter]
  rw [one 0 (by omega)]
  simp only [iter]
  rw [one _ (by omega)]
  simp only [iter]
  rw [one _ (by omega)]
  unfold rngB
  simp only [show ((0 : Int) + 1) = 1 from rfl, show ((1 : Int) + 1) = 2 from rfl, show ((2 : Int) + 1) = 3 from rfl, show tn 0 = 0 from rfl, show tn 1 = 1 from rfl, show tn 2 = 2 from rfl]
  cases rowB p n g 0 with
  | false => rfl
  | true =>
    cases rowB p n g 1 with
    | false => rfl
    | true =>
      cases rowB p n g 2 with
      | false => rfl
      | true => simp (disch := omega) only [cond_true, Bool.and_self, st58_4, dlt_f, cond_false]

theorem step131 {p n i j : Int} {g : Mat} (hg : okM g = true) (hi : 0 ≤ i ∧ i < 3) (hj : 0 ≤ j ∧ j < 3) {g86 : Args [.v i64] → Option (Ress [.bool])} {g87 : Args [.v i64] → Option (Ress [.bool])} {g133 : Args [.v i64, .v i64, .v mat] → Option (Ress [i64])} {F : Nat} {i' : Int} {k kx : ShVal sh131_7 → Option R131} :
    st131_7 g86 g87 g133 F ((p, ()), ((n, ()), ((g, ()), ((i, ()), ((i', ()), ((j, ()), ())))))) k kx = bif cellB p n i j (me g (tn i) (tn j)) then k ((p, ()), ((n, ()), ((g, ()), ((i, ()), ((i', ()), ((j + 1, ()), ())))))) else some (false, ()) := by
  have r := me_rng hg (tn i) (tn j)
  simp (disch := omega) only [st131_7, dlt_t, cond_true, ib_t, ofn, w6_id (x := j + 1)]
  rw [show tget (0 : Int) 3 (tget (Ty.dflt (.arr 3 (.int .u8))) 3 g (tn i)) (tn j) = me g (tn i) (tn j) from rfl]
  rw [w6_id (by omega) (by omega)]
  generalize me g (tn i) (tn j) = v at *
  unfold cellB
  by_cases h1 : p ≤ v
  · rw [decide_eq_true h1, decide_eq_false (show ¬ v < p by omega)]; rfl
  · rw [decide_eq_false h1, decide_eq_true (show v < p by omega)]
    by_cases h2 : n ≤ i
    · rw [decide_eq_true h2, decide_eq_false (show ¬ i < n by omega)]
      by_cases h4 : v = 0
      · rw [decide_eq_true h4]; rfl
      · rw [decide_eq_false h4]; rfl
    · rw [decide_eq_false h2, decide_eq_true (show i < n by omega)]
      by_cases h3 : n ≤ j
      · rw [decide_eq_true h3, decide_eq_false (show ¬ j < n by omega)]
        by_cases h4 : v = 0
        · rw [decide_eq_true h4]; rfl
        · rw [decide_eq_false h4]; rfl
      · rw [decide_eq_false h3, decide_eq_true (show j < n by omega)]; rfl
theorem row131 {p n i : Int} {g : Mat} (hg : okM g = true) (hi : 0 ≤ i ∧ i < 3) {g86 : Args [.v i64] → Option (Ress [.bool])} {g87 : Args [.v i64] → Option (Ress [.bool])} {g133 : Args [.v i64, .v i64, .v mat] → Option (Ress [i64])} {F0 F : Nat} {i' : Int} {kx : ShVal sh131_7 → Option R131} :
    iter (fun s k => st131_7 g86 g87 g133 F0 s k kx) (F + 4) ((p, ()), ((n, ()), ((g, ()), ((i, ()), ((i', ()), (((0 : Int), ()), ())))))) = bif rowB p n g (tn i) then kx ((p, ()), ((n, ()), ((g, ()), ((i, ()), ((i', ()), (((3 : Int), ()), ())))))) else some (false, ()) := by
  have hi' : ((tn i : Nat) : Int) = i := Int.toNat_of_nonneg hi.1
  simp only [iter]
  rw [step131 hg hi (by omega)]
  simp only [iter]
  rw [step131 hg hi (by omega)]
  simp only [iter]
  rw [step131 hg hi (by omega)]
  unfold rowB
  rw [hi']
  simp only [show ((0 : Int) + 1) = 1 from rfl, show ((1 : Int) + 1) = 2 from rfl, show ((2 : Int) + 1) = 3 from rfl, show tn 0 = 0 from rfl, show tn 1 = 1 from rfl, show tn 2 = 2 from rfl]
  cases cellB p n i 0 (me g (tn i) 0) with
  | false => rfl
  | true =>
    cases cellB p n i 1 (me g (tn i) 1) with
    | false => rfl
    | true =>
      cases cellB p n i 2 (me g (tn i) 2) with
      | false => rfl
      | true => simp (disch := omega) only [cond_true, Bool.and_self, st131_7, dlt_f, cond_false]
theorem loop131 {p n : Int} {g : Mat} (hg : okM g = true) {g86 : Args [.v i64] → Option (Ress [.bool])} {g87 : Args [.v i64] → Option (Ress [.bool])} {g133 : Args [.v i64, .v i64, .v mat] → Option (Ress [i64])} {F : Nat} {kx : ShVal sh131_4 → Option R131} :
    iter (fun s k => st131_4 g86 g87 g133 (F + 4) s k kx) (F + 4) ((p, ()), ((n, ()), ((g, ()), (((0 : Int), ()), ())))) = bif rngB p n g then kx ((p, ()), ((n, ()), ((g, ()), (((3 : Int), ()), ())))) else some (false, ()) := by
  have one : ∀ (i : Int) (hi : 0 ≤ i ∧ i < 3) (k : ShVal sh131_4 → Option R131), st131_4 g86 g87 g133 (F + 4) ((p, ()), ((n, ()), ((g, ()), ((i, ()), ())))) k kx = bif rowB p n g (tn i) then k ((p, ()), ((n, ()), ((g, ()), ((i + 1, ()), ())))) else some (false, ()) := by
    intro i hi k
    simp (disch := omega) only [st131_4, dlt_t, cond_true, ru131_7]
    rw [row131 hg hi]
    simp (disch := omega) only [w6_id]
  simp only [iter]
  rw [one 0 (by omega)]
  simp only [iter]
  rw [one _ (by omega)]
  simp only [iter]
  rw [one _ (by omega)]
  unfold rngB
  simp only [show ((0 : Int) + 1) = 1 from rfl, show ((1 : Int) + 1) = 2 from rfl, show ((2 : Int) + 1) = 3 from rfl, show tn 0 = 0 from rfl, show tn 1 = 1 from rfl, show tn 2 = 2 from rfl]
  cases rowB p n g 0 with
  | false => rfl
  | true =>
    cases rowB p n g 1 with
    | false => rfl
    | true =>
      cases rowB p n g 2 with
      | false => rfl
      | true => simp (disch := omega) only [cond_true, Bool.and_self, st131_4, dlt_f, cond_false]

/-- Whether g is a matrix. -/
def inR (n : Int) : Bool := decide (1 ≤ n) && decide (n ≤ 3)
theorem inR_cases {n : Int} (h : inR n = true) : n = 1 ∨ n = 2 ∨ n = 3 := by
  simp [inR] at h; omega
def matB (p n : Int) (g : Mat) : Bool := isP p && (inR n && (rngB p n g && !decide (detN (tn n) (me g) % p = 0)))

def cf131 : Args [.v i64, .v i64, .v mat] → Option R131 := fn131 cf82 cf87 cf133 6
theorem k131 : KOne Try.prog 131 ⟨[.v i64, .v i64, .v mat], [.bool], false, false, 0, cf131⟩ := ok131 _ _ _ (.cons k86 (.cons k87 (.cons k133 .nil))) cf131 fun x y h => ⟨6, h⟩
theorem g131_ok {p n : Int} {g : Mat} (hg : okM g = true) : cf131 (p, n, g, ()) = some (matB p n g, ()) := by
  simp only [cf131, fn131]
  rw [show cf82 (p, ()) = some (isP p, ()) from rfl, show cf87 (n, ()) = some (inR n, ()) from rfl]
  simp only
  unfold matB
  cases hP : isP p with
  | false => rfl
  | true =>
    cases hR : inR n with
    | false => rfl
    | true =>
      simp only [Bool.not_true, cond_false, Bool.true_and]
      rw [show ru131_4 cf82 cf87 cf133 6 = fun s kx => iter (fun s k => st131_4 cf82 cf87 cf133 (2 + 4) s k kx) (2 + 4) s from rfl]
      simp only
      rw [loop131 hg]
      cases rngB p n g with
      | false => rfl
      | true =>
        simp only [cond_true]
        rw [g133_ok hg (isP_pos hP) (inR_cases hR)]
        rfl

end Go.Proofs.YtkoifikjfnbcpaaEv
