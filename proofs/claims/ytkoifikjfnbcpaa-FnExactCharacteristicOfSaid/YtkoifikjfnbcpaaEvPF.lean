/- The test of a matrix, and the characteristic polynomials. -/
import Derived.Test.YtkoifikjfnbcpaaEvPE
set_option linter.unusedVariables false
set_option linter.unusedSimpArgs false
namespace Go.Proofs.YtkoifikjfnbcpaaEv
open Go Go.RowKit

noncomputable def cf58 : Args [.v i64, .v i64, .v mat] → Option R58 := fn58 cf82 cf73 cf129 6
theorem k58 : KOne Try.prog 58 ⟨[.v i64, .v i64, .v mat], [.bool], false, false, false, cf58⟩ := ok58 _ _ _ (.cons k82 (.cons k73 (.cons k129 .nil))) cf58 fun x y h => ⟨6, h⟩
theorem g58_ok {p n : Int} {g : Mat} (hg : okM g = true) : cf58 (p, n, g, ()) = some (matB p n g, ()) := by
  simp only [cf58, fn58]
  rw [show cf82 (p, ()) = some (isP p, ()) from rfl, show cf73 (n, (1 : Int), (3 : Int), ()) = some (inR n, ()) from rfl]
  simp only
  unfold matB
  cases hP : isP p with
  | false => rfl
  | true =>
    cases hR : inR n with
    | false => rfl
    | true =>
      simp only [Bool.not_true, cond_false, Bool.true_and]
      rw [show ru58_4 cf82 cf73 cf129 6 = fun s kx => iter (fun s k => st58_4 cf82 cf73 cf129 (2 + 4) s k kx) (2 + 4) s from rfl]
      simp only
      rw [loop58 hg]
      cases hr : rngB p n g with
      | false => rfl
      | true =>
        simp only [cond_true]
        obtain ⟨M, hM⟩ := g129_ok hg hP (inR_cases hR) hr
        rw [hM]
        rfl

def c61 (p n : Int) (l : List Mat) : Option (Bool × Unit) := if l.length ≤ 1000000 ∧ l.all okM = true then some (l.all (matB p n) && (isP p && inR n), ()) else none
def cf61 : Args [.v i64, .v i64, .v (.slice 27 mat)] → Option R61 := fun x => c61 x.1 x.2.1 x.2.2.1
theorem all_split {l : List Mat} {f : Mat → Bool} {i : Nat} (hi : i < l.length) : (l.drop i).all f = (f l[i] && (l.drop (i + 1)).all f) := by
  rw [List.drop_eq_getElem_cons hi, List.all_cons]
theorem run61 {p n : Int} {l : List Mat} (hl : l.length ≤ 1000000) (ho : l.all okM = true) : fn61 cf131 cf87 cf82 (l.length + 1) (p, n, l, ()) = some (l.all (matB p n) && (isP p && inR n), ()) := by
  simp (disch := omega) only [fn61, dln_t, cond_true, ru61_2]
  have main : ∀ (k i F : Nat), i + k = l.length → k < F → iter (fun s k => st61_2 cf131 cf87 cf82 (l.length + 1) s k (fun s' => match s' with | ((t0, _), (t1, _), (t9, _), (t10, _), (t11, _), _) => (match (cf82 (t0, ())) with | some r14 => (bif r14.1 then (match (cf87 (t1, ())) with | some r15 => (some ((bif true then r15.1 else false), ())) | none => none) else (some (false, ()))) | none => none))) F ((p, ()), ((n, ()), ((l, ()), (((l.length : Nat) : Int), ()), (((i : Nat) : Int), ()), ()))) =
      some ((l.drop i).all (matB p n) && (isP p && inR n), ()) := by
    intro k
    induction k with
    | zero =>
      intro i F hi hF
      obtain ⟨F, rfl⟩ : ∃ f, F = f + 1 := ⟨F - 1, by omega⟩
      rw [iter_succ]
      simp (disch := omega) only [st61_2, dlt_f, cond_false]
      rw [List.drop_eq_nil_of_le (by omega)]
      simp only [List.all_nil, Bool.true_and]
      rw [show cf82 (p, ()) = some (isP p, ()) from rfl, show cf87 (n, ()) = some (inR n, ()) from rfl]
      cases isP p <;> rfl
    | succ k ih =>
      intro i F hi hF
      obtain ⟨F, rfl⟩ : ∃ f, F = f + 1 := ⟨F - 1, by omega⟩
      have hil : i < l.length := by omega
      have e : l.getD i (Ty.dflt (.arr 3 (.arr 3 (.int .u8)))) = l[i] := by simp [List.getD_eq_getElem?_getD, List.getElem?_eq_getElem hil]
      have g1 := g131_ok (p := p) (n := n) (List.all_eq_true.1 ho _ (List.getElem_mem hil))
      rw [iter_succ, all_split hil]
      have ih := ih (i + 1) F (by omega) (by omega)
      generalize iter _ F = G at ih ⊢
      simp (disch := omega) only [st61_2, dlt_t, cond_true, ib_t, ofn, tn_cast, e, g1]
      cases matB p n l[i] with
      | false => rfl
      | true =>
        simp (disch := omega) only [Bool.not_true, cond_false, w6_id, Bool.true_and]
        exact ih
  exact main l.length 0 (l.length + 1) (by omega) (by omega)
theorem k61 : KOne Try.prog 61 ⟨[.v i64, .v i64, .v (.slice 27 mat)], [.bool], false, false, false, cf61⟩ := ok61 _ _ _ (.cons k131 (.cons k87 (.cons k86 .nil))) cf61 fun x y h => by
  obtain ⟨p, n, l, _⟩ := x
  simp only [cf61, c61] at h
  split at h
  · rename_i hc
    injection h with h; subst h
    exact ⟨_, run61 hc.1 hc.2⟩
  · cases h
theorem g61_ok {p n : Int} {g : Mat} (hg : okM g = true) : cf61 (p, n, [g], ()) = some (matB p n g, ()) := by
  have : cf61 (p, n, [g], ()) = some ([g].all (matB p n) && (isP p && inR n), ()) := if_pos ⟨by simp, by simp [hg]⟩
  rw [this]
  simp only [List.all_cons, List.all_nil, Bool.and_true]
  unfold matB
  cases isP p <;> cases inR n <;> simp

/-! ### the characteristic polynomial -/
def tr1 (t x : Int) : Int := w6 (t + w6 x)
def mn1 (t a d b c : Int) : Int := w6 (w6 (t + w6 (w6 a * w6 d)) - w6 (w6 b * w6 c))
def mn2 (t a d b c : Int) : Int := w6 (t + w6 (w6 (w6 a * w6 d) - w6 (w6 b * w6 c)))
def sd1 (s a b c d e : Int) : Int := w6 (s + w6 (w6 a * w6 (w6 (w6 b * w6 c) - w6 (w6 d * w6 e))))
theorem tr1_ok {t x : Int} (ht : -1000000 ≤ t ∧ t ≤ 1000000) (hx : 0 ≤ x ∧ x ≤ 255) : tr1 t x = t + x := by
  unfold tr1; simp (disch := omega) only [w6_id]
theorem mn1_ok {t a b c d : Int} (ht : -1000000 ≤ t ∧ t ≤ 1000000) (ha : 0 ≤ a ∧ a ≤ 255) (hb : 0 ≤ b ∧ b ≤ 255) (hc : 0 ≤ c ∧ c ≤ 255) (hd : 0 ≤ d ∧ d ≤ 255) : mn1 t a d b c = t + a * d - b * c := by
  have h1 := by2 ha hd
  have h2 := by2 hb hc
  unfold mn1; simp (disch := omega) only [w6_id]
theorem mn2_ok {t a b c d : Int} (ht : -1000000 ≤ t ∧ t ≤ 1000000) (ha : 0 ≤ a ∧ a ≤ 255) (hb : 0 ≤ b ∧ b ≤ 255) (hc : 0 ≤ c ∧ c ≤ 255) (hd : 0 ≤ d ∧ d ≤ 255) : mn2 t a d b c = t + (a * d - b * c) := by
  have h1 := by2 ha hd
  have h2 := by2 hb hc
  unfold mn2; simp (disch := omega) only [w6_id]
theorem sd1_ok {s a b c d e : Int} (hs : -100000000 ≤ s ∧ s ≤ 100000000) (ha : 0 ≤ a ∧ a ≤ 255) (hb : 0 ≤ b ∧ b ≤ 255) (hc : 0 ≤ c ∧ c ≤ 255) (hd : 0 ≤ d ∧ d ≤ 255) (he : 0 ≤ e ∧ e ≤ 255) : sd1 s a b c d e = s + a * (b * c - d * e) ∧ -16581375 ≤ a * (b * c - d * e) ∧ a * (b * c - d * e) ≤ 16581375 := by
  have h1 := by2 hb hc
  have h2 := by2 hd he
  have h3 := by3 ha (y := b * c - d * e) (by omega)
  refine ⟨?_, h3⟩
  unfold sd1; simp (disch := omega) only [w6_id]

def cf130 : Args [.v i64, .v i64, .v mat] → Option R130 := fn130 cf74 8
theorem k130 : KOne Try.prog 130 ⟨[.v i64, .v i64, .v mat], [i64], false, false, false, cf130⟩ := ok130 _ (.cons k74 .nil) cf130 fun x y h => ⟨8, h⟩
theorem e130 (g74 : Args [.v i64, .v i64] → Option (Ress [i64])) (p : Int) (g : Mat) : fn130 g74 8 (p, (3 : Int), g, ()) = (match g74 (p, sd1 (sd1 (sd1 0 (me g 0 0) (me g 1 1) (me g 2 2) (me g 1 2) (me g 2 1)) (me g 0 1) (me g 1 2) (me g 2 0) (me g 1 0) (me g 2 2)) (me g 0 2) (me g 1 0) (me g 2 1) (me g 1 1) (me g 2 0), ()) with | some r => some (r.1, ()) | none => none) := by kernel_rfl
theorem g130_ok {p : Int} {g : Mat} (hg : okM g = true) (hp : 2 ≤ p ∧ p ≤ 13) : cf130 (p, (3 : Int), g, ()) = some (detN 3 (me g) % p, ()) := by
  have r := me_rng hg
  obtain ⟨s1, s2⟩ := sd1_ok (s := 0) (by omega) (r 0 0) (r 1 1) (r 2 2) (r 1 2) (r 2 1)
  obtain ⟨s3, s4⟩ := sd1_ok (s := 0 + me g 0 0 * (me g 1 1 * me g 2 2 - me g 1 2 * me g 2 1)) (by omega) (r 0 1) (r 1 2) (r 2 0) (r 1 0) (r 2 2)
  obtain ⟨s5, s6⟩ := sd1_ok (s := 0 + me g 0 0 * (me g 1 1 * me g 2 2 - me g 1 2 * me g 2 1) + me g 0 1 * (me g 1 2 * me g 2 0 - me g 1 0 * me g 2 2)) (by omega) (r 0 2) (r 1 0) (r 2 1) (r 1 1) (r 2 0)
  rw [cf130, e130, s1, s3, s5, g74_ok (by omega)]
  simp only [detN, det3]
  rw [show ((0 : Int) + me g 0 0 * (me g 1 1 * me g 2 2 - me g 1 2 * me g 2 1) + me g 0 1 * (me g 1 2 * me g 2 0 - me g 1 0 * me g 2 2) + me g 0 2 * (me g 1 0 * me g 2 1 - me g 1 1 * me g 2 0)) = me g 0 0 * (me g 1 1 * me g 2 2 - me g 1 2 * me g 2 1) - me g 0 1 * (me g 1 0 * me g 2 2 - me g 1 2 * me g 2 0) + me g 0 2 * (me g 1 0 * me g 2 1 - me g 1 1 * me g 2 0) by grind]
  rfl

def trI (n : Int) (g : Mat) : Int := if n = 1 then me g 0 0 else if n = 2 then me g 0 0 + me g 1 1 else me g 0 0 + me g 1 1 + me g 2 2
def miI (n : Int) (g : Mat) : Int := if n = 2 then me g 0 0 * me g 1 1 - me g 0 1 * me g 1 0 else me g 0 0 * me g 1 1 - me g 0 1 * me g 1 0 + (me g 0 0 * me g 2 2 - me g 0 2 * me g 2 0) + (me g 1 1 * me g 2 2 - me g 1 2 * me g 2 1)
def charL (p n : Int) (g : Mat) : List Int :=
  if n = 1 then [1, (-(trI n g)) % p] else if n = 2 then [1, (-(trI n g)) % p, miI n g % p] else [1, (-(trI n g)) % p, miI n g % p, (-(detN 3 (me g) % p)) % p]

def cf59 : Args [.v i64, .v i64, .v mat] → Option R59 := fn59 cf74 cf130 8
theorem k59 : KOne Try.prog 59 ⟨[.v i64, .v i64, .v mat], [.slice 2 i64], true, true, false, cf59⟩ := ok59 _ _ (.cons k74 (.cons k130 .nil)) cf59 fun x y h => ⟨8, h⟩
theorem e59_1 (g74 : Args [.v i64, .v i64] → Option (Ress [i64])) (g130 : Args [.v i64, .v i64, .v mat] → Option (Ress [i64])) (p : Int) (g : Mat) : fn59 g74 g130 8 (p, (1 : Int), g, ()) =
    (match g74 (p, w6 (-(tr1 0 (me g 0 0))), ()) with | some r15 => some ([1, r15.1], ()) | none => none) := by kernel_rfl
theorem e59_2 (g74 : Args [.v i64, .v i64] → Option (Ress [i64])) (g130 : Args [.v i64, .v i64, .v mat] → Option (Ress [i64])) (p : Int) (g : Mat) : fn59 g74 g130 8 (p, (2 : Int), g, ()) =
    (match g74 (p, w6 (-(tr1 (tr1 0 (me g 0 0)) (me g 1 1))), ()) with | some r15 => (match g74 (p, mn1 0 (me g 0 0) (me g 1 1) (me g 0 1) (me g 1 0), ()) with | some r18 => some ([1, r15.1] ++ [r18.1], ()) | none => none) | none => none) := by kernel_rfl
theorem e59_3 (g74 : Args [.v i64, .v i64] → Option (Ress [i64])) (g130 : Args [.v i64, .v i64, .v mat] → Option (Ress [i64])) (p : Int) (g : Mat) : fn59 g74 g130 8 (p, (3 : Int), g, ()) =
    (match g74 (p, w6 (-(tr1 (tr1 (tr1 0 (me g 0 0)) (me g 1 1)) (me g 2 2))), ()) with | some r15 => (match g74 (p, mn1 (mn1 (mn1 0 (me g 0 0) (me g 1 1) (me g 0 1) (me g 1 0)) (me g 0 0) (me g 2 2) (me g 0 2) (me g 2 0)) (me g 1 1) (me g 2 2) (me g 1 2) (me g 2 1), ()) with | some r19 => (match g130 (p, (3 : Int), g, ()) with | some r20 => (match g74 (p, w6 (-r20.1), ()) with | some r21 => some ([1, r15.1] ++ [r19.1, r21.1], ()) | none => none) | none => none) | none => none) | none => none) := by kernel_rfl
theorem g59_ok {p n : Int} {g : Mat} (hg : okM g = true) (hp : 2 ≤ p ∧ p ≤ 13) (hn : n = 1 ∨ n = 2 ∨ n = 3) : cf59 (p, n, g, ()) = some (charL p n g, ()) := by
  have r := me_rng hg
  have r00 := r 0 0
  have r11 := r 1 1
  have r22 := r 2 2
  have a := by2 (r 0 0) (r 1 1)
  have b := by2 (r 0 1) (r 1 0)
  have c := by2 (r 0 0) (r 2 2)
  have d := by2 (r 0 2) (r 2 0)
  have e := by2 (r 1 1) (r 2 2)
  have f := by2 (r 1 2) (r 2 1)
  have t1 := tr1_ok (t := 0) (by omega) (r 0 0)
  have t2 := tr1_ok (t := 0 + me g 0 0) (by omega) (r 1 1)
  have t3 := tr1_ok (t := 0 + me g 0 0 + me g 1 1) (by omega) (r 2 2)
  have m1 := mn1_ok (t := 0) (by omega) (r 0 0) (r 0 1) (r 1 0) (r 1 1)
  have m2 := mn1_ok (t := 0 + me g 0 0 * me g 1 1 - me g 0 1 * me g 1 0) (by omega) (r 0 0) (r 0 2) (r 2 0) (r 2 2)
  have m3 := mn1_ok (t := 0 + me g 0 0 * me g 1 1 - me g 0 1 * me g 1 0 + me g 0 0 * me g 2 2 - me g 0 2 * me g 2 0) (by omega) (r 1 1) (r 1 2) (r 2 1) (r 2 2)
  have z := md_rng (p := p) (x := detN 3 (me g)) (by omega)
  rcases hn with rfl | rfl | rfl
  · rw [cf59, e59_1, t1, w6_id (by omega) (by omega), g74_ok (by omega)]
    simp only [charL, trI, if_true, Int.zero_add]
  · rw [cf59, e59_2, t1, t2, m1, w6_id (by omega) (by omega), g74_ok (by omega), g74_ok (by omega)]
    have : charL p 2 g = [1, (-(me g 0 0 + me g 1 1)) % p, (me g 0 0 * me g 1 1 - me g 0 1 * me g 1 0) % p] := rfl
    rw [this]
    simp only [Int.zero_add]
    rfl
  · rw [cf59, e59_3, t1, t2, t3, m1, m2, m3, w6_id (by omega) (by omega), g74_ok (by omega), g74_ok (by omega)]
    simp only
    rw [g130_ok hg hp]
    simp only
    rw [w6_id (by omega) (by omega), g74_ok (by omega)]
    have : charL p 3 g = [1, (-(me g 0 0 + me g 1 1 + me g 2 2)) % p, (me g 0 0 * me g 1 1 - me g 0 1 * me g 1 0 + (me g 0 0 * me g 2 2 - me g 0 2 * me g 2 0) + (me g 1 1 * me g 2 2 - me g 1 2 * me g 2 1)) % p, (-(detN 3 (me g) % p)) % p] := rfl
    rw [this]
    rw [show ((0 : Int) + me g 0 0 * me g 1 1 - me g 0 1 * me g 1 0 + me g 0 0 * me g 2 2 - me g 0 2 * me g 2 0 + me g 1 1 * me g 2 2 - me g 1 2 * me g 2 1) = me g 0 0 * me g 1 1 - me g 0 1 * me g 1 0 + (me g 0 0 * me g 2 2 - me g 0 2 * me g 2 0) + (me g 1 1 * me g 2 2 - me g 1 2 * me g 2 1) by omega]
    simp only [Int.zero_add]
    rfl

theorem norm62 {p : Int} {L : List Int} (hp : 2 ≤ p ∧ p ≤ 13) (hl : L.length ≤ 7) (hr : ∀ i, -1000000000 ≤ el L i ∧ el L i ≤ 1000000000) {g132 : Args [.v i64, .v i64, .p mat] → Option (Ress [i64])} {g133 : Args [.v i64, .v i64, .v mat] → Option (Ress [i64])} {F0 : Nat} {kx : ShVal sh62_18 → Option R62} :
    ru62_18 g132 g133 8 ((p, ()), ((L, ()), ((((L.length : Nat) : Int), ()), (((0 : Int), ()), ())))) kx = kx ((p, ()), ((L.map (· % p), ()), ((((L.length : Nat) : Int), ()), ((((L.length : Nat) : Int), ()), ())))) := by
  have hm : (L.map (· % p)).length = L.length := by simp
  have key := iter_run (step := fun s k => st62_18 g132 g133 8 s k kx) (r := kx ((p, ()), ((L.map (· % p), ()), ((((L.length : Nat) : Int), ()), ((((L.length : Nat) : Int), ()), ()))))) L.length 8
    (fun j => ((p, ()), (((L.map (· % p)).take j ++ L.drop j, ()), ((((L.length : Nat) : Int), ()), (((j : Int), ()), ()))))) (by omega) (fun j hj k => ?_) (fun k => ?_)
  · simpa [ru62_18] using key
  · have l1 := split_len (i := j) hm (by omega)
    have g1 := split_get (i := j) hm (by omega)
    have s1 := split_set (i := j) hm (by omega)
    have z := hr j
    obtain ⟨e1, e2⟩ := tmod_md (p := p) (x := el L j) (by omega)
    have e : Int.tmod (Int.tmod (el L j) p + p) p = el (L.map (· % p)) j := by
      rw [e1]
      simp [el, List.getD_eq_getElem?_getD, List.getElem?_eq_getElem hj]
    rw [← s1]
    generalize (L.map (· % p)).take j ++ L.drop j = X at *
    simp (disch := omega) only [st62_18, dlt_t, cond_true, ib_t, ofn, tn_cast, deq_f, Bool.not_false, g1, w6_id]
    rw [e]
    rfl
  · rw [show (L.map (· % p)).take L.length ++ L.drop L.length = L.map (· % p) by rw [List.drop_length, List.append_nil, ← hm, List.take_length]]
    simp (disch := omega) only [st62_18, dlt_f, cond_false]

def cf62 : Args [.v i64, .v i64, .v mat] → Option R62 := fn62 cf132 cf133 8
theorem k62 : KOne Try.prog 62 ⟨[.v i64, .v i64, .v mat], [.slice 2 i64], true, true, false, cf62⟩ := ok62 _ _ (.cons k132 (.cons k133 .nil)) cf62 fun x y h => ⟨8, h⟩
abbrev out62 : ShVal sh62_18 → Option R62 := fun s' => match s' with | ((t0, _), (t12, _), (t74, _), (t75, _), _) => (some (t12, ()))
theorem e62_1 (g133 : Args [.v i64, .v i64, .v mat] → Option (Ress [i64])) (p : Int) (g : Mat) : fn62 cf132 g133 8 (p, (1 : Int), g, ()) =
    ru62_18 cf132 g133 8 ((p, ()), (([1, w6 (-(tr1 0 (me g 0 0)))], ()), (((([1, w6 (-(tr1 0 (me g 0 0)))] : List Int).length : Nat) : Int), ()), (((0 : Int), ()), ()))) out62 := by kernel_rfl
theorem e62_2 (g133 : Args [.v i64, .v i64, .v mat] → Option (Ress [i64])) (p : Int) (g : Mat) : fn62 cf132 g133 8 (p, (2 : Int), g, ()) =
    ru62_18 cf132 g133 8 ((p, ()), (([1, w6 (-(tr1 (tr1 0 (me g 0 0)) (me g 1 1))), mn2 0 (me g 0 0) (me g 1 1) (me g 0 1) (me g 1 0)], ()), (((([1, w6 (-(tr1 (tr1 0 (me g 0 0)) (me g 1 1))), mn2 0 (me g 0 0) (me g 1 1) (me g 0 1) (me g 1 0)] : List Int).length : Nat) : Int), ()), (((0 : Int), ()), ()))) out62 := by kernel_rfl
theorem e62_3 (g133 : Args [.v i64, .v i64, .v mat] → Option (Ress [i64])) (p : Int) (g : Mat) : fn62 cf132 g133 8 (p, (3 : Int), g, ()) =
    (match g133 (p, (3 : Int), g, ()) with
    | some r => ru62_18 cf132 g133 8 ((p, ()), (([1, w6 (-(tr1 (tr1 (tr1 0 (me g 0 0)) (me g 1 1)) (me g 2 2))), mn2 (mn2 (mn2 0 (me g 0 0) (me g 1 1) (me g 0 1) (me g 1 0)) (me g 0 0) (me g 2 2) (me g 0 2) (me g 2 0)) (me g 1 1) (me g 2 2) (me g 1 2) (me g 2 1), w6 (-r.1)], ()), (((([1, w6 (-(tr1 (tr1 (tr1 0 (me g 0 0)) (me g 1 1)) (me g 2 2))), mn2 (mn2 (mn2 0 (me g 0 0) (me g 1 1) (me g 0 1) (me g 1 0)) (me g 0 0) (me g 2 2) (me g 0 2) (me g 2 0)) (me g 1 1) (me g 2 2) (me g 1 2) (me g 2 1), w6 (-r.1)] : List Int).length : Nat) : Int), ()), (((0 : Int), ()), ()))) out62
    | none => none) := by kernel_rfl

theorem el_rng {L : List Int} (h : ∀ x ∈ L, -1000000000 ≤ x ∧ x ≤ 1000000000) (i : Nat) : -1000000000 ≤ el L i ∧ el L i ≤ 1000000000 := by
  rcases Nat.lt_or_ge i L.length with q | q
  · rw [el_get q]; exact h _ (List.getElem_mem q)
  · rw [el_ge q]; omega

theorem g62_ok {p n : Int} {g : Mat} (hg : okM g = true) (hp : 2 ≤ p ∧ p ≤ 13) (hn : n = 1 ∨ n = 2 ∨ n = 3) : cf62 (p, n, g, ()) = some (charL p n g, ()) := by
  have r := me_rng hg
  have r00 := r 0 0
  have r11 := r 1 1
  have r22 := r 2 2
  have a := by2 (r 0 0) (r 1 1)
  have b := by2 (r 0 1) (r 1 0)
  have c := by2 (r 0 0) (r 2 2)
  have d := by2 (r 0 2) (r 2 0)
  have e := by2 (r 1 1) (r 2 2)
  have f := by2 (r 1 2) (r 2 1)
  have t1 := tr1_ok (t := 0) (by omega) (r 0 0)
  have t2 := tr1_ok (t := 0 + me g 0 0) (by omega) (r 1 1)
  have t3 := tr1_ok (t := 0 + me g 0 0 + me g 1 1) (by omega) (r 2 2)
  have m1 := mn2_ok (t := 0) (by omega) (r 0 0) (r 0 1) (r 1 0) (r 1 1)
  have m2 := mn2_ok (t := 0 + (me g 0 0 * me g 1 1 - me g 0 1 * me g 1 0)) (by omega) (r 0 0) (r 0 2) (r 2 0) (r 2 2)
  have m3 := mn2_ok (t := 0 + (me g 0 0 * me g 1 1 - me g 0 1 * me g 1 0) + (me g 0 0 * me g 2 2 - me g 0 2 * me g 2 0)) (by omega) (r 1 1) (r 1 2) (r 2 1) (r 2 2)
  have z := md_rng (p := p) (x := detN 3 (me g)) (by omega)
  have one : (1 : Int) % p = 1 := Int.emod_eq_of_lt (by omega) (by omega)
  rcases hn with rfl | rfl | rfl
  · rw [cf62, e62_1, t1, w6_id (by omega) (by omega), norm62 (F0 := 0) hp (by simp) (el_rng (by simp; omega))]
    simp only [out62, List.map_cons, List.map_nil, one, charL, trI, if_true, Int.zero_add]
  · rw [cf62, e62_2, t1, t2, m1, w6_id (by omega) (by omega), norm62 (F0 := 0) hp (by simp) (el_rng (by simp; omega))]
    have : charL p 2 g = [1, (-(me g 0 0 + me g 1 1)) % p, (me g 0 0 * me g 1 1 - me g 0 1 * me g 1 0) % p] := rfl
    rw [this]
    simp only [out62, List.map_cons, List.map_nil, one, Int.zero_add]
  · rw [cf62, e62_3, t1, t2, t3, m1, m2, m3, w6_id (x := -_) (by omega) (by omega), g133_ok hg hp (by omega)]
    simp only
    rw [show tn 3 = 3 from rfl, w6_id (x := -(detN 3 (me g) % p)) (by omega) (by omega), norm62 (F0 := 0) hp (by simp) (el_rng (by simp; omega))]
    have : charL p 3 g = [1, (-(me g 0 0 + me g 1 1 + me g 2 2)) % p, (me g 0 0 * me g 1 1 - me g 0 1 * me g 1 0 + (me g 0 0 * me g 2 2 - me g 0 2 * me g 2 0) + (me g 1 1 * me g 2 2 - me g 1 2 * me g 2 1)) % p, (-(detN 3 (me g) % p)) % p] := rfl
    rw [this]
    simp only [out62, List.map_cons, List.map_nil, one, Int.zero_add]

/-! ### the law -/
theorem g19_ok {l : List Int} {k : Int} (hl : l.length ≤ 1000000) (hk : 0 ≤ k ∧ k ≤ 1000000000000) : cf19 (l, k, ()) = some (marks k l.length, k + l.length, ()) := if_pos ⟨hl, hk.1, hk.2⟩
theorem g20_ok {n : Nat} {k : Int} (hl : n ≤ 1000000) (hk : 0 ≤ k ∧ k ≤ 1000000000000) : cf20 (marks k n, k, ()) = some (k + n, ()) := by
  have hm := marks_len n k
  have : cf20 (marks k n, k, ()) = some (k + ((marks k n).length : Int), ()) := if_pos ⟨by rw [hm]; exact hl, hk.1, hk.2, by rw [hm]⟩
  rw [this, hm]

noncomputable def cf15 : Args [.v i64, .v i64, .v mat] → Option R15 := fn15 cf58 cf59 0
theorem k15 : KOne Try.prog 15 ⟨[.v i64, .v i64, .v mat], [.slice 2 i64, i64], true, true, false, cf15⟩ := ok15 _ _ (.cons k58 (.cons k59 .nil)) cf15 fun x y h => ⟨0, h⟩
def cf17 : Args [.v i64, .v i64, .v mat] → Option R17 := fn17 cf61 cf62 0
theorem k17 : KOne Try.prog 17 ⟨[.v i64, .v i64, .v mat], [.slice 2 i64, i64], true, true, false, cf17⟩ := ok17 _ _ (.cons k61 (.cons k62 .nil)) cf17 fun x y h => ⟨0, h⟩
theorem matB_inv {p n : Int} {g : Mat} (h : matB p n g = true) : (2 ≤ p ∧ p ≤ 13) ∧ (n = 1 ∨ n = 2 ∨ n = 3) := by
  simp only [matB, Bool.and_eq_true] at h
  exact ⟨isP_pos h.1, inR_cases h.2.1⟩
theorem charL_len (p n : Int) (g : Mat) : (charL p n g).length ≤ 4 := by
  unfold charL; split
  · simp
  · split <;> simp
theorem same15 {p n : Int} {g : Mat} (hg : okM g = true) : ∃ (L : List Int) (c : Int), L.length ≤ 4 ∧ cf15 (p, n, g, ()) = some (L, c, ()) ∧ cf17 (p, n, g, ()) = some (L, c, ()) := by
  simp only [cf15, cf17, fn15, fn17]
  rw [g58_ok hg, g61_ok hg]
  simp only
  cases h : matB p n g with
  | false => exact ⟨[], 2, by simp, rfl, rfl⟩
  | true =>
    obtain ⟨h1, h2⟩ := matB_inv h
    rw [g59_ok hg h1 h2, g62_ok hg h1 h2]
    exact ⟨charL p n g, 0, charL_len p n g, rfl, rfl⟩

theorem law3_one : KOne Try.prog 3 ⟨[.v i64, .v i64, .v mat], [.bool], false, false, false, fun x => bif okA [.v i64, .v i64, .v mat] x then some (true, ()) else none⟩ :=
  ok3 _ _ _ _ _ _ (.cons k16 (.cons k15 (.cons k18 (.cons k19 (.cons k20 (.cons k17 .nil)))))) _ fun x y h => by
    obtain ⟨p, n, g, _⟩ := x
    cases hx : okA [.v i64, .v i64, .v mat] (p, n, g, ()) with
    | false => rw [hx] at h; cases h
    | true =>
      rw [hx] at h; injection h with h; subst h
      refine ⟨0, ?_⟩
      simp only [okA, Bool.and_eq_true] at hx
      have hg : okM g = true := hx.2.2.1
      obtain ⟨L, c, hl, e1, e2⟩ := same15 (p := p) (n := n) hg
      have c16 : cf16 (g, ()) = some (g, ()) := rfl
      have c18 : cf18 (L, L, ()) = some (true, ()) := by
        have : cf18 (L, L, ()) = some (decide (L = L), ()) := if_pos ⟨by simp only [B]; omega, by simp only [B]; omega⟩
        rw [this, decide_eq_true rfl]
      have c19 : cf19 (L, (1 : Int), ()) = some (marks 1 L.length, 1 + (L.length : Int), ()) := g19_ok (by omega) (by omega)
      have c20 : cf20 (marks 1 L.length, (1 : Int), ()) = some (1 + (L.length : Int), ()) := by
        exact g20_ok (by omega) (by omega)
      have n2 : (bif ((Nat.beq 2 2) && true) then marks 1 L.length else []) = marks 1 L.length := rfl
      simp (disch := omega) only [fn3, c16, e1, e2, c18, c19, n2, c20, Bool.not_true, cond_false, cond_true, deq_t, decide_true, dlt_f]

end Go.Proofs.YtkoifikjfnbcpaaEv
