/- ProductOfList: products of a list's polynomials, both ways; the law gives true. -/
import Derived.Test.YtkoifikjfnbcpaaEvPAe
import Derived.Test.YtkoifikjfnbcpaaEvL12
set_option linter.unusedVariables false
set_option linter.unusedSimpArgs false
namespace Go.Proofs.YtkoifikjfnbcpaaEv
open Go Go.RowKit Go.Proofs

def powP (p : Int) (b : List term.den) : Nat → List term.den → List term.den
  | 0, a => a
  | n + 1, a => powP p b n (timesP p a b)
def prodP (p : Int) : List Int → List Po → List term.den → List term.den
  | k :: ks, x :: xs, a => prodP p ks xs (powP p (tms x) k.toNat a)
  | _, _, a => a
def sumD : List Int → List Po → Int
  | k :: ks, x :: xs => k * degI (tms x) + sumD ks xs
  | _, _ => 0

structure Fine (p d D : Int) (a : List term.den) : Prop where
  can : CanT p a
  deg : DegLe D a
/-- The list's polynomials are of one kind, each of degree at least 1. -/
structure Kind (p d : Int) (L : List Po) : Prop where
  pr : isP p = true
  mem : ∀ x ∈ L, x.1 = p ∧ x.2.1 = d ∧ CanT p (tms x) ∧ DegLe 12 (tms x) ∧ 1 ≤ degI (tms x)

theorem isP_rng {p : Int} (h : isP p = true) : 2 ≤ p ∧ p ≤ 13 := by
  simp only [isP, Bool.or_eq_true, decide_eq_true_eq] at h; omega
theorem one_fine {p : Int} (h : isP p = true) : CanT p (oneP p e0 1) ∧ DegLe 0 (oneP p e0 1) := by
  have hp := isP_rng h
  obtain ⟨c1, c2⟩ := putP_can (p := p) (ts := []) (e := e0) (x := 1) (by omega) can_nil okX_e0
  refine ⟨c1, degLe_of c1 fun e he => ?_⟩
  have q := c2 e
  rw [show coT (oneP p e0 1) e = coT (putP p [] e0 1) e from rfl, q]
  have : ¬ e = e0 := fun z => by rw [z] at he; exact absurd he (by decide)
  rw [if_neg this]; rfl

theorem mul_fine {p d D k : Int} {a b : List term.den} (hp : isP p = true) (ha : CanT p a) (hD : DegLe D a) (hb : CanT p b) (h1 : 1 ≤ degI b) (hs : D + degI b ≤ 12) (h0 : 0 ≤ D) :
    CanT p (timesP p a b) ∧ DegLe (D + degI b) (timesP p a b) ∧ cf99 ((p, d, a, ()), (p, d, b, ()), ()) = some ((p, d, timesP p a b, ()), true, ()) ∧ cf106 ((p, d, a, ()), (p, d, b, ()), ()) = some ((p, d, timesP p a b, ()), ()) := by
  have hp' := isP_rng hp
  have db := can_deg hb
  have c1 := (timesP_can (p := p) (by omega) (small ha hD (by omega)) (small hb db (by omega))).1
  have c2 := timesP_deg (p := p) (by omega) ha hb hD db (by omega) (by omega)
  have hf : fits a b = true := by
    unfold fits
    by_cases q : a = []
    · rw [decide_eq_true q]; rfl
    · have := degI_rng ha hD (by omega)
      rw [decide_eq_true (by omega : degI a + degI b ≤ 12), Bool.or_true]
  refine ⟨c1, c2, ?_, ?_⟩
  · have := g99_ok (v := d) (p := p) (a := a) (b := b) ⟨by omega, ha, hb, hD.mono (by omega), db.mono (by omega)⟩
    rw [this, hf]; unfold timesO; rw [hf]; rfl
  · exact g106_ok ⟨by omega, ha, hb, hD.mono (by omega), db.mono (by omega)⟩

theorem in116 {p d D : Int} {L : List Po} {E : List Int} {z : Po} {i : Nat} {F0 : Nat} {kx : ShVal sh116_6 → Option R116} (hp : isP p = true) (hi : i < L.length) (e1 : (L.getD i DPo).1 = p) (e2 : (L.getD i DPo).2.1 = d) (hb : CanT p (tms (L.getD i DPo))) (hd : 1 ≤ degI (tms (L.getD i DPo))) :
    ∀ (n : Nat) (a : List term.den) (D : Int) (F : Nat), n < F → n ≤ 12 → CanT p a → DegLe D a → 0 ≤ D → D + (n : Int) * degI (tms (L.getD i DPo)) ≤ 12 →
    iter (fun s k => st116_6 cf96 cf99 F0 s k kx) F ((L, ()), ((E, ()), (z, ((p, d, a, ()), (((i : Int), ()), (((n : Int), ()), ())))))) = kx ((L, ()), ((E, ()), (z, ((p, d, powP p (tms (L.getD i DPo)) n a, ()), (((i : Int), ()), (((0 : Int), ()), ()))))))
  | 0, a, D, F, hF, hn, ha, hD, h0, hs => by
    obtain ⟨F, rfl⟩ : ∃ f, F = f + 1 := ⟨F - 1, by omega⟩
    rfl
  | n + 1, a, D, F, hF, hn, ha, hD, h0, hs => by
    obtain ⟨F, rfl⟩ : ∃ f, F = f + 1 := ⟨F - 1, by omega⟩
    have hm : ((n + 1 : Nat) : Int) * degI (tms (L.getD i DPo)) = (n : Int) * degI (tms (L.getD i DPo)) + degI (tms (L.getD i DPo)) := by rw [Int.natCast_succ, Int.add_mul]; omega
    have hnn : 0 ≤ (n : Int) * degI (tms (L.getD i DPo)) := Int.mul_nonneg (by omega) (by omega)
    obtain ⟨c1, c2, g, _⟩ := mul_fine (d := d) (k := 0) hp ha hD hb hd (by omega) h0
    have hx : L.getD i DPo = (p, d, tms (L.getD i DPo), ()) := by rw [← e1, ← e2]; rfl
    have g' : cf99 ((p, d, a, ()), L.getD i DPo, ()) = some ((p, d, timesP p a (tms (L.getD i DPo)), ()), true, ()) := by rw [hx]; exact g
    have hw : w6 (((n + 1 : Nat) : Int) - 1) = (n : Int) := (w6_id (by omega) (by omega)).trans (by omega)
    have ih := in116 (kx := kx) (F0 := F0) (z := z) (E := E) (D := D) hp hi e1 e2 hb hd n (timesP p a (tms (L.getD i DPo))) (D + degI (tms (L.getD i DPo))) F (by omega) (by omega) c1 c2 (by omega) (by omega)
    simp only [iter, st116_6]
    rw [dlt_t (by omega), cond_true]
    simp only [ofn]
    rw [ib_t (by omega) (by omega), cond_true]
    simp only [tn_cast, hw]
    show (match cf99 ((p, d, a, ()), L.getD i DPo, ()) with | some r31 => _ | none => none) = _
    rw [g']
    exact ih
theorem in118 {p d D : Int} {L : List Po} {E : List Int} {z : Po} {i : Nat} {M J K : Int} {F0 : Nat} {kx : ShVal sh118_6 → Option R118} (hp : isP p = true) (hi : i < L.length) (e1 : (L.getD i DPo).1 = p) (e2 : (L.getD i DPo).2.1 = d) (hb : CanT p (tms (L.getD i DPo))) (hd : 1 ≤ degI (tms (L.getD i DPo))) :
    ∀ (n j : Nat) (a : List term.den) (D : Int) (F : Nat), n < F → K = ((j + n : Nat) : Int) → K ≤ 12 → CanT p a → DegLe D a → 0 ≤ D → D + (n : Int) * degI (tms (L.getD i DPo)) ≤ 12 →
    iter (fun s k => st118_6 cf102 cf106 F0 s k kx) F ((L, ()), (z, ((p, d, a, ()), (((i : Int), ()), ((E, ()), ((M, ()), ((J, ()), ((K, ()), (((j : Int), ()), ()))))))))) = kx ((L, ()), (z, ((p, d, powP p (tms (L.getD i DPo)) n a, ()), (((i : Int), ()), ((E, ()), ((M, ()), ((J, ()), ((K, ()), ((K, ()), ())))))))))
  | 0, j, a, D, F, hF, hK, hK2, ha, hD, h0, hs => by
    obtain ⟨F, rfl⟩ : ∃ f, F = f + 1 := ⟨F - 1, by omega⟩
    simp only [iter, st118_6]
    rw [dlt_f (by omega), cond_false]
    have : (j : Int) = K := by omega
    rw [this]; rfl
  | n + 1, j, a, D, F, hF, hK, hK2, ha, hD, h0, hs => by
    obtain ⟨F, rfl⟩ : ∃ f, F = f + 1 := ⟨F - 1, by omega⟩
    have hm : ((n + 1 : Nat) : Int) * degI (tms (L.getD i DPo)) = (n : Int) * degI (tms (L.getD i DPo)) + degI (tms (L.getD i DPo)) := by rw [Int.natCast_succ, Int.add_mul]; omega
    have hnn : 0 ≤ (n : Int) * degI (tms (L.getD i DPo)) := Int.mul_nonneg (by omega) (by omega)
    obtain ⟨c1, c2, _, g⟩ := mul_fine (d := d) (k := 0) hp ha hD hb hd (by omega) h0
    have hx : L.getD i DPo = (p, d, tms (L.getD i DPo), ()) := by rw [← e1, ← e2]; rfl
    have g' : cf106 ((p, d, a, ()), L.getD i DPo, ()) = some ((p, d, timesP p a (tms (L.getD i DPo)), ()), ()) := by rw [hx]; exact g
    have hw : w6 ((j : Int) + 1) = ((j + 1 : Nat) : Int) := (w6_id (by omega) (by omega)).trans (by omega)
    have ih := in118 (kx := kx) (F0 := F0) (z := z) (E := E) (M := M) (J := J) (K := K) (D := D) hp hi e1 e2 hb hd n (j + 1) (timesP p a (tms (L.getD i DPo))) (D + degI (tms (L.getD i DPo))) F (by omega) (by omega) hK2 c1 c2 (by omega) (by omega)
    simp only [iter, st118_6]
    rw [dlt_t (by omega), cond_true]
    simp only [ofn]
    rw [ib_t (by omega) (by omega), cond_true]
    simp only [tn_cast, hw]
    show (match cf106 ((p, d, a, ()), L.getD i DPo, ()) with | some r36 => _ | none => none) = _
    rw [g']
    exact ih


theorem powP_fine {p : Int} {b : List term.den} (hp : isP p = true) (hb : CanT p b) (hd : 1 ≤ degI b) : ∀ (n : Nat) (a : List term.den) (D : Int), CanT p a → DegLe D a → 0 ≤ D → D + (n : Int) * degI b ≤ 12 → CanT p (powP p b n a) ∧ DegLe (D + (n : Int) * degI b) (powP p b n a)
  | 0, a, D, ha, hD, h0, hs => ⟨ha, by
    have : D + ((0 : Nat) : Int) * degI b = D := by simp
    rw [this]; exact hD⟩
  | n + 1, a, D, ha, hD, h0, hs => by
    have hm : ((n + 1 : Nat) : Int) * degI b = (n : Int) * degI b + degI b := by rw [Int.natCast_succ, Int.add_mul]; omega
    have hnn : 0 ≤ (n : Int) * degI b := Int.mul_nonneg (by omega) (by omega)
    obtain ⟨c1, c2, _, _⟩ := mul_fine (d := 0) (k := 0) hp ha hD hb hd (by omega) h0
    obtain ⟨q1, q2⟩ := powP_fine hp hb hd n (timesP p a b) (D + degI b) c1 c2 (by omega) (by omega)
    refine ⟨q1, ?_⟩
    rw [hm, show D + ((n : Int) * degI b + degI b) = D + degI b + (n : Int) * degI b by omega]
    exact q2

theorem sumD_nn {p d : Int} : ∀ {ks : List Int} {xs : List Po}, Kind p d xs → (∀ k ∈ ks, 0 ≤ k ∧ k ≤ 12) → 0 ≤ sumD ks xs
  | [], xs, _, _ => by cases xs <;> simp [sumD]
  | k :: ks, [], _, _ => by simp [sumD]
  | k :: ks, x :: xs, hK, hk => by
    have ih := sumD_nn (ks := ks) (xs := xs) ⟨hK.pr, fun y hy => hK.mem y (.tail _ hy)⟩ (fun y hy => hk y (.tail _ hy))
    have := (hK.mem x (.head _)).2.2.2.2
    have h0 := (hk k (.head _)).1
    have := Int.mul_nonneg h0 (show 0 ≤ degI (tms x) by omega)
    simp only [sumD]; omega

theorem run116 {p d : Int} {L : List Po} {E : List Int} {z : Po} {f0 : Nat} (hL : L.length ≤ 100) (hE : E.length ≤ 100) : ∀ (xs preL : List Po) (ks preE : List Int) (a : List term.den) (D : Int) (F : Nat), preL ++ xs = L → preE ++ ks = E → preE.length = preL.length → ks.length = xs.length → xs.length < F → Kind p d xs → (∀ k ∈ ks, 0 ≤ k ∧ k ≤ 12) → CanT p a → DegLe D a → 0 ≤ D → D + sumD ks xs ≤ 12 →
    iter (fun s k => st116_3 cf96 cf99 (f0 + 14) s k (fun s' => match s' with | ((t0, _), (t1, _), (t4_0, t4_1, t4_2, _), (t5_0, t5_1, t5_2, _), (t6, _), _) => (some ((t5_0, (t5_1, (t5_2, ()))), ())))) F ((L, ()), ((E, ()), (z, ((p, d, a, ()), (((preL.length : Int), ()), ()))))) = some ((p, d, prodP p ks xs a, ()), ())
  | [], preL, ks, preE, a, D, F, e1, e2, e3, e4, hF, hK, hk, ha, hD, h0, hs => by
    obtain ⟨F, rfl⟩ : ∃ f, F = f + 1 := ⟨F - 1, by simp at hF; omega⟩
    obtain rfl : ks = [] := List.eq_nil_of_length_eq_zero (by simpa using e4)
    rw [List.append_nil] at e1; subst e1
    simp only [iter, st116_3]
    simp (disch := omega) only [dln_t, cond_true, ofn, dlt_f, cond_false]
    rfl
  | x :: xs, preL, [], preE, a, D, F, e1, e2, e3, e4, hF, hK, hk, ha, hD, h0, hs => by simp at e4
  | x :: xs, preL, k :: ks, preE, a, D, F, e1, e2, e3, e4, hF, hK, hk, ha, hD, h0, hs => by
    obtain ⟨F, rfl⟩ : ∃ f, F = f + 1 := ⟨F - 1, by simp at hF; omega⟩
    have l1 : preL.length < L.length := by rw [← e1]; simp
    have l2 : preL.length < E.length := by rw [← e2, ← e3]; simp
    have gx : L.getD preL.length DPo = x := by rw [← e1, List.getD_eq_getElem?_getD, List.getElem?_append_right (Nat.le_refl _)]; simp
    have gk : E.getD preL.length 0 = k := by rw [← e2, ← e3, List.getD_eq_getElem?_getD, List.getElem?_append_right (Nat.le_refl _)]; simp
    obtain ⟨m1, m2, m3, m4, m5⟩ := hK.mem x (.head _)
    obtain ⟨k0, k12⟩ := hk k (.head _)
    obtain ⟨n, rfl⟩ := Int.eq_ofNat_of_zero_le k0
    have hK' : Kind p d xs := ⟨hK.pr, fun y hy => hK.mem y (.tail _ hy)⟩
    have hk' : ∀ y ∈ ks, 0 ≤ y ∧ y ≤ 12 := fun y hy => hk y (.tail _ hy)
    have hsn := sumD_nn hK' hk'
    simp only [sumD] at hs
    have inn := fun kx => in116 (kx := kx) (F0 := f0 + 14) (z := z) (E := E) (D := D) (p := p) (d := d) (L := L) (i := preL.length) hK.pr l1 (by rw [gx]; exact m1) (by rw [gx]; exact m2) (by rw [gx]; exact m3) (by rw [gx]; exact m5) n a D (f0 + 14) (by omega) (by omega) ha hD h0 (by rw [gx]; omega)
    obtain ⟨q1, q2⟩ := powP_fine hK.pr m3 m5 n a D ha hD h0 (by omega)
    have hnn : 0 ≤ (n : Int) * degI (tms x) := Int.mul_nonneg (by omega) (by omega)
    have ih := run116 (z := z) (f0 := f0) hL hE xs (preL ++ [x]) ks (preE ++ [(n : Int)]) (powP p (tms x) n a) (D + (n : Int) * degI (tms x)) F (by simpa using e1) (by simpa using e2) (by simp [e3]) (by simpa using e4) (by simp at hF; omega) hK' hk' q1 q2 (by omega) (by omega)
    simp only [List.length_append, List.length_singleton] at ih
    simp only [iter, st116_3]
    simp (disch := omega) only [dln_t, cond_true, ofn, dlt_t, ib_t, tn_cast, gk, ru116_6]
    refine (inn _).trans ?_
    simp only [gx]
    rw [w6_id (by omega) (by omega)]
    exact ih
theorem run118 {p d : Int} {L : List Po} {E : List Int} {z : Po} {f0 : Nat} (hL : L.length ≤ 100) (hE : E.length ≤ 100) : ∀ (xs preL : List Po) (ks preE : List Int) (a : List term.den) (D : Int) (F : Nat), preL ++ xs = L → preE ++ ks = E → preE.length = preL.length → ks.length = xs.length → xs.length < F → Kind p d xs → (∀ k ∈ ks, 0 ≤ k ∧ k ≤ 12) → CanT p a → DegLe D a → 0 ≤ D → D + sumD ks xs ≤ 12 →
    iter (fun s k => st118_3 cf102 cf106 (f0 + 14) s k (fun s' => match s' with | ((t0, _), (t4_0, t4_1, t4_2, _), (t5_0, t5_1, t5_2, _), (t17, _), (t18, _), (t19, _), _) => (some ((t5_0, (t5_1, (t5_2, ()))), ())))) F ((L, ()), (z, ((p, d, a, ()), ((E, ()), (((E.length : Int), ()), (((preL.length : Int), ()), ())))))) = some ((p, d, prodP p ks xs a, ()), ())
  | [], preL, ks, preE, a, D, F, e1, e2, e3, e4, hF, hK, hk, ha, hD, h0, hs => by
    obtain ⟨F, rfl⟩ : ∃ f, F = f + 1 := ⟨F - 1, by simp at hF; omega⟩
    obtain rfl : ks = [] := List.eq_nil_of_length_eq_zero (by simpa using e4)
    rw [List.append_nil] at e2; subst e2
    simp only [iter, st118_3]
    simp (disch := omega) only [cond_true, ofn, dlt_f, cond_false]
    rfl
  | x :: xs, preL, [], preE, a, D, F, e1, e2, e3, e4, hF, hK, hk, ha, hD, h0, hs => by simp at e4
  | x :: xs, preL, k :: ks, preE, a, D, F, e1, e2, e3, e4, hF, hK, hk, ha, hD, h0, hs => by
    obtain ⟨F, rfl⟩ : ∃ f, F = f + 1 := ⟨F - 1, by simp at hF; omega⟩
    have l1 : preL.length < L.length := by rw [← e1]; simp
    have l2 : preL.length < E.length := by rw [← e2, ← e3]; simp
    have gx : L.getD preL.length DPo = x := by rw [← e1, List.getD_eq_getElem?_getD, List.getElem?_append_right (Nat.le_refl _)]; simp
    have gk : E.getD preL.length 0 = k := by rw [← e2, ← e3, List.getD_eq_getElem?_getD, List.getElem?_append_right (Nat.le_refl _)]; simp
    obtain ⟨m1, m2, m3, m4, m5⟩ := hK.mem x (.head _)
    obtain ⟨k0, k12⟩ := hk k (.head _)
    obtain ⟨n, rfl⟩ := Int.eq_ofNat_of_zero_le k0
    have hK' : Kind p d xs := ⟨hK.pr, fun y hy => hK.mem y (.tail _ hy)⟩
    have hk' : ∀ y ∈ ks, 0 ≤ y ∧ y ≤ 12 := fun y hy => hk y (.tail _ hy)
    have hsn := sumD_nn hK' hk'
    simp only [sumD] at hs
    have inn := fun kx => in118 (kx := kx) (F0 := f0 + 14) (z := z) (E := E) (M := (E.length : Int)) (J := (preL.length : Int)) (K := (n : Int)) (D := D) (p := p) (d := d) (L := L) (i := preL.length) hK.pr l1 (by rw [gx]; exact m1) (by rw [gx]; exact m2) (by rw [gx]; exact m3) (by rw [gx]; exact m5) n 0 a D (f0 + 14) (by omega) (by omega) k12 ha hD h0 (by rw [gx]; omega)
    obtain ⟨q1, q2⟩ := powP_fine hK.pr m3 m5 n a D ha hD h0 (by omega)
    have hnn : 0 ≤ (n : Int) * degI (tms x) := Int.mul_nonneg (by omega) (by omega)
    have ih := run118 (z := z) (f0 := f0) hL hE xs (preL ++ [x]) ks (preE ++ [(n : Int)]) (powP p (tms x) n a) (D + (n : Int) * degI (tms x)) F (by simpa using e1) (by simpa using e2) (by simp [e3]) (by simpa using e4) (by simp at hF; omega) hK' hk' q1 q2 (by omega) (by omega)
    simp only [List.length_append, List.length_singleton] at ih
    simp only [iter, st118_3]
    simp (disch := omega) only [cond_true, ofn, dlt_t, ib_t, tn_cast, gk, ru118_6]
    refine (inn _).trans ?_
    simp only [gx]
    rw [w6_id (by omega) (by omega)]
    exact ih

/-- Data that have a product: of one kind, as many exponents, none too great, and the sum of degrees at most 12. -/
structure HasP (p d : Int) (L : List Po) (E : List Int) : Prop where
  kind : Kind p d L
  ne : L ≠ []
  len : E.length = L.length
  le : L.length ≤ 100
  rng : ∀ k ∈ E, 0 ≤ k ∧ k ≤ 12
  sum : sumD E L ≤ 12
theorem HasP.head {p d : Int} {L : List Po} {E : List Int} (h : HasP p d L E) : (L.getD 0 DPo).1 = p ∧ (L.getD 0 DPo).2.1 = d ∧ 0 < L.length := by
  cases hL : L with
  | nil => exact absurd hL h.ne
  | cons x r =>
    obtain ⟨m1, m2, _⟩ := h.kind.mem x (by rw [hL]; exact .head _)
    exact ⟨m1, m2, by simp⟩
open Classical in
noncomputable def cf116 : G116 := fun x => if HasP ((show List Po from x.1).getD 0 DPo).1 ((show List Po from x.1).getD 0 DPo).2.1 x.1 x.2.1 then some ((((show List Po from x.1).getD 0 DPo).1, ((show List Po from x.1).getD 0 DPo).2.1, prodP ((show List Po from x.1).getD 0 DPo).1 x.2.1 x.1 (oneP ((show List Po from x.1).getD 0 DPo).1 e0 1), ()), ()) else none
theorem k116 : KOne Try.prog 116 ⟨[.v (.slice 58 poly), .v (.slice 2 i64)], [poly], true, false, 0, cf116⟩ := ok116 _ _ (.cons k96 (.cons k99 .nil)) cf116 fun x y h => by
  obtain ⟨L, E, _⟩ := x
  change List Po at L
  change List Int at E
  simp only [cf116] at h
  split at h
  · rename_i hc
    injection h with h; subst h
    have hc : HasP (L.getD 0 DPo).1 (L.getD 0 DPo).2.1 L E := hc
    obtain ⟨_, _, hpos⟩ := hc.head
    generalize hp : (L.getD 0 DPo).1 = p at hc
    generalize hd : (L.getD 0 DPo).2.1 = d at hc
    have hpr := isP_rng hc.kind.pr
    obtain ⟨o1, o2⟩ := one_fine hc.kind.pr
    have g : cf96 (p, d, e0, (1 : Int), ()) = some ((p, d, oneP p e0 1, ()), ()) := g96_ok (by omega) okX_e0 (by omega)
    refine ⟨L.length + 14, ?_⟩
    have hle := hc.le
    have hlen := hc.len
    have key := run116 (L := L) (E := E) (z := DPo) (f0 := L.length) (by omega) (by omega) L [] E [] (oneP p e0 1) 0 (L.length + 14) rfl rfl rfl hc.len (by omega) hc.kind hc.rng o1 o2 (Int.le_refl _) (by have := hc.sum; omega)
    simp only [fn116, ofn]
    rw [ib_t (by omega) (by omega), cond_true, cond_true]
    show (match cf96 ((L.getD 0 DPo).1, (L.getD 0 DPo).2.1, e0, (1 : Int), ()) with | some r6 => _ | none => none) = _
    rw [hp, hd, g]
    exact key
  · cases h
open Classical in
noncomputable def cf118 : G118 := fun x => if HasP ((show List Po from x.1).getD 0 DPo).1 ((show List Po from x.1).getD 0 DPo).2.1 x.1 x.2.1 then some ((((show List Po from x.1).getD 0 DPo).1, ((show List Po from x.1).getD 0 DPo).2.1, prodP ((show List Po from x.1).getD 0 DPo).1 x.2.1 x.1 (oneP ((show List Po from x.1).getD 0 DPo).1 e0 1), ()), ()) else none
theorem k118 : KOne Try.prog 118 ⟨[.v (.slice 58 poly), .v (.slice 2 i64)], [poly], true, false, 0, cf118⟩ := ok118 _ _ (.cons k102 (.cons k106 .nil)) cf118 fun x y h => by
  obtain ⟨L, E, _⟩ := x
  change List Po at L
  change List Int at E
  simp only [cf118] at h
  split at h
  · rename_i hc
    injection h with h; subst h
    have hc : HasP (L.getD 0 DPo).1 (L.getD 0 DPo).2.1 L E := hc
    obtain ⟨_, _, hpos⟩ := hc.head
    generalize hp : (L.getD 0 DPo).1 = p at hc
    generalize hd : (L.getD 0 DPo).2.1 = d at hc
    have hpr := isP_rng hc.kind.pr
    obtain ⟨o1, o2⟩ := one_fine hc.kind.pr
    have g : cf102 (p, d, (1 : Int), ()) = some ((p, d, oneP p e0 1, ()), ()) := g102_ok (by omega)
    refine ⟨L.length + 14, ?_⟩
    have hle := hc.le
    have hlen := hc.len
    have key := run118 (L := L) (E := E) (z := DPo) (f0 := L.length) (by omega) (by omega) L [] E [] (oneP p e0 1) 0 (L.length + 14) rfl rfl rfl hc.len (by omega) hc.kind hc.rng o1 o2 (Int.le_refl _) (by have := hc.sum; omega)
    simp only [fn118, ofn]
    rw [ib_t (by omega) (by omega), cond_true, cond_true]
    show (match cf102 ((L.getD 0 DPo).1, (L.getD 0 DPo).2.1, (1 : Int), ()) with | some r6 => _ | none => none) = _
    rw [hp, hd, g]
    show (bif decide (E.length ≤ 9223372036854775807) then _ else none) = _
    rw [dln_t (by omega), cond_true]
    exact key
  · cases h


noncomputable def cf52 : G52 := fn52 cf64 cf115 cf116 20
theorem k52 : KOne Try.prog 52 ⟨[.v (.slice 58 poly), .v (.slice 2 i64)], [poly, i64], true, false, 0, cf52⟩ := ok52 _ _ _ (.cons k64 (.cons k115 (.cons k116 .nil))) cf52 fun x y h => ⟨20, h⟩
noncomputable def cf53 : G53 := fn53 cf67 cf117 cf118 20
theorem k53 : KOne Try.prog 53 ⟨[.v (.slice 58 poly), .v (.slice 2 i64)], [poly, i64], true, false, 0, cf53⟩ := ok53 _ _ _ (.cons k67 (.cons k117 (.cons k118 .nil))) cf53 fun x y h => ⟨20, h⟩

def nn (x : Int) : Bool := !decide (x < 0)
def goS (acc : Int) : List Int → List Po → Option Int
  | k :: ks, x :: xs => if 12 < k then none else goS (acc + k * degI (tms x)) ks xs
  | _, _ => some acc
def bad (c : Int) : R52 := ((0, 0, [], ()), c, ())

theorem l52_7 {L : List Po} {E : List Int} {z : Po} {F0 F : Nat} {kx : ShVal sh52_7 → Option R52} (hE : E.length ≤ 1100000) (hF : E.length < F) :
    iter (fun s k => st52_7 cf64 cf115 cf116 F0 s k kx) F ((L, ()), ((E, ()), (z, (((0 : Int), ()), ())))) = bif E.all nn then kx ((L, ()), ((E, ()), (z, (((E.length : Int), ()), ())))) else some (bad 2) := by
  rcases all_or nn E with hq | ⟨hq, n, q1, q2, q3⟩
  · rw [hq, cond_true]
    refine iter_run E.length F (fun i => ((L, ()), ((E, ()), (z, (((i : Int), ()), ()))))) hF (fun i hi k => ?_) (fun k => ?_)
    · have := all_at hq hi
      simp only [nn, Bool.not_eq_true', decide_eq_false_iff_not] at this
      simp (disch := omega) only [st52_7, dln_t, cond_true, ofn, dlt_t, dlt_f, ib_t, tn_cast, cond_false, w6_id]
      rfl
    · simp (disch := omega) only [st52_7, dln_t, cond_true, ofn, dlt_f, cond_false]
  · rw [hq, cond_false]
    refine iter_run n F (fun i => ((L, ()), ((E, ()), (z, (((i : Int), ()), ()))))) (by omega) (fun i hi k => ?_) (fun k => ?_)
    · have := q3 i hi
      simp only [nn, Bool.not_eq_true', decide_eq_false_iff_not] at this
      simp (disch := omega) only [st52_7, dln_t, cond_true, ofn, dlt_t, dlt_f, ib_t, tn_cast, cond_false, w6_id]
      rfl
    · simp only [nn, Bool.not_eq_false', decide_eq_true_eq] at q2
      simp (disch := omega) only [st52_7, dln_t, cond_true, ofn, dlt_t, ib_t, tn_cast]
      rfl
theorem l53_7 {L : List Po} {E : List Int} {z : Po} {F0 F : Nat} {kx : ShVal sh53_7 → Option R53} (hE : E.length ≤ 1100000) (hF : E.length < F) :
    iter (fun s k => st53_7 cf67 cf117 cf118 F0 s k kx) F ((L, ()), ((E, ()), (z, ((E, ()), (((E.length : Int), ()), (((0 : Int), ()), ())))))) = bif E.all nn then kx ((L, ()), ((E, ()), (z, ((E, ()), (((E.length : Int), ()), (((E.length : Int), ()), ())))))) else some (bad 2) := by
  rcases all_or nn E with hq | ⟨hq, n, q1, q2, q3⟩
  · rw [hq, cond_true]
    refine iter_run E.length F (fun i => ((L, ()), ((E, ()), (z, ((E, ()), (((E.length : Int), ()), (((i : Int), ()), ()))))))) hF (fun i hi k => ?_) (fun k => ?_)
    · have := all_at hq hi
      simp only [nn, Bool.not_eq_true', decide_eq_false_iff_not] at this
      simp (disch := omega) only [st53_7, cond_true, ofn, dlt_t, dlt_f, ib_t, tn_cast, cond_false, w6_id]
      rfl
    · simp (disch := omega) only [st53_7, cond_true, ofn, dlt_f, cond_false]
  · rw [hq, cond_false]
    refine iter_run n F (fun i => ((L, ()), ((E, ()), (z, ((E, ()), (((E.length : Int), ()), (((i : Int), ()), ()))))))) (by omega) (fun i hi k => ?_) (fun k => ?_)
    · have := q3 i hi
      simp only [nn, Bool.not_eq_true', decide_eq_false_iff_not] at this
      simp (disch := omega) only [st53_7, cond_true, ofn, dlt_t, dlt_f, ib_t, tn_cast, cond_false, w6_id]
      rfl
    · simp only [nn, Bool.not_eq_false', decide_eq_true_eq] at q2
      simp (disch := omega) only [st53_7, cond_true, ofn, dlt_t, ib_t, tn_cast]
      rfl

theorem l52_13 {p d : Int} {L : List Po} {E : List Int} {z : Po} {F0 : Nat} {kx : ShVal sh52_13 → Option R52} (hL : L.length ≤ 8) (hEL : E.length = L.length) : ∀ (xs preL : List Po) (ks preE : List Int) (acc : Int) (F : Nat), preL ++ xs = L → preE ++ ks = E → preE.length = preL.length → ks.length = xs.length → ks.length < F → Kind p d xs → (∀ k ∈ ks, 0 ≤ k) → 0 ≤ acc → acc + 144 * (ks.length : Int) ≤ 100000 →
    iter (fun s k => st52_13 cf64 cf115 cf116 F0 s k kx) F ((L, ()), ((E, ()), (z, ((acc, ()), (((preE.length : Int), ()), ()))))) = (match goS acc ks xs with | some s => kx ((L, ()), ((E, ()), (z, ((s, ()), (((E.length : Int), ()), ()))))) | none => some (bad 3))
  | xs, preL, [], preE, acc, F, e1, e2, e3, e4, hF, hK, hk, h0, hb => by
    obtain ⟨F, rfl⟩ : ∃ f, F = f + 1 := ⟨F - 1, by simp at hF; omega⟩
    obtain rfl : xs = [] := List.eq_nil_of_length_eq_zero (by simpa using e4.symm)
    rw [List.append_nil] at e2; subst e2
    simp only [iter, st52_13]
    simp (disch := omega) only [dln_t, cond_true, ofn, dlt_f, cond_false, goS]
  | [], preL, k :: ks, preE, acc, F, e1, e2, e3, e4, hF, hK, hk, h0, hb => by simp at e4
  | x :: xs, preL, k :: ks, preE, acc, F, e1, e2, e3, e4, hF, hK, hk, h0, hb => by
    obtain ⟨F, rfl⟩ : ∃ f, F = f + 1 := ⟨F - 1, by simp at hF; omega⟩
    have l1 : preE.length < L.length := by rw [← e1, e3]; simp
    have l2 : preE.length < E.length := by omega
    have gx : L.getD preE.length DPo = x := by rw [← e1, e3, List.getD_eq_getElem?_getD, List.getElem?_append_right (Nat.le_refl _)]; simp
    have gk : E.getD preE.length 0 = k := by rw [← e2, List.getD_eq_getElem?_getD, List.getElem?_append_right (Nat.le_refl _)]; simp
    obtain ⟨m1, m2, m3, m4, m5⟩ := hK.mem x (.head _)
    have hdr := degI_rng m3 m4 (by omega)
    have k0 := hk k (.head _)
    have hok := okTs_of m3 m4 (by omega)
    have g : cf115 (x, ()) = some (degI (tms x), ()) := g115_ok (p := x.1) (v := x.2.1) hok
    simp only [iter, st52_13]
    simp (disch := omega) only [dln_t, cond_true, ofn, dlt_t, ib_t, tn_cast, gk]
    simp only [goS]
    by_cases c : 12 < k
    · rw [dlt_t c, if_pos c]; rfl
    · rw [dlt_f (by omega), if_neg c, cond_false]
      show (match cf115 (L.getD preE.length DPo, ()) with | some r29 => _ | none => none) = _
      rw [gx, g]
      have hm1 : 0 ≤ k * degI (tms x) := Int.mul_nonneg k0 (by omega)
      have hm2 : k * degI (tms x) ≤ 12 * 12 := Int.mul_le_mul (by omega) (by omega) (by omega) (by omega)
      have ih := l52_13 (z := z) (F0 := F0) (kx := kx) hL hEL xs (preL ++ [x]) ks (preE ++ [k]) (acc + k * degI (tms x)) F (by simpa using e1) (by simpa using e2) (by simp [e3]) (by simpa using e4) (by simp at hF; omega) ⟨hK.pr, fun y hy => hK.mem y (.tail _ hy)⟩ (fun y hy => hk y (.tail _ hy)) (by omega) (by simp only [List.length_cons] at hb; omega)
      simp only [List.length_append, List.length_singleton] at ih
      have w1 : w6 (k * degI (tms x)) = k * degI (tms x) := w6_id (by omega) (by omega)
      have w2 : w6 (acc + k * degI (tms x)) = acc + k * degI (tms x) := w6_id (by omega) (by simp only [List.length_cons] at hb; omega)
      have w3 : w6 ((preE.length : Int) + 1) = ((preE.length + 1 : Nat) : Int) := (w6_id (by omega) (by omega)).trans (by omega)
      simp only [w1, w2, w3]
      exact ih
theorem l53_14 {p d : Int} {L : List Po} {E : List Int} {z : Po} {F0 : Nat} {kx : ShVal sh53_14 → Option R53} (hL : L.length ≤ 8) (hEL : E.length = L.length) : ∀ (xs preL : List Po) (ks preE : List Int) (acc : Int) (F : Nat), preL ++ xs = L → preE ++ ks = E → preE.length = preL.length → ks.length = xs.length → ks.length < F → Kind p d xs → (∀ k ∈ ks, 0 ≤ k) → 0 ≤ acc → acc + 144 * (ks.length : Int) ≤ 100000 →
    iter (fun s k => st53_14 cf67 cf117 cf118 F0 s k kx) F ((L, ()), ((E, ()), (z, ((acc, ()), ((E, ()), (((E.length : Int), ()), (((preE.length : Int), ()), ()))))))) = (match goS acc ks xs with | some s => kx ((L, ()), ((E, ()), (z, ((s, ()), ((E, ()), (((E.length : Int), ()), (((E.length : Int), ()), ()))))))) | none => some (bad 3))
  | xs, preL, [], preE, acc, F, e1, e2, e3, e4, hF, hK, hk, h0, hb => by
    obtain ⟨F, rfl⟩ : ∃ f, F = f + 1 := ⟨F - 1, by simp at hF; omega⟩
    obtain rfl : xs = [] := List.eq_nil_of_length_eq_zero (by simpa using e4.symm)
    rw [List.append_nil] at e2; subst e2
    simp only [iter, st53_14]
    simp (disch := omega) only [cond_true, ofn, dlt_f, cond_false, goS]
  | [], preL, k :: ks, preE, acc, F, e1, e2, e3, e4, hF, hK, hk, h0, hb => by simp at e4
  | x :: xs, preL, k :: ks, preE, acc, F, e1, e2, e3, e4, hF, hK, hk, h0, hb => by
    obtain ⟨F, rfl⟩ : ∃ f, F = f + 1 := ⟨F - 1, by simp at hF; omega⟩
    have l1 : preE.length < L.length := by rw [← e1, e3]; simp
    have l2 : preE.length < E.length := by omega
    have gx : L.getD preE.length DPo = x := by rw [← e1, e3, List.getD_eq_getElem?_getD, List.getElem?_append_right (Nat.le_refl _)]; simp
    have gk : E.getD preE.length 0 = k := by rw [← e2, List.getD_eq_getElem?_getD, List.getElem?_append_right (Nat.le_refl _)]; simp
    obtain ⟨m1, m2, m3, m4, m5⟩ := hK.mem x (.head _)
    have hdr := degI_rng m3 m4 (by omega)
    have k0 := hk k (.head _)
    have hok := okTs_of m3 m4 (by omega)
    have g : cf117 (x, ()) = some (degI (tms x), ()) := g117_ok (p := x.1) (v := x.2.1) hok
    simp only [iter, st53_14]
    simp (disch := omega) only [cond_true, ofn, dlt_t, ib_t, tn_cast, gk]
    simp only [goS]
    by_cases c : 12 < k
    · rw [dlt_t c, if_pos c]; rfl
    · rw [dlt_f (by omega), if_neg c, cond_false]
      show (match cf117 (L.getD preE.length DPo, ()) with | some r34 => _ | none => none) = _
      rw [gx, g]
      have hm1 : 0 ≤ k * degI (tms x) := Int.mul_nonneg k0 (by omega)
      have hm2 : k * degI (tms x) ≤ 12 * 12 := Int.mul_le_mul (by omega) (by omega) (by omega) (by omega)
      have ih := l53_14 (z := z) (F0 := F0) (kx := kx) hL hEL xs (preL ++ [x]) ks (preE ++ [k]) (acc + k * degI (tms x)) F (by simpa using e1) (by simpa using e2) (by simp [e3]) (by simpa using e4) (by simp at hF; omega) ⟨hK.pr, fun y hy => hK.mem y (.tail _ hy)⟩ (fun y hy => hk y (.tail _ hy)) (by omega) (by simp only [List.length_cons] at hb; omega)
      simp only [List.length_append, List.length_singleton] at ih
      have w1 : w6 (k * degI (tms x)) = k * degI (tms x) := w6_id (by omega) (by omega)
      have w2 : w6 (acc + k * degI (tms x)) = acc + k * degI (tms x) := w6_id (by omega) (by simp only [List.length_cons] at hb; omega)
      have w3 : w6 ((preE.length : Int) + 1) = ((preE.length + 1 : Nat) : Int) := (w6_id (by omega) (by omega)).trans (by omega)
      simp only [w1, w2, w3]
      exact ih
theorem goS_sum : ∀ {ks : List Int} {xs : List Po} {acc s : Int}, goS acc ks xs = some s → ks.length = xs.length → s = acc + sumD ks xs ∧ ∀ k ∈ ks, k ≤ 12
  | [], [], acc, s, h, _ => by simp only [goS, Option.some.injEq] at h; simp [sumD, h]
  | [], _ :: _, acc, s, h, hl => by simp at hl
  | _ :: _, [], acc, s, h, hl => by simp at hl
  | k :: ks, x :: xs, acc, s, h, hl => by
    simp only [goS] at h
    split at h
    · cases h
    · rename_i c
      obtain ⟨q1, q2⟩ := goS_sum h (by simpa using hl)
      refine ⟨by simp only [sumD]; omega, fun y hy => ?_⟩
      rcases List.mem_cons.1 hy with rfl | hy
      · omega
      · exact q2 y hy


theorem kind_of {L : List Po} (hs : smallV L) (h : lc L = 0) : Kind (L.getD 0 DPo).1 (L.getD 0 DPo).2.1 L ∧ L ≠ [] ∧ L.length ≤ 8 := by
  unfold lc at h
  cases hv : L.all vP with
  | false => rw [hv] at h; simp at h
  | true =>
    rw [hv, cond_true] at h
    by_cases c0 : (L.length : Int) = 0
    · rw [deq_t c0] at h; simp at h
    · rw [deq_f c0, cond_false] at h
      cases hg : (L.all (gd (L.getD 0 DPo)) && decide ((L.length : Int) ≤ 8)) with
      | false => rw [hg] at h; simp at h
      | true =>
        simp only [Bool.and_eq_true, decide_eq_true_eq] at hg
        have hne : L ≠ [] := fun q => c0 (by rw [q]; rfl)
        have hpos : 0 < L.length := List.length_pos_iff.2 hne
        have h0 := memG (d := DPo) hpos
        obtain ⟨pr, _⟩ := vP_can (hs.2 _ h0) (List.all_eq_true.1 hv _ h0)
        refine ⟨⟨pr, fun x hx => ?_⟩, hne, by omega⟩
        have g := List.all_eq_true.1 hg.1 x hx
        obtain ⟨_, _, c1, c2⟩ := vP_can (hs.2 x hx) (List.all_eq_true.1 hv x hx)
        simp only [gd, alB, Bool.and_eq_true, decide_eq_true_eq, Bool.not_eq_true', decide_eq_false_iff_not] at g
        obtain ⟨⟨⟨g1, g2⟩, g3⟩, _⟩ := g
        exact ⟨g1, g2, by rw [← g1]; exact c1, c2, by omega⟩

theorem prodP_fine {p d : Int} : ∀ {ks : List Int} {xs : List Po} {a : List term.den} {D : Int}, Kind p d xs → (∀ k ∈ ks, 0 ≤ k ∧ k ≤ 12) → CanT p a → DegLe D a → 0 ≤ D → D + sumD ks xs ≤ 12 → (prodP p ks xs a).length ≤ 1000000
  | [], xs, a, D, hK, hk, ha, hD, h0, hs => by
    have hs' : D ≤ 12 := by cases xs <;> simp [sumD] at hs <;> omega
    have := can_len ha hD (by omega)
    cases xs <;> simp only [prodP] <;> omega
  | k :: ks, [], a, D, hK, hk, ha, hD, h0, hs => by
    have hs' : D ≤ 12 := by simp [sumD] at hs; omega
    have := can_len ha hD (by omega)
    simp only [prodP]; omega
  | k :: ks, x :: xs, a, D, hK, hk, ha, hD, h0, hs => by
    obtain ⟨m1, m2, m3, m4, m5⟩ := hK.mem x (.head _)
    obtain ⟨k0, k12⟩ := hk k (.head _)
    obtain ⟨n, rfl⟩ := Int.eq_ofNat_of_zero_le k0
    have hK' : Kind p d xs := ⟨hK.pr, fun y hy => hK.mem y (.tail _ hy)⟩
    have hk' : ∀ y ∈ ks, 0 ≤ y ∧ y ≤ 12 := fun y hy => hk y (.tail _ hy)
    have hsn := sumD_nn hK' hk'
    simp only [sumD] at hs
    obtain ⟨q1, q2⟩ := powP_fine hK.pr m3 m5 n a D ha hD h0 (by omega)
    have hnn : 0 ≤ (n : Int) * degI (tms x) := Int.mul_nonneg (by omega) (by omega)
    exact prodP_fine (ks := ks) (xs := xs) (a := powP p (tms x) n a) hK' hk' q1 q2 (by omega) (by omega)

theorem same52 {L : List Po} {E : List Int} (hs : smallV L) (hE : E.length ≤ 1100000) : ∃ (q v : Int) (ts : List term.den) (c : Int), ts.length ≤ 1000000 ∧ cf52 (L, E, ()) = some ((q, v, ts, ()), c, ()) ∧ cf53 (L, E, ()) = some ((q, v, ts, ()), c, ()) := by
  have hL := hs.1
  simp only [cf52, cf53, fn52, fn53]
  rw [g64_ok hs (by omega), g67_ok hs]
  simp only
  by_cases h0 : lc L = 0
  · obtain ⟨hK, hne, h8⟩ := kind_of hs h0
    rw [deq_t h0]
    simp only [Bool.not_true, cond_false, ofn]
    rw [dln_t (show E.length ≤ 9223372036854775807 by omega), dln_t (show L.length ≤ 9223372036854775807 by omega)]
    simp only [cond_true]
    by_cases hl : E.length = L.length
    · rw [deq_t (show (E.length : Int) = (L.length : Int) by omega)]
      simp only [Bool.not_true, cond_false, ru52_7, ru53_7]
      rw [show ∀ z : Po, ((z.1, (z.2.1, (z.2.2.1, ()))) : Po) = z from fun z => rfl]
      rw [l52_7 hE (by omega), l53_7 hE (by omega)]
      cases hn : E.all nn with
      | false => exact ⟨0, 0, [], 2, by simp, rfl, rfl⟩
      | true =>
        have hnn : ∀ k ∈ E, 0 ≤ k := fun k hk => by
          have := List.all_eq_true.1 hn k hk
          simp only [nn, Bool.not_eq_true', decide_eq_false_iff_not] at this; omega
        simp only [cond_true]
        rw [dln_t (show E.length ≤ 9223372036854775807 by omega)]
        simp only [cond_true, ru52_13, ru53_14]
        have k1 := fun kx => l52_13 (z := DPo) (F0 := 20) (kx := kx) h8 hl L [] E [] 0 20 rfl rfl rfl hl (by omega) hK hnn (Int.le_refl _) (by omega)
        have k2 := fun kx => l53_14 (z := DPo) (F0 := 20) (kx := kx) h8 hl L [] E [] 0 20 rfl rfl rfl hl (by omega) hK hnn (Int.le_refl _) (by omega)
        cases hg : goS 0 E L with
        | none =>
          rw [hg] at k1 k2
          exact ⟨0, 0, [], 3, by simp, k1 _, k2 _⟩
        | some s =>
          rw [hg] at k1 k2
          obtain ⟨es, e12⟩ := goS_sum hg hl
          rw [Int.zero_add] at es
          by_cases c12 : 12 < s
          · refine ⟨0, 0, [], 3, by simp, (k1 _).trans ?_, (k2 _).trans ?_⟩
            · show (bif decide ((12 : Int) < s) then _ else _) = _
              rw [dlt_t c12]; rfl
            · show (bif decide ((12 : Int) < s) then _ else _) = _
              rw [dlt_t c12]; rfl
          · have hP : HasP (L.getD 0 DPo).1 (L.getD 0 DPo).2.1 L E := ⟨hK, hne, hl, by omega, fun k hk => ⟨hnn k hk, e12 k hk⟩, by omega⟩
            obtain ⟨o1, o2⟩ := one_fine hK.pr
            have g1 : cf116 (L, E, ()) = some (((L.getD 0 DPo).1, (L.getD 0 DPo).2.1, prodP (L.getD 0 DPo).1 E L (oneP (L.getD 0 DPo).1 e0 1), ()), ()) := if_pos hP
            have g2 : cf118 (L, E, ()) = some (((L.getD 0 DPo).1, (L.getD 0 DPo).2.1, prodP (L.getD 0 DPo).1 E L (oneP (L.getD 0 DPo).1 e0 1), ()), ()) := if_pos hP
            refine ⟨(L.getD 0 DPo).1, (L.getD 0 DPo).2.1, prodP (L.getD 0 DPo).1 E L (oneP (L.getD 0 DPo).1 e0 1), 0, prodP_fine hK (fun k hk => ⟨hnn k hk, e12 k hk⟩) o1 o2 (Int.le_refl _) (by omega), (k1 _).trans ?_, (k2 _).trans ?_⟩
            · show (bif decide ((12 : Int) < s) then _ else (match cf116 (L, E, ()) with | some r28 => _ | none => none)) = _
              rw [dlt_f (by omega), cond_false, g1]
            · show (bif decide ((12 : Int) < s) then _ else (match cf118 (L, E, ()) with | some r32 => _ | none => none)) = _
              rw [dlt_f (by omega), cond_false, g2]
    · rw [deq_f (show (E.length : Int) ≠ (L.length : Int) by omega)]
      exact ⟨0, 0, [], 2, by simp, rfl, rfl⟩
  · rw [deq_f h0]
    exact ⟨0, 0, [], lc L, by simp, rfl, rfl⟩

theorem law12_one : KOne Try.prog 12 ⟨[.v (.slice 84 lpoly), .v (.slice 2 i64)], [.bool], false, false, 0, fun x => bif okA [.v (.slice 84 lpoly), .v (.slice 2 i64)] x then some (true, ()) else none⟩ :=
  ok12 _ _ _ _ _ _ _ _ _ _ _ _ (.cons k21 (.cons k23 (.cons k37 (.cons k52 (.cons k39 (.cons k18b (.cons k27 (.cons k40 (.cons k41 (.cons k19b (.cons k26 (.cons k53 .nil)))))))))))) _ fun x y h => by
    obtain ⟨L, E, _⟩ := x
    change List Po at L
    change List Int at E
    cases hx : okA [.v (.slice 84 lpoly), .v (.slice 2 i64)] (L, E, ()) with
    | false => simp only [hx, cond_false] at h; cases h
    | true =>
      simp only [hx, cond_true] at h
      injection h with h; subst h
      refine ⟨0, ?_⟩
      simp only [okA, okV, Bool.and_true, Bool.and_eq_true, decide_eq_true_eq] at hx
      obtain ⟨⟨x1, x2⟩, x3, _⟩ := hx
      have x1 : L.length ≤ 9223372036854775807 := x1
      have x3 : E.length ≤ 9223372036854775807 := x3
      have x2 : ∀ z ∈ L, (tms z).length ≤ 9223372036854775807 ∧ ∀ t ∈ tms z, okX t.1 := fun z hz => by
        have := List.all_eq_true.1 x2 z hz
        obtain ⟨p, d, l, u⟩ := z
        change List term.den at l
        simp only [okV, Bool.and_true, Bool.and_eq_true, decide_eq_true_eq] at this
        obtain ⟨_, _, t1, t2⟩ := this
        refine ⟨t1, fun t ht => ?_⟩
        have := List.all_eq_true.1 t2 t ht
        obtain ⟨⟨a, b, c, _⟩, v, _⟩ := t
        simp [okV, okV.okT, kwf, IntKind.min, IntKind.max, IntKind.bits, IntKind.signed] at this
        change Int at a; change Int at b; change Int at c
        show (0 ≤ a ∧ a ≤ 255) ∧ (0 ≤ b ∧ b ≤ 255) ∧ (0 ≤ c ∧ c ≤ 255)
        exact this.1
      simp only [fn12, ofn]
      rw [dln_t x3, cond_true]
      by_cases hbig : (1048576 : Int) < E.length
      · rw [dlt_t hbig, cond_true]
      · rw [dlt_f (by omega), cond_false]
        have c21 := g21_ok x1 fun z hz => (x2 z hz).1
        rw [c21]
        show (bif decide (sz21 L < 0) then _ else _) = _
        by_cases hsz : sz21 L < 0
        · rw [dlt_t hsz, cond_true]
        · rw [dlt_f (by omega), cond_false]
          have hsm := sz21_small (by omega : 0 ≤ sz21 L)
          have hsP := smallP_of hsm
          have hsV : smallV L := ⟨hsP.1, fun z hz => ⟨hsP.2 z hz, (x2 z hz).2⟩⟩
          have hE : E.length ≤ 1100000 := by omega
          obtain ⟨q, v, ts, c, hl, e1, e2⟩ := same52 hsV hE
          obtain ⟨M, n, c27, n0, n1⟩ := g27_ok hsm
          have c23 := g23_ok hsP
          have c37 := g37_ok hE
          have c39 := g39_ok (p := q) (v := v) hl
          have c40 := g40_ok (p := q) (v := v) (k := 1) hl (by omega)
          have c41 := g41_ok (p := q) (v := v) (k := 1) (n := ts.length) hl (by omega)
          have c18 := g18b_ok hE
          have c19 := g19b_ok (k := n) hE ⟨n0, by omega⟩
          have c26 := g26_ok hsP
          simp (disch := omega) only [c23, c37, e1, e2, c39, c26, c18, c27, c19, c40, c41, Bool.not_true, cond_false, deq_t, decide_true, dlt_f]

end Go.Proofs.YtkoifikjfnbcpaaEv
