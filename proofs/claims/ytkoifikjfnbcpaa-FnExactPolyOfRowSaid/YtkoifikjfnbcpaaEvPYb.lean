/- PolyOfRow: the program's polynomial of a row is the reference's, and the law's text comes to true. -/
import Derived.Test.YtkoifikjfnbcpaaEvPYa
import Derived.Test.YtkoifikjfnbcpaaEvL6
set_option linter.unusedVariables false
set_option linter.unusedSimpArgs false
namespace Go.Proofs.YtkoifikjfnbcpaaEv
open Go Go.RowKit Go.Proofs

def rowT : List ex.den → List Int → List term.den
  | e :: m, x :: r => if x = 0 then rowT m r else (e, x, ()) :: rowT m r
  | _, _ => []
def rowL : List ex.den → List Int → Lg → Lg
  | e :: m, x :: r, l => rowL m r ((e, x) :: l)
  | _, _, l => l
def valR : List ex.den → List Int → ex.den → Int
  | e' :: m, x :: r, e => if e' = e then x else valR m r e
  | _, _, _ => 0
theorem valR_none : ∀ {m : List ex.den} {r : List Int} {e : ex.den}, (∀ a ∈ m, a ≠ e) → valR m r e = 0
  | [], r, e, _ => by cases r <;> rfl
  | a :: m, [], e, _ => rfl
  | a :: m, x :: r, e, h => by
    simp only [valR]; rw [if_neg (h a (.head _))]; exact valR_none fun b hb => h b (.tail _ hb)
theorem rowT_mem : ∀ {m : List ex.den} {r : List Int} {t : term.den}, t ∈ rowT m r → t.1 ∈ m ∧ nT t ∈ r ∧ nT t ≠ 0
  | [], r, t, h => by cases r <;> cases h
  | a :: m, [], t, h => by cases h
  | a :: m, x :: r, t, h => by
    simp only [rowT] at h
    split at h
    · obtain ⟨h1, h2, h3⟩ := rowT_mem h
      exact ⟨.tail _ h1, .tail _ h2, h3⟩
    · rename_i hx
      rcases List.mem_cons.1 h with rfl | h
      · exact ⟨.head _, .head _, hx⟩
      · obtain ⟨h1, h2, h3⟩ := rowT_mem h
        exact ⟨.tail _ h1, .tail _ h2, h3⟩
theorem rowT_len : ∀ {m : List ex.den} {r : List Int}, (rowT m r).length ≤ m.length
  | [], r => by cases r <;> exact Nat.le_refl _
  | a :: m, [] => Nat.zero_le _
  | a :: m, x :: r => by
    simp only [rowT]
    have := rowT_len (m := m) (r := r)
    split <;> simp <;> omega
theorem rowT_can {p : Int} : ∀ {m : List ex.den} {r : List Int}, m.Pairwise (fun a b => keyX a < keyX b) → (∀ e ∈ m, okX e) → (∀ x ∈ r, 0 ≤ x ∧ x < p) → CanT p (rowT m r)
  | m, r, hs, ho, hr => by
    refine ⟨?_, fun t ht => ?_⟩
    · induction m generalizing r with
      | nil => cases r <;> exact .nil
      | cons a m ih =>
        cases r with
        | nil => exact .nil
        | cons x r =>
          have h1 := List.pairwise_cons.1 hs
          have ihh := ih (r := r) h1.2 (fun e he => ho e (.tail _ he)) (fun x hx => hr x (.tail _ hx))
          simp only [rowT]
          split
          · exact ihh
          · exact List.pairwise_cons.2 ⟨fun t ht => h1.1 _ (rowT_mem ht).1, ihh⟩
    · obtain ⟨h1, h2, h3⟩ := rowT_mem ht
      have := hr _ h2
      refine ⟨ho _ h1, ?_, this.2⟩
      show (0 : Int) < nT t
      omega
theorem ne_of_srt {a : ex.den} {m : List ex.den} (h : (a :: m).Pairwise (fun a b => keyX a < keyX b)) : ∀ b ∈ m, b ≠ a := fun b hb q => by
  have := (List.pairwise_cons.1 h).1 b hb
  rw [q] at this; omega
theorem coT_row : ∀ {m : List ex.den} {r : List Int} {e : ex.den}, m.Pairwise (fun a b => keyX a < keyX b) → coT (rowT m r) e = valR m r e
  | [], r, e, _ => by cases r <;> rfl
  | a :: m, [], e, _ => rfl
  | a :: m, x :: r, e, hs => by
    have ih := coT_row (r := r) (e := e) (List.pairwise_cons.1 hs).2
    simp only [rowT, valR]
    by_cases hx : x = 0
    · rw [if_pos hx, ih]
      by_cases q : a = e
      · subst q; rw [if_pos rfl, hx]; exact valR_none (ne_of_srt hs)
      · rw [if_neg q]
    · rw [if_neg hx]
      simp only [coT]
      by_cases q : a = e
      · rw [if_pos q, if_pos q]
      · rw [if_neg q, if_neg q]; exact ih
theorem rowL_get : ∀ {m : List ex.den} {r : List Int} {l : Lg} {e : ex.den}, m.Pairwise (fun a b => keyX a < keyX b) → m.length = r.length → mgI (rowL m r l) e = if e ∈ m then valR m r e else mgI l e
  | [], r, l, e, _, _ => by cases r <;> simp [rowL]
  | a :: m, [], l, e, _, hl => by simp at hl
  | a :: m, x :: r, l, e, hs, hl => by
    have ih := rowL_get (r := r) (l := (a, x) :: l) (e := e) (List.pairwise_cons.1 hs).2 (by simpa using hl)
    simp only [rowL, valR]
    rw [ih, mgI_cons]
    by_cases q : a = e
    · subst q
      have : a ∉ m := fun h => ne_of_srt hs a h rfl
      rw [if_neg this, if_pos rfl, if_pos (.head _), if_pos rfl]
    · rw [if_neg q, if_neg q]
      by_cases z : e ∈ m
      · rw [if_pos z, if_pos (.tail _ z)]
      · rw [if_neg z, if_neg (fun h => by rcases List.mem_cons.1 h with h | h; exact q h.symm; exact z h)]
theorem rowL_keys : ∀ {m : List ex.den} {r : List Int} {l : Lg}, (∀ q ∈ lkeys (rowL m r l), q ∈ lkeys l ∨ q ∈ m) ∧ (lkeys (rowL m r l)).length ≤ (lkeys l).length + m.length
  | [], r, l => by cases r <;> exact ⟨fun q h => .inl h, Nat.le_refl _⟩
  | a :: m, [], l => ⟨fun q h => .inl h, by simp only [rowL]; omega⟩
  | a :: m, x :: r, l => by
    obtain ⟨h1, h2⟩ := rowL_keys (m := m) (r := r) (l := (a, x) :: l)
    obtain ⟨c, d⟩ := lkeys_cons (x := a) (y := x) (m := l)
    refine ⟨fun q h => ?_, ?_⟩
    · rcases h1 q h with h | h
      · rcases c q h with h | h
        · exact .inr (h ▸ .head _)
        · exact .inl h
      · exact .inr (.tail _ h)
    · refine Nat.le_trans h2 ?_
      simp only [List.length_cons]; omega

theorem row_same {p v : Int} {m : List ex.den} {r : List Int} (h1 : 0 < p) (h2 : p ≤ 1000000) (hs : m.Pairwise (fun a b => keyX a < keyX b)) (ho : ∀ e ∈ m, okX e) (hr : ∀ x ∈ r, 0 ≤ x ∧ x < p) (hl : m.length = r.length) :
    sumP p v (rowL m r []) = (p, v, rowT m r, ()) := by
  have ok : ∀ q ∈ lkeys (rowL m r []), okX q := fun q hq => by
    rcases rowL_keys.1 q hq with h | h
    · cases h
    · exact ho q h
  obtain ⟨s1, s2⟩ := sumP_can (v := v) h1 h2 ok
  have c := rowT_can (p := p) hs ho hr
  have : (sumP p v (rowL m r [])).2.2.1 = rowT m r := can_unique s1 c fun e => by
    rw [s2 e]
    show mgI _ e % p = _
    rw [rowL_get hs hl, coT_row hs]
    have hv : ∀ {m : List ex.den} {r : List Int}, (∀ x ∈ r, 0 ≤ x ∧ x < p) → 0 ≤ valR m r e ∧ valR m r e < p := by
      intro m
      induction m with
      | nil => intro r _; cases r <;> exact ⟨Int.le_refl _, h1⟩
      | cons a m ih =>
        intro r hr
        cases r with
        | nil => exact ⟨Int.le_refl _, h1⟩
        | cons x r =>
          simp only [valR]
          split
          · exact hr x (.head _)
          · exact ih fun x hx => hr x (.tail _ hx)
    split
    · have := hv (m := m) hr
      exact Int.emod_eq_of_lt this.1 this.2
    · rename_i z
      rw [valR_none (fun a ha q => z (by rw [← q]; exact ha))]; rfl
  show (p, v, (sumP p v (rowL m r [])).2.2.1, ()) = _
  rw [this]

def cf85 : G85 := fn85 cf84 cf97 200
theorem k85 : KOne Try.prog 85 ⟨[.v i64, .v i64, .v i64, .v (.slice 2 i64)], [poly], true, false, 0, cf85⟩ := ok85 _ _ (.cons k84 (.cons k97 .nil)) cf85 fun x y h => ⟨200, h⟩
noncomputable def cf90 : G90 := fn90 cf103 cf88 200
theorem k90 : KOne Try.prog 90 ⟨[.v i64, .v i64, .v i64, .v (.slice 2 i64)], [poly], true, false, 0, cf90⟩ := ok90 _ _ (.cons k103 (.cons k88 .nil)) cf90 fun x y h => ⟨200, h⟩

theorem getD_preN {α : Type} {pre r : List α} {t d : α} {n : Nat} (h : n = pre.length) : (pre ++ t :: r).getD n d = t := by subst h; exact getD_pre
theorem run85 {p d : Int} {z : poly.den} {F0 : Nat} : ∀ (m2 : List ex.den) (r2 r1 : List Int) (m1 : List ex.den) (acc : List term.den) (F : Nat), m1.length = r1.length → m2.length = r2.length → m2.length < F → (m1 ++ m2).length ≤ 1000 → acc.length ≤ m1.length →
    iter (fun s k => st85_3 cf84 cf97 F0 s k (fun s' => match s' with | ((t3, _), (t8_0, t8_1, t8_2, _), (t9, _), (t10_0, t10_1, t10_2, _), (t11, _), _) => (some ((t10_0, (t10_1, (t10_2, ()))), ())))) F ((r1 ++ r2, ()), (z, ((m1 ++ m2, ()), ((p, d, acc, ()), (((m1.length : Int), ()), ()))))) = some ((p, d, acc ++ rowT m2 r2, ()), ())
  | [], r2, r1, m1, acc, F, h1, h2, hF, hl, ha => by
    obtain ⟨F, rfl⟩ : ∃ f, F = f + 1 := ⟨F - 1, by simp at hF; omega⟩
    obtain rfl : r2 = [] := List.eq_nil_of_length_eq_zero h2.symm
    rw [List.append_nil] at hl ⊢
    rw [List.append_nil]
    simp only [iter, st85_3]
    simp (disch := omega) only [dln_t, cond_true, ofn, dlt_f, cond_false]
    simp [rowT]
  | e :: m2, [], r1, m1, acc, F, h1, h2, hF, hl, ha => by simp at h2
  | e :: m2, x :: r2, r1, m1, acc, F, h1, h2, hF, hl, ha => by
    obtain ⟨F, rfl⟩ : ∃ f, F = f + 1 := ⟨F - 1, by simp at hF; omega⟩
    have l1 : m1.length < (m1 ++ e :: m2).length := by simp
    have l2 : m1.length < (r1 ++ x :: r2).length := by simp; omega
    have g1 : (r1 ++ x :: r2).getD m1.length 0 = x := getD_preN h1
    have g2 : ∀ dd, (m1 ++ e :: m2).getD m1.length dd = e := fun dd => getD_pre
    simp only [iter, st85_3]
    simp (disch := omega) only [dln_t, cond_true, ofn, dlt_t, ib_t, tn_cast, w6_id]
    simp only [g1, g2]
    by_cases hx : x = 0
    · rw [deq_t hx]
      simp only [Bool.not_true, cond_false]
      have ih := run85 (z := z) (p := p) (d := d) (F0 := F0) m2 r2 (r1 ++ [x]) (m1 ++ [e]) acc F (by simp [h1]) (by simpa using h2) (by simp at hF; omega) (by simpa using hl) (by simp; omega)
      simp only [List.append_assoc, List.singleton_append, List.length_append, List.length_singleton] at ih
      simp only [rowT, if_pos hx]
      exact ih
    · rw [deq_f hx]
      simp only [Bool.not_false, cond_true]
      rw [grow_t (by simp at hl ⊢; omega)]
      simp only [cond_true]
      have ih := run85 (z := z) (p := p) (d := d) (F0 := F0) m2 r2 (r1 ++ [x]) (m1 ++ [e]) (acc ++ [(e, x, ())]) F (by simp [h1]) (by simpa using h2) (by simp at hF; omega) (by simpa using hl) (by simp; omega)
      simp only [List.append_assoc, List.singleton_append, List.length_append, List.length_singleton] at ih
      simp only [rowT, if_neg hx]
      exact ih
theorem run90 {p d : Int} {z : poly.den} {F0 : Nat} {M : Nat} : ∀ (m2 : List ex.den) (r2 r1 : List Int) (m1 : List ex.den) (l : Lg) (F : Nat), m1.length = r1.length → m2.length = r2.length → m2.length < F → (m1 ++ m2).length = M → M ≤ 1000 →
    iter (fun s k => st90_3 cf103 cf88 F0 s k (fun s' => match s' with | ((t0, _), (t1, _), (t3, _), (t8_0, t8_1, t8_2, _), t9, (t15, _), (t16, _), (t17, _), _) => (match (cf103 (t9, (t0, (t1, ())))) with | some r21 => (some ((r21.1.1, (r21.1.2.1, (r21.1.2.2.1, ()))), ())) | none => none))) F ((p, ()), ((d, ()), ((r1 ++ r2, ()), (z, (l, ((m1 ++ m2, ()), (((M : Int), ()), (((m1.length : Int), ()), ())))))))) = (match (cf103 (rowL m2 r2 l, (p, (d, ())))) with | some r21 => (some ((r21.1.1, (r21.1.2.1, (r21.1.2.2.1, ()))), ())) | none => none)
  | [], r2, r1, m1, l, F, h1, h2, hF, hl, hM => by
    obtain ⟨F, rfl⟩ : ∃ f, F = f + 1 := ⟨F - 1, by simp at hF; omega⟩
    obtain rfl : r2 = [] := List.eq_nil_of_length_eq_zero h2.symm
    rw [List.append_nil] at hl ⊢
    rw [List.append_nil]
    simp only [iter, st90_3]
    simp (disch := omega) only [dlt_f, cond_false]
    rfl
  | e :: m2, [], r1, m1, l, F, h1, h2, hF, hl, hM => by simp at h2
  | e :: m2, x :: r2, r1, m1, l, F, h1, h2, hF, hl, hM => by
    obtain ⟨F, rfl⟩ : ∃ f, F = f + 1 := ⟨F - 1, by simp at hF; omega⟩
    have l1 : m1.length < (m1 ++ e :: m2).length := by simp
    have l2 : m1.length < (r1 ++ x :: r2).length := by simp; omega
    have g1 : (r1 ++ x :: r2).getD m1.length 0 = x := getD_preN h1
    have g2 : ∀ dd, (m1 ++ e :: m2).getD m1.length dd = e := fun dd => getD_pre
    simp only [iter, st90_3]
    simp (disch := omega) only [cond_true, ofn, dlt_t, ib_t, tn_cast, w6_id]
    simp only [g1, g2]
    have ih := run90 (z := z) (p := p) (d := d) (F0 := F0) (M := M) m2 r2 (r1 ++ [x]) (m1 ++ [e]) ((e, x) :: l) F (by simp [h1]) (by simpa using h2) (by simp at hF; omega) (by simpa using hl) hM
    simp only [List.append_assoc, List.singleton_append, List.length_append, List.length_singleton] at ih
    exact ih

end Go.Proofs.YtkoifikjfnbcpaaEv
