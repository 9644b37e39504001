/- The law's words for a polynomial: equal, marked, held. -/
import Derived.Test.YtkoifikjfnbcpaaEvPQ
import Derived.Test.YtkoifikjfnbcpaaEvSl
set_option linter.unusedVariables false
set_option linter.unusedSimpArgs false
namespace Go.Proofs.YtkoifikjfnbcpaaEv
open Go Go.RowKit Go.Proofs

theorem iter_s {S α : Type} {step : S → (S → Option α) → Option α} {f : Nat} {s : S} : iter step (f + 1) s = step s (iter step f) := rfl
def cf171 : G171 := fun x => if x.1 = x.2.1 then some (true, ()) else none
theorem k171 : KOne Try.prog 171 ⟨[.v ex, .v ex], [.bool], false, false, 0, cf171⟩ := ok171 .nil cf171 fun x y h => by
  obtain ⟨a, b, _⟩ := x
  simp only [cf171] at h
  split at h
  · rename_i hc
    injection h with h; subst h
    replace hc : a = b := hc
    subst hc
    obtain ⟨a0, a1, a2, _⟩ := a
    refine ⟨4, ?_⟩
    have e : ∀ x : Int, (!decide (x = x)) = false := fun x => by simp
    show (bif !decide (a0 = a0) then _ else bif !decide (a1 = a1) then _ else bif !decide (a2 = a2) then _ else _) = _
    rw [e, e, e]; rfl
  · cases h
def cf144 : G144 := fun x => if x.1.1 = x.2.1.1 ∧ x.1.2.1 = x.2.1.2.1 then some (true, ()) else none
theorem k144 : KOne Try.prog 144 ⟨[.v term, .v term], [.bool], false, false, 0, cf144⟩ := ok144 _ (.cons k171 .nil) cf144 fun x y h => by
  obtain ⟨a, b, _⟩ := x
  simp only [cf144] at h
  split at h
  · rename_i hc
    injection h with h; subst h
    have g : cf171 (a.1, b.1, ()) = some (true, ()) := if_pos hc.1
    refine ⟨0, ?_⟩
    simp only [fn144, g, Bool.not_true, cond_false]
    rw [show decide (a.2.1 = b.2.1) = true from decide_eq_true hc.2]; rfl
  · cases h
theorem run92 {ts : List term.den} (h : ts.length ≤ 2000000) {F0 : Nat} : ∀ (r pre : List term.den) (F : Nat), r.length < F → pre ++ r = ts →
    iter (fun s k => st92_4 cf144 F0 s k (fun s' => match s' with | ((t0, _), (t1, _), (t5, _), _) => (some (true, ())))) F ((ts, ()), ((ts, ()), (((pre.length : Int), ()), ()))) = some (true, ())
  | [], pre, F, hF, hl => by
    obtain ⟨F, rfl⟩ : ∃ f, F = f + 1 := ⟨F - 1, by simp at hF; omega⟩
    have hlen : pre.length = ts.length := by rw [← hl]; simp
    simp only [iter, st92_4]
    simp (disch := omega) only [dln_t, cond_true, ofn, dlt_f, cond_false]
  | t :: r, pre, F, hF, hl => by
    obtain ⟨F, rfl⟩ : ∃ f, F = f + 1 := ⟨F - 1, by simp at hF; omega⟩
    have hpl : pre.length < ts.length := by rw [← hl]; simp
    have wi : w6 ((pre.length : Int) + 1) = ((pre ++ [t]).length : Int) := by rw [w6_i (by omega) (by omega)]; simp
    have ih := run92 h (F0 := F0) r (pre ++ [t]) F (by simp at hF; omega) (by simpa using hl)
    rw [← wi] at ih
    simp only [iter]
    generalize iter (fun s k => st92_4 cf144 F0 s k (fun s' => match s' with | ((t0, _), (t1, _), (t5, _), _) => (some (true, ())))) F = K at ih ⊢
    simp only [st92_4]
    have g : ∀ z : term.den, cf144 (z, z, ()) = some (true, ()) := fun z => if_pos ⟨rfl, rfl⟩
    simp (disch := omega) only [dln_t, cond_true, ofn, dlt_t, ib_t, tn_cast, g, Bool.not_true, cond_false]
    exact ih
def cf92 : G92 := fun x => if (show List term.den from x.1) = x.2.1 ∧ (show List term.den from x.1).length ≤ 2000000 then some (true, ()) else none
theorem k92 : KOne Try.prog 92 ⟨[.v (.slice 135 term), .v (.slice 135 term)], [.bool], false, false, 0, cf92⟩ := ok92 _ (.cons k144 .nil) cf92 fun x y h => by
  obtain ⟨a, b, _⟩ := x
  simp only [cf92] at h
  split at h
  · rename_i hc
    injection h with h; subst h
    obtain ⟨e, hl⟩ := hc
    replace e : a = b := e
    replace hl : List.length a ≤ 2000000 := hl
    subst e
    refine ⟨List.length a + 1, ?_⟩
    show (bif decide (List.length a ≤ _) then (bif decide (List.length a ≤ _) then (bif (!decide ((List.length a : Int) = (List.length a : Int))) then _ else _) else none) else none) = _
    rw [dln_t (by omega), cond_true, cond_true, deq_t rfl]
    exact run92 hl (F0 := List.length a + 1) a [] (List.length a + 1) (by omega) rfl
  · cases h
def cf39 : G39 := fun x => if x.1.1 = x.2.1.1 ∧ x.1.2.1 = x.2.1.2.1 ∧ (show List term.den from x.1.2.2.1) = x.2.1.2.2.1 ∧ (show List term.den from x.1.2.2.1).length ≤ 2000000 then some (true, ()) else none
theorem k39 : KOne Try.prog 39 ⟨[.v poly, .v poly], [.bool], false, false, 0, cf39⟩ := ok39 _ (.cons k92 .nil) cf39 fun x y h => by
  obtain ⟨⟨p, v, a, _⟩, ⟨q, w, b, _⟩, _⟩ := x
  simp only [cf39] at h
  split at h
  · rename_i hc
    injection h with h; subst h
    obtain ⟨h1, h2, h3, h4⟩ := hc
    refine ⟨0, ?_⟩
    have g : cf92 (a, b, ()) = some (true, ()) := if_pos ⟨h3, h4⟩
    show (bif (!decide (p = q)) then _ else (bif (!decide (v = w)) then _ else (match cf92 (a, b, ()) with | some r7 => _ | none => none))) = _
    rw [show decide (p = q) = true from decide_eq_true h1, show decide (v = w) = true from decide_eq_true h2, g]; rfl
  · cases h
theorem g39b_ok {p v : Int} {a : List term.den} (h : a.length ≤ 2000000) : cf39 ((p, v, a, ()), (p, v, a, ()), ()) = some (true, ()) := if_pos ⟨rfl, rfl, rfl, h⟩
theorem g39_ok {p v : Int} {a : List term.den} (h : a.length ≤ 1000000) : cf39 ((p, v, a, ()), (p, v, a, ()), ()) = some (true, ()) := g39b_ok (Nat.le_trans h (by omega))

/-! ### marks -/
theorem e40 (k : Int) : k + 4 * ((0 : Nat) : Int) = k := by omega
def mkOne (k : Int) : term.den := ((w8 k, w8 (k + 1), w8 (k + 2), ()), k + 3, ())
def mkT (k : Int) : Nat → List term.den
  | 0 => []
  | n + 1 => mkOne k :: mkT (k + 4) n
theorem mkT_len : ∀ (n : Nat) (k : Int), (mkT k n).length = n
  | 0, _ => rfl
  | n + 1, k => by simp [mkT, mkT_len n]
theorem mkT_snoc : ∀ (n : Nat) (k : Int), mkT k (n + 1) = mkT k n ++ [mkOne (k + 4 * (n : Int))]
  | 0, k => by simp [mkT]
  | n + 1, k => by
    show mkOne k :: mkT (k + 4) (n + 1) = _
    rw [mkT_snoc n (k + 4)]
    simp only [mkT, List.cons_append]
    rw [show k + 4 + 4 * (n : Int) = k + 4 * ((n + 1 : Nat) : Int) by omega]
theorem set_at {α : Type} {pre r : List α} {t x : α} : (pre ++ t :: r).set pre.length x = pre ++ x :: r := by
  induction pre with
  | nil => rfl
  | cons a p ih => simp [ih]
theorem in70 {k : Int} (hk : 0 ≤ k ∧ k ≤ 100000000000) {pre r : List term.den} {t : term.den} (hl : (pre ++ t :: r).length ≤ 2000000) {F0 F : Nat} (hF : 4 ≤ F) {kx : ShVal sh70_5 → Option R70} :
    iter (fun s k => st70_5 F0 s k kx) F ((pre ++ t :: r, ()), ((k, ()), (((pre.length : Int), ()), (((0 : Int), ()), ())))) = kx ((pre ++ (((w8 k, w8 (k + 1), w8 (k + 2), ()) : ex.den), t.2) :: r, ()), ((k + 3, ()), (((pre.length : Int), ()), (((3 : Int), ()), ())))) := by
  obtain ⟨F, rfl⟩ : ∃ f, F = f + 4 := ⟨F - 4, by omega⟩
  have hpl : pre.length < (pre ++ t :: r).length := by simp
  have hlen : ∀ z : term.den, (pre ++ z :: r).length = (pre ++ t :: r).length := fun z => by simp
  have a1 : w6 (k + 1) = k + 1 := w6_i (by omega) (by omega)
  have a2 : w6 (k + 1 + 1) = k + 2 := by rw [w6_i (by omega) (by omega)]; omega
  have a3 : w6 (k + 2 + 1) = k + 3 := by rw [w6_i (by omega) (by omega)]; omega
  have b1 : w6 ((0 : Int) + 1) = 1 := rfl
  have b2 : w6 ((1 : Int) + 1) = 2 := rfl
  have b3 : w6 ((2 : Int) + 1) = 3 := rfl
  have c0 : decide ((0 : Int) < 3) = true := rfl
  have c1 : decide ((1 : Int) < 3) = true := rfl
  have c2 : decide ((2 : Int) < 3) = true := rfl
  have c3 : decide ((3 : Int) < 3) = false := rfl
  have d0 : ib (0 : Int) (Int.ofNat 3) = true := rfl
  have d1 : ib (1 : Int) (Int.ofNat 3) = true := rfl
  have d2 : ib (2 : Int) (Int.ofNat 3) = true := rfl
  obtain ⟨⟨u0, u1, u2, u3⟩, tv⟩ := t
  have step : ∀ (z : term.den) (kk j : Int) (K : ShVal sh70_5 → Option R70), decide (j < 3) = true → ib j (Int.ofNat 3) = true → st70_5 F0 ((pre ++ z :: r, ()), ((kk, ()), (((pre.length : Int), ()), ((j, ()), ())))) K kx =
      K ((pre ++ ((tset (w8 kk) 3 z.1 (tn j)), z.2) :: r, ()), ((w6 (kk + 1), ()), (((pre.length : Int), ()), ((w6 (j + 1), ()), ())))) := fun z kk j K h1 h2 => by
    have e0 : ib (pre.length : Int) ((pre ++ z :: r).length : Int) = true := ib_t (by omega) (by rw [hlen z]; omega)
    simp only [st70_5, h1, cond_true, ofn, e0, h2, tn_cast, getD_pre, set_at]
    rw [show ib j ((3 : Nat) : Int) = true from h2]; rfl
  rw [show F + 4 = (F + 3) + 1 by omega, iter_s, step _ _ _ _ c0 d0, a1, b1, show F + 3 = (F + 2) + 1 by omega, iter_s, step _ _ _ _ c1 d1, a2, b2, show F + 2 = (F + 1) + 1 by omega, iter_s, step _ _ _ _ c2 d2, a3, b3, iter_s]
  simp only [st70_5, c3, cond_false]
  rfl
theorem run70 {k0 : Int} (hk : 0 ≤ k0 ∧ k0 ≤ 10000000000) {F0 : Nat} (hF0 : 4 ≤ F0) : ∀ (r : List term.den) (n F : Nat), r.length < F → n + r.length ≤ 2000000 →
    iter (fun s k => st70_2 F0 s k (fun s' => match s' with | ((t0, _), (t1, _), (t5, _), _) => (some (t0, (t1, ()))))) F ((mkT k0 n ++ r, ()), ((k0 + 4 * (n : Int), ()), (((n : Int), ()), ()))) = some (mkT k0 (n + r.length), k0 + 4 * ((n + r.length : Nat) : Int), ())
  | [], n, F, hF, hl => by
    obtain ⟨F, rfl⟩ : ∃ f, F = f + 1 := ⟨F - 1, by simp at hF; omega⟩
    have hm := mkT_len n k0
    rw [List.append_nil]
    simp only [List.length_nil, Nat.add_zero]
    generalize mkT k0 n = M at hm ⊢
    simp only [iter, st70_2]
    simp (disch := omega) only [dln_t, cond_true, ofn, dlt_f, cond_false]
  | t :: r, n, F, hF, hl => by
    obtain ⟨F, rfl⟩ : ∃ f, F = f + 1 := ⟨F - 1, by simp at hF; omega⟩
    have hm := mkT_len n k0
    simp only [List.length_cons] at hl
    have hl2 : (mkT k0 n ++ t :: r).length ≤ 2000000 := by simp [hm]; omega
    have hpl : n < (mkT k0 n ++ t :: r).length := by simp [hm]
    have wi : w6 ((n : Int) + 1) = ((n + 1 : Nat) : Int) := by rw [w6_i (by omega) (by omega)]; omega
    have wk : w6 (k0 + 4 * (n : Int) + 3 + 1) = k0 + 4 * ((n + 1 : Nat) : Int) := by rw [w6_i (by omega) (by omega)]; omega
    have ih := run70 hk hF0 r (n + 1) F (by simp at hF; omega) (by omega)
    rw [mkT_snoc, List.append_assoc] at ih
    simp only [List.cons_append, List.nil_append] at ih
    rw [show n + (t :: r).length = n + 1 + r.length by simp; omega]
    simp only [iter]
    generalize iter (fun s k => st70_2 F0 s k (fun s' => match s' with | ((t0, _), (t1, _), (t5, _), _) => (some (t0, (t1, ()))))) F = K at ih ⊢
    have key := in70 (k := k0 + 4 * (n : Int)) (by omega) (pre := mkT k0 n) (r := r) (t := t) hl2 (F0 := F0) (F := F0) hF0 (kx := fun s' => match s' with | ((t0, _), (t1, _), (t5, _), (t6, _), _) => (bif ib t5 (Int.ofNat (List.length t0)) then K ((((List.set t0 (tn t5) ((List.getD t0 (tn t5) (Ty.dflt (.pair (.arr 3 (.int .u8)) (.pair (.int .i64) .unit)))).1, (t1, (List.getD t0 (tn t5) (Ty.dflt (.pair (.arr 3 (.int .u8)) (.pair (.int .i64) .unit)))).2.2))), ()), (((w6 (t1 + (1 : Int))), ()), (((w6 (t5 + (1 : Int))), ()), ())))) else none))
    rw [hm] at key
    simp only [st70_2]
    rw [dln_t (by omega), cond_true, ofn, dlt_t (by omega), cond_true]
    refine key.trans ?_
    have e0 : ∀ z : term.den, ib (n : Int) ((mkT k0 n ++ z :: r).length : Int) = true := fun z => ib_t (by omega) (by simp [hm]; omega)
    have e1 : ∀ z d : term.den, (mkT k0 n ++ z :: r).getD n d = z := fun z d => by
      have := getD_pre (pre := mkT k0 n) (r := r) (t := z) (d := d)
      rwa [hm] at this
    have e2 : ∀ z x : term.den, (mkT k0 n ++ z :: r).set n x = mkT k0 n ++ x :: r := fun z x => by
      have := set_at (pre := mkT k0 n) (r := r) (t := z) (x := x)
      rwa [hm] at this
    simp only [ofn, e0, cond_true, tn_cast, e1, e2, wi, wk]
    exact ih
def cf70 : G70 := fun x => if (show List term.den from x.1).length ≤ 2000000 ∧ 0 ≤ x.2.1 ∧ x.2.1 ≤ (10000000000 : Int) then some (mkT x.2.1 (show List term.den from x.1).length, x.2.1 + 4 * ((show List term.den from x.1).length : Int), ()) else none
theorem k70 : KOne Try.prog 70 ⟨[.v (.slice 135 term), .v i64], [.slice 135 term, i64], false, false, 1, cf70⟩ := ok70 .nil cf70 fun x y h => by
  obtain ⟨a, k, _⟩ := x
  simp only [cf70] at h
  split at h
  · rename_i hc
    injection h with h; subst h
    obtain ⟨h1, h2⟩ := hc
    replace h1 : List.length a ≤ 2000000 := h1
    refine ⟨List.length a + 4, ?_⟩
    have := run70 (k0 := k) h2 (F0 := List.length a + 4) (by omega) a 0 (List.length a + 4) (by omega) (by omega)
    simp only [Nat.zero_add] at this
    rw [e40 k] at this
    exact this
  · cases h
def cf40 : G40 := fun x => if (show List term.den from x.1.2.2.1).length ≤ 2000000 ∧ 0 ≤ x.2.1 ∧ x.2.1 ≤ (10000000000 : Int) then some ((x.1.1, x.1.2.1, mkT x.2.1 (show List term.den from x.1.2.2.1).length, ()), x.2.1 + 4 * ((show List term.den from x.1.2.2.1).length : Int), ()) else none
theorem k40 : KOne Try.prog 40 ⟨[.v poly, .v i64], [poly, i64], false, false, 1, cf40⟩ := ok40 _ (.cons k70 .nil) cf40 fun x y h => by
  obtain ⟨⟨p, v, a, _⟩, k, _⟩ := x
  simp only [cf40] at h
  split at h
  · rename_i hc
    injection h with h; subst h
    refine ⟨0, ?_⟩
    have g : cf70 (a, k, ()) = some (mkT k (List.length a), k + 4 * (List.length a : Int), ()) := if_pos hc
    show (match cf70 (a, k, ()) with | some r5 => _ | none => none) = _
    rw [g]; rfl
  · cases h
theorem g40b_ok {p v k : Int} {a : List term.den} (h : a.length ≤ 2000000) (hk : 0 ≤ k ∧ k ≤ 10000000000) : cf40 ((p, v, a, ()), k, ()) = some ((p, v, mkT k a.length, ()), k + 4 * (a.length : Int), ()) := if_pos ⟨h, hk⟩
theorem g40_ok {p v k : Int} {a : List term.den} (h : a.length ≤ 1000000) (hk : 0 ≤ k ∧ k ≤ 10000000000) : cf40 ((p, v, a, ()), k, ()) = some ((p, v, mkT k a.length, ()), k + 4 * (a.length : Int), ()) := g40b_ok (Nat.le_trans h (by omega)) hk

/-! ### held -/
theorem in93 {k : Int} (hk : 0 ≤ k ∧ k ≤ 100000000000) {ts : List term.den} {i : Nat} {v : Int × Unit} (hi : i < ts.length) (hl : ts.length ≤ 2000000) (e : ts.getD i (Ty.dflt term) = (((w8 k, w8 (k + 1), w8 (k + 2), ()) : ex.den), v)) {F0 F : Nat} (hF : 4 ≤ F) {kx : ShVal sh93_5 → Option R93} :
    iter (fun s k => st93_5 F0 s k kx) F ((ts, ()), ((k, ()), (((i : Int), ()), (((0 : Int), ()), ())))) = kx ((ts, ()), ((k + 3, ()), (((i : Int), ()), (((3 : Int), ()), ())))) := by
  obtain ⟨F, rfl⟩ : ∃ f, F = f + 4 := ⟨F - 4, by omega⟩
  have a1 : w6 (k + 1) = k + 1 := w6_i (by omega) (by omega)
  have a2 : w6 (k + 1 + 1) = k + 2 := by rw [w6_i (by omega) (by omega)]; omega
  have a3 : w6 (k + 2 + 1) = k + 3 := by rw [w6_i (by omega) (by omega)]; omega
  have b1 : w6 ((0 : Int) + 1) = 1 := rfl
  have b2 : w6 ((1 : Int) + 1) = 2 := rfl
  have b3 : w6 ((2 : Int) + 1) = 3 := rfl
  have c3 : decide ((3 : Int) < 3) = false := rfl
  have step : ∀ (kk j : Int) (K : ShVal sh93_5 → Option R93), decide (j < 3) = true → ib j (3 : Int) = true → tget (0 : Int) 3 (ts.getD i (Ty.dflt term)).1 (tn j) = w8 kk → st93_5 F0 ((ts, ()), ((kk, ()), (((i : Int), ()), ((j, ()), ())))) K kx =
      K ((ts, ()), ((w6 (kk + 1), ()), (((i : Int), ()), ((w6 (j + 1), ()), ())))) := fun kk j K h1 h2 h3 => by
    have e0 : ib (i : Int) (ts.length : Int) = true := ib_t (by omega) (by omega)
    simp only [st93_5, h1, cond_true, ofn, e0, tn_cast]
    rw [show ib j ((3 : Nat) : Int) = true from h2]
    show (bif !decide (tget (0 : Int) 3 (ts.getD i (Ty.dflt term)).1 (tn j) = w8 kk) then _ else _) = _
    rw [h3, deq_t rfl]; rfl
  have t0 : tget (0 : Int) 3 (ts.getD i (Ty.dflt term)).1 (tn 0) = w8 k := by rw [e]; rfl
  have t1 : tget (0 : Int) 3 (ts.getD i (Ty.dflt term)).1 (tn 1) = w8 (k + 1) := by rw [e]; rfl
  have t2 : tget (0 : Int) 3 (ts.getD i (Ty.dflt term)).1 (tn 2) = w8 (k + 2) := by rw [e]; rfl
  rw [show F + 4 = (F + 3) + 1 by omega, iter_s, step _ _ _ rfl rfl t0, a1, b1, show F + 3 = (F + 2) + 1 by omega, iter_s, step _ _ _ rfl rfl t1, a2, b2, show F + 2 = (F + 1) + 1 by omega, iter_s, step _ _ _ rfl rfl t2, a3, b3, iter_s]
  simp only [st93_5, c3, cond_false]
theorem mkT_get : ∀ {n i : Nat} {k : Int} {d : term.den}, i < n → (mkT k n).getD i d = mkOne (k + 4 * (i : Int))
  | n + 1, 0, k, d, _ => by simp [mkT]
  | n + 1, i + 1, k, d, h => by
    show (mkT (k + 4) n).getD i d = _
    rw [mkT_get (n := n) (by omega), show k + 4 + 4 * (i : Int) = k + 4 * ((i + 1 : Nat) : Int) by omega]
theorem run93 {k0 : Int} {n : Nat} (hk : 0 ≤ k0 ∧ k0 ≤ 10000000000) (hn : n ≤ 2000000) {F0 : Nat} (hF0 : 4 ≤ F0) : ∀ (m i F : Nat), m < F → i + m = n →
    iter (fun s k => st93_2 F0 s k (fun s' => match s' with | ((t0, _), (t1, _), (t5, _), _) => (some (t1, ())))) F ((mkT k0 n, ()), ((k0 + 4 * (i : Int), ()), (((i : Int), ()), ()))) = some (k0 + 4 * (n : Int), ())
  | 0, i, F, hF, hl => by
    obtain ⟨F, rfl⟩ : ∃ f, F = f + 1 := ⟨F - 1, by omega⟩
    have hm := mkT_len n k0
    obtain rfl : i = n := by omega
    generalize mkT k0 i = M at hm ⊢
    simp only [iter, st93_2]
    simp (disch := omega) only [dln_t, cond_true, ofn, dlt_f, cond_false]
  | m + 1, i, F, hF, hl => by
    obtain ⟨F, rfl⟩ : ∃ f, F = f + 1 := ⟨F - 1, by omega⟩
    have hm := mkT_len n k0
    have hg : (mkT k0 n).getD i (Ty.dflt term) = mkOne (k0 + 4 * (i : Int)) := mkT_get (by omega)
    have wi : w6 ((i : Int) + 1) = ((i + 1 : Nat) : Int) := by rw [w6_i (by omega) (by omega)]; omega
    have wk : w6 (k0 + 4 * (i : Int) + 3 + 1) = k0 + 4 * ((i + 1 : Nat) : Int) := by rw [w6_i (by omega) (by omega)]; omega
    have ih := run93 hk hn hF0 m (i + 1) F (by omega) (by omega)
    simp only [iter]
    generalize iter (fun s k => st93_2 F0 s k (fun s' => match s' with | ((t0, _), (t1, _), (t5, _), _) => (some (t1, ())))) F = K at ih ⊢
    have key := in93 (k := k0 + 4 * (i : Int)) (by omega) (ts := mkT k0 n) (i := i) (by omega) (by omega) hg (F0 := F0) (F := F0) hF0 (kx := fun s' => match s' with | ((t0, _), (t1, _), (t5, _), (t6, _), _) => (bif ib t5 (Int.ofNat (List.length t0)) then (bif (!decide ((List.getD t0 (tn t5) (Ty.dflt (.pair (.arr 3 (.int .u8)) (.pair (.int .i64) .unit)))).2.1 = t1)) then (some ((-(1 : Int)), ())) else K ((t0, ()), (((w6 (t1 + (1 : Int))), ()), (((w6 (t5 + (1 : Int))), ()), ())))) else none))
    simp only [st93_2]
    rw [dln_t (by omega), cond_true, ofn, dlt_t (by omega), cond_true]
    refine key.trans ?_
    have e0 : ib (i : Int) ((mkT k0 n).length : Int) = true := ib_t (by omega) (by omega)
    have e3 : decide ((List.getD (mkT k0 n) i (Ty.dflt (.pair (.arr 3 (.int .u8)) (.pair (.int .i64) .unit)))).2.1 = k0 + 4 * (i : Int) + 3) = true := by
      rw [show List.getD (mkT k0 n) i (Ty.dflt (.pair (.arr 3 (.int .u8)) (.pair (.int .i64) .unit))) = mkOne (k0 + 4 * (i : Int)) from hg]
      exact decide_eq_true rfl
    simp only [ofn, e0, cond_true, tn_cast, e3, Bool.not_true, cond_false, wi, wk]
    exact ih
open Classical in
noncomputable def cf93 : G93 := fun x => if x.1 = mkT x.2.1 (show List term.den from x.1).length ∧ (show List term.den from x.1).length ≤ 2000000 ∧ 0 ≤ x.2.1 ∧ x.2.1 ≤ (10000000000 : Int) then some (x.2.1 + 4 * ((show List term.den from x.1).length : Int), ()) else none
theorem k93 : KOne Try.prog 93 ⟨[.v (.slice 135 term), .v i64], [i64], false, false, 0, cf93⟩ := ok93 .nil cf93 fun x y h => by
  obtain ⟨a, k, _⟩ := x
  simp only [cf93] at h
  split at h
  · rename_i hc
    injection h with h; subst h
    obtain ⟨h1, h2, h3⟩ := hc
    replace h1 : a = mkT k (List.length a) := h1
    replace h2 : List.length a ≤ 2000000 := h2
    refine ⟨List.length a + 4, ?_⟩
    have := run93 (k0 := k) (n := List.length a) h3 h2 (F0 := List.length a + 4) (by omega) (List.length a) 0 (List.length a + 4) (by omega) (by omega)
    rw [← h1] at this
    rw [e40 k] at this
    exact this
  · cases h
noncomputable def cf41 : G41 := fn41 cf93 0
theorem k41 : KOne Try.prog 41 ⟨[.v poly, .v i64], [i64], false, false, 0, cf41⟩ := ok41 _ (.cons k93 .nil) cf41 fun x y h => ⟨0, h⟩
theorem g41b_ok {p v k : Int} {n : Nat} (h : n ≤ 2000000) (hk : 0 ≤ k ∧ k ≤ 10000000000) : cf41 ((p, v, mkT k n, ()), k, ()) = some (k + 4 * (n : Int), ()) := by
  have g : cf93 (mkT k n, k, ()) = some (k + 4 * (n : Int), ()) := by
    have hl := mkT_len n k
    have : cf93 (mkT k n, k, ()) = some (k + 4 * ((mkT k n).length : Int), ()) := if_pos ⟨by show mkT k n = mkT k (mkT k n).length; rw [hl], by show (mkT k n).length ≤ 2000000; omega, hk⟩
    rw [this, hl]
  show (match cf93 (mkT k n, k, ()) with | some r5 => (bif decide (r5.1 < (0 : Int)) then (some ((-(1 : Int)), ())) else (some (r5.1, ()))) | none => none) = _
  rw [g]
  simp (disch := omega) only [dlt_f, cond_false]

theorem g41_ok {p v k : Int} {n : Nat} (h : n ≤ 1000000) (hk : 0 ≤ k ∧ k ≤ 10000000000) : cf41 ((p, v, mkT k n, ()), k, ()) = some (k + 4 * (n : Int), ()) := g41b_ok (Nat.le_trans h (by omega)) hk

end Go.Proofs.YtkoifikjfnbcpaaEv
