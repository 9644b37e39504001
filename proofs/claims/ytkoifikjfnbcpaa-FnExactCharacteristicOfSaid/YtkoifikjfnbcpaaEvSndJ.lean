/- Equality of flat data; comparisons. -/
import Derived.Test.YtkoifikjfnbcpaaEvSndI
import Derived.Laws.StructEq
set_option linter.unusedVariables false
set_option linter.unusedSimpArgs false
namespace Go.Proofs.YtkoifikjfnbcpaaEv
open Go Go.RowKit

section
variable {P : Program} {T : TTab} {w : World} {g : Gh}

def mkV (t : Ty) (cs : List Value) : Value := bif t.agg then .agg cs.toArray else cs.headD undef

theorem run_part {t : TypeId} {ty : Ty} (k : TyOK P T t ty) {xs : Array Value} {off : Nat} (ho : off + ty.size ≤ xs.size) :
    (part t xs off).run P w = .ok (mkV ty ((xs.toList.drop off).take ty.size)) w := by
  unfold part
  simp only [Sem.run_bind, isAgg_of k, Result.andThen_ok]
  cases ha : ty.agg with
  | true =>
    simp only [if_true, Sem.run_bind, sizeOf_of k, Result.andThen_ok, Sem.run_pure, mkV, ha, cond_true]
    congr 2
    apply Array.ext'
    simp [Array.toList_extract, List.extract_eq_take_drop]
  | false =>
    have h1 : ty.size = 1 := by cases ty <;> first | rfl | cases ha
    simp only [Bool.false_eq_true, if_false, mkV, ha, cond_false, h1]
    have hlt : off < xs.size := by omega
    have e : xs[off]? = some xs[off] := by simp [hlt]
    rw [e]
    have : (xs.toList.drop off).take 1 = [xs[off]] := by
      apply List.ext_getElem?; intro j
      cases j with
      | zero => simp [hlt]
      | succ j => simp; omega
    rw [this]; rfl

theorem rd_mk_int {h : Mem} {k : IntKind} {x : Int} {cs : List Value} {bs : List Nat} (hr : Rd h (.int k) x cs bs) : mkV (.int k) cs = .int k x := by obtain ⟨rfl, _⟩ := hr; rfl
theorem rd_mk_bool {h : Mem} {x : Bool} {cs : List Value} {bs : List Nat} (hr : Rd h .bool x cs bs) : mkV .bool cs = .bool x := by obtain ⟨rfl, _⟩ := hr; rfl

theorem fieldsOf_und {t : TypeId} {fs : Array Field} (h : P.underlying t = some (.struct fs)) : P.fieldsOf t = fs := by unfold Program.fieldsOf; rw [h]

theorem eqd_sound (hT : TOK P T) {h : Mem} : ∀ (ty : Ty), ty.flat = true → (∀ (d : Nat) (t : TypeId) (x y : ty.den) (xs ys : List Value), ty.dep ≤ d → TyOK P T t ty → Rd h ty x xs [] → Rd h ty y ys [] →
      (Op.equalIn d t (mkV ty xs) (mkV ty ys)).run P w = .ok (ty.eqd x y) w) ∧
    (∀ (d : Nat) (fs : List Field) (off : Nat) (x y : ty.den) (xs ys : Array Value), ty.dep ≤ d + 1 → FsOK P T fs ty off → Rd h ty x (xs.toList.drop off) [] → Rd h ty y (ys.toList.drop off) [] →
      (Op.eqFields d xs ys fs).run P w = .ok (ty.eqd x y) w) := by
  intro ty
  induction ty with
  | int k =>
    intro _
    refine ⟨fun d t x y xs ys hd kk hx hy => ?_, fun d fs off x y xs ys _ hf => by cases fs <;> exact hf.elim⟩
    obtain ⟨m, rfl⟩ : ∃ m, d = m + 1 := ⟨d - 1, by simp [Ty.dep] at hd; omega⟩
    rw [rd_mk_int hx, rd_mk_int hy]
    simp only [Op.equalIn, Sem.run_bind, run_underlying kk.und, Result.andThen_ok, if_true, Sem.run_pure]; rfl
  | bool =>
    intro _
    refine ⟨fun d t x y xs ys hd kk hx hy => ?_, fun d fs off x y xs ys _ hf => by cases fs <;> exact hf.elim⟩
    obtain ⟨m, rfl⟩ : ∃ m, d = m + 1 := ⟨d - 1, by simp [Ty.dep] at hd; omega⟩
    rw [rd_mk_bool hx, rd_mk_bool hy]
    simp only [Op.equalIn, Sem.run_bind, run_underlying kk.und, Result.andThen_ok, Sem.run_pure]; rfl
  | slice e t _ => intro hf; cases hf
  | unit =>
    intro _
    have fld : ∀ (d : Nat) (fs : List Field) (off : Nat) (xs ys : Array Value), FsOK P T fs .unit off → (Op.eqFields d xs ys fs).run P w = .ok true w := by
      intro d fs off xs ys hf
      cases fs with
      | nil => rfl
      | cons f fs => exact hf.elim
    refine ⟨fun d t x y xs ys hd kk hx hy => ?_, fun d fs off x y xs ys _ hf _ _ => fld d fs off xs ys hf⟩
    obtain ⟨m, rfl⟩ : ∃ m, d = m + 1 := ⟨d - 1, by simp [Ty.dep] at hd; omega⟩
    obtain ⟨fs, hu, hst, hfs⟩ := kk.und
    have hfo := fieldsOf_und hu
    show (Op.equalIn (m + 1) t (.agg _) (.agg _)).run P w = _
    rw [run_equalIn_struct w m t _ _ (by rw [hfo]; exact hu) hst, hfo]
    exact fld m _ _ _ _ hfs
  | pair a b iha ihb =>
    intro hf
    simp only [Ty.flat, Bool.and_eq_true] at hf
    have fld : ∀ (d : Nat) (fs : List Field) (off : Nat) (x y : (Ty.pair a b).den) (xs ys : Array Value), (Ty.pair a b).dep ≤ d + 1 → FsOK P T fs (.pair a b) off → Rd h (.pair a b) x (xs.toList.drop off) [] → Rd h (.pair a b) y (ys.toList.drop off) [] →
        (Op.eqFields d xs ys fs).run P w = .ok ((Ty.pair a b).eqd x y) w := by
      intro d fs off x y xs ys hd hfs hx hy
      cases fs with
      | nil => exact hfs.elim
      | cons f fs =>
        obtain ⟨q1, q2, q3, q4, q5⟩ := hfs
        obtain ⟨b1, b2, x1, x2, x3⟩ := hx
        obtain ⟨b3, b4, y1, y2, y3⟩ := hy
        obtain ⟨rfl, rfl⟩ := List.append_eq_nil_iff.1 x3.symm
        obtain ⟨rfl, rfl⟩ := List.append_eq_nil_iff.1 y3.symm
        have lx := x1.length; have ly := y1.length
        simp at lx ly
        have hda : a.dep ≤ d := by simp only [Ty.dep] at hd; omega
        have hdb : b.dep ≤ d + 1 := by simp only [Ty.dep] at hd; omega
        have e1 := (iha hf.1).1 d f.type x.1 y.1 _ _ hda (hT _ _ q2) x1 y1
        rw [List.drop_drop] at x2 y2
        have e2 := (ihb hf.2).2 d fs (off + a.size) x.2 y.2 xs ys hdb q5 x2 y2
        simp only [Op.eqFields, ne_eq, q3, not_false_eq_true, if_true, Sem.run_bind, q1, run_part (hT _ _ q2) (show off + a.size ≤ xs.size by omega), run_part (hT _ _ q2) (show off + a.size ≤ ys.size by omega), Result.andThen_ok, e1]
        cases he : a.eqd x.1 y.1 with
        | true => simp only [Bool.not_true, Bool.false_eq_true, if_false, e2, Ty.eqd, he, Bool.true_and]
        | false => simp only [Bool.not_false, if_true, Sem.run_pure, Ty.eqd, he, Bool.false_and]
    refine ⟨fun d t x y xs ys hd kk hx hy => ?_, fld⟩
    obtain ⟨m, rfl⟩ : ∃ m, d = m + 1 := ⟨d - 1, by simp only [Ty.dep] at hd; omega⟩
    obtain ⟨fs, hu, hst, hfs⟩ := kk.und
    have hfo := fieldsOf_und hu
    show (Op.equalIn (m + 1) t (.agg _) (.agg _)).run P w = _
    rw [run_equalIn_struct w m t _ _ (by rw [hfo]; exact hu) hst, hfo]
    exact fld m _ 0 x y _ _ hd hfs (by simpa using hx) (by simpa using hy)
  | arr n u ih =>
    intro hf
    refine ⟨fun d t x y xs ys hd kk hx hy => ?_, fun d fs off x y xs ys _ hf => by cases fs <;> exact hf.elim⟩
    obtain ⟨m, rfl⟩ : ∃ m, d = m + 1 := ⟨d - 1, by simp only [Ty.dep] at hd; omega⟩
    obtain ⟨e, hu, hte, hz, _⟩ := kk.und
    obtain ⟨i, i1, i2, _⟩ := (hT _ _ hte).info
    have hc : P.cellsOf e = u.size := by simp [Program.cellsOf, i1, i2]
    show (Op.equalIn (m + 1) t (.agg _) (.agg _)).run P w = _
    rw [run_equalIn_array w m _ _ hu i1, hc]
    obtain ⟨lx, rx⟩ := hx
    obtain ⟨ly, ry⟩ := hy
    have hdm : u.dep ≤ m := by simp only [Ty.dep] at hd; omega
    have key : ∀ (k j : Nat) (x y : Tup u.den k), RdL (Rd h u) u.size (tlist k x) (xs.drop (j * u.size)) [] → RdL (Rd h u) u.size (tlist k y) (ys.drop (j * u.size)) [] → (j + k) * u.size ≤ xs.length → (j + k) * u.size ≤ ys.length →
        (Op.eqItems m e u.size xs.toArray ys.toArray (List.range' j k)).run P w = .ok (Ty.eqd.eqT u.eqd k x y) w := by
      intro k
      induction k with
      | zero => intro j x y _ _ _ _; rfl
      | succ k ihk =>
        intro j x y rx ry hx hy
        obtain ⟨b1, b2, x1, x2, x3⟩ := rx
        obtain ⟨b3, b4, y1, y2, y3⟩ := ry
        obtain ⟨rfl, rfl⟩ := List.append_eq_nil_iff.1 x3.symm
        obtain ⟨rfl, rfl⟩ := List.append_eq_nil_iff.1 y3.symm
        have hj : (j + 1) * u.size ≤ (j + (k + 1)) * u.size := Nat.mul_le_mul_right _ (by omega)
        rw [Nat.succ_mul] at hj
        have e1 := (ih hf).1 m e x.1 y.1 _ _ hdm (hT _ _ hte) x1 y1
        rw [List.drop_drop, ← Nat.succ_mul] at x2 y2
        have e2 := ihk (j + 1) x.2 y.2 x2 y2 (by rw [show j + 1 + k = j + (k + 1) by omega]; exact hx) (by rw [show j + 1 + k = j + (k + 1) by omega]; exact hy)
        simp only [List.range'_succ, Op.eqItems, Sem.run_bind, run_part (xs := xs.toArray) (hT _ _ hte) (show j * u.size + u.size ≤ xs.toArray.size by simp; omega), run_part (xs := ys.toArray) (hT _ _ hte) (show j * u.size + u.size ≤ ys.toArray.size by simp; omega), Result.andThen_ok, List.toList_toArray, e1]
        cases he : u.eqd x.1 y.1 with
        | true => simp only [Bool.not_true, Bool.false_eq_true, if_false, e2, Ty.eqd.eqT, he, Bool.true_and]
        | false => simp only [Bool.not_false, if_true, Sem.run_pure, Ty.eqd.eqT, he, Bool.false_and]
    rw [List.range_eq_range']
    exact key n 0 x y (by simpa using rx) (by simpa using ry) (by rw [Nat.zero_add, lx]; exact Nat.le_refl _) (by rw [Nat.zero_add, ly]; exact Nat.le_refl _)

theorem noGuard (hT : TOK P T) : ∀ (ty : Ty), ty.flat = true → (∀ (d : Nat) (t : TypeId), ty.dep ≤ d → TyOK P T t ty → P.eqGuardType d t = false) ∧
    (∀ (d : Nat) (fs : List Field) (off : Nat), ty.dep ≤ d + 1 → FsOK P T fs ty off → (fs.any fun f => f.name != "_" && P.eqGuardType d f.type) = false) := by
  intro ty
  induction ty with
  | int k =>
    intro _
    refine ⟨fun d t hd kk => ?_, fun d fs off _ hf => by cases fs <;> exact hf.elim⟩
    obtain ⟨m, rfl⟩ : ∃ m, d = m + 1 := ⟨d - 1, by simp [Ty.dep] at hd; omega⟩
    simp only [Program.eqGuardType, show P.underlying t = some (.int k) from kk.und]
  | bool =>
    intro _
    refine ⟨fun d t hd kk => ?_, fun d fs off _ hf => by cases fs <;> exact hf.elim⟩
    obtain ⟨m, rfl⟩ : ∃ m, d = m + 1 := ⟨d - 1, by simp [Ty.dep] at hd; omega⟩
    simp only [Program.eqGuardType, show P.underlying t = some .bool from kk.und]
  | slice e t _ => intro hf; cases hf
  | arr n u ih =>
    intro hf
    refine ⟨fun d t hd kk => ?_, fun d fs off _ hf => by cases fs <;> exact hf.elim⟩
    obtain ⟨m, rfl⟩ : ∃ m, d = m + 1 := ⟨d - 1, by simp only [Ty.dep] at hd; omega⟩
    obtain ⟨e, hu, hte, _⟩ := kk.und
    simp only [Program.eqGuardType, hu]
    exact (ih hf).1 m e (by simp only [Ty.dep] at hd; omega) (hT _ _ hte)
  | unit =>
    intro _
    have fld : ∀ (d : Nat) (fs : List Field) (off : Nat), FsOK P T fs .unit off → (fs.any fun f => f.name != "_" && P.eqGuardType d f.type) = false := by
      intro d fs off hf; cases fs with | nil => rfl | cons f fs => exact hf.elim
    refine ⟨fun d t hd kk => ?_, fun d fs off _ hf => fld d fs off hf⟩
    obtain ⟨m, rfl⟩ : ∃ m, d = m + 1 := ⟨d - 1, by simp [Ty.dep] at hd; omega⟩
    obtain ⟨fs, hu, _, hfs⟩ := kk.und
    simp only [Program.eqGuardType, hu]; rw [← Array.any_toList]; exact fld m _ _ hfs
  | pair a b iha ihb =>
    intro hf
    simp only [Ty.flat, Bool.and_eq_true] at hf
    have fld : ∀ (d : Nat) (fs : List Field) (off : Nat), (Ty.pair a b).dep ≤ d + 1 → FsOK P T fs (.pair a b) off → (fs.any fun f => f.name != "_" && P.eqGuardType d f.type) = false := by
      intro d fs off hd hfs
      cases fs with
      | nil => exact hfs.elim
      | cons f fs =>
        obtain ⟨q1, q2, q3, q4, q5⟩ := hfs
        have hda : a.dep ≤ d := by simp only [Ty.dep] at hd; omega
        have hdb : b.dep ≤ d + 1 := by simp only [Ty.dep] at hd; omega
        simp only [List.any_cons, (iha hf.1).1 d f.type hda (hT _ _ q2), Bool.and_false, Bool.false_or]
        exact (ihb hf.2).2 d fs _ hdb q5
    refine ⟨fun d t hd kk => ?_, fld⟩
    obtain ⟨m, rfl⟩ : ∃ m, d = m + 1 := ⟨d - 1, by simp only [Ty.dep] at hd; omega⟩
    obtain ⟨fs, hu, _, hfs⟩ := kk.und
    simp only [Program.eqGuardType, hu]; rw [← Array.any_toList]; exact fld m _ 0 hd hfs

theorem aggVal {h : Mem} {ls : List Leaf} {v : Value} {t : Ty} {x : t.den} (he : ValR g h true ls v) (hv : valAs t ls = some x) (hf : t.flat = true) : ∃ cs, v = .agg cs.toArray ∧ Rd h t x cs [] := by
  obtain ⟨cs, bs, h1, _, h3⟩ := he
  have hr := valAs_rd hv h3
  have := hr.flat hf; subst this
  exact ⟨cs, h1, hr⟩

theorem bin_sound (hT : TOK P T) {s1 s2 : Nat} {op : BinOp} {t : TypeId} {X Y : Operand} {x y r : Ent} {u v : Value} {c : Bool} (hx : EntR g w.heap s1 x u) (hy : EntR g w.heap s2 y v)
    (hr : binE (tyOf T t) op x y = some (c, r)) (hc : c = true) :
    ∃ z, (do eqGuard op t X Y u v; binOp op t u v : Sem Value).run P w = .ok z w ∧ ∀ s, EntR g w.heap s r z := by
  unfold binE at hr
  split at hr
  · rename_i k a k' b h1 h2
    obtain ⟨rfl, w1⟩ := asI_inv hx h1
    obtain ⟨rfl, w2⟩ := asI_inv hy h2
    cases hk : kEq k k' with
    | false => rw [hk] at hr; cases hr
    | true =>
      rw [hk] at hr; simp only [cond_true] at hr
      have := kEq_eq hk; subst this
      obtain ⟨z, z1, _⟩ := arith_sound (g := g) (h := w.heap) (P := P) (w := w) (t := t) (X := X) (Y := Y) 0 w1 w2 hr hc
      refine ⟨z, z1, fun s => ?_⟩
      obtain ⟨z', q1, q2⟩ := arith_sound (g := g) (h := w.heap) (P := P) (w := w) (t := t) (X := X) (Y := Y) s w1 w2 hr hc
      rw [z1] at q1; injection q1 with q1; rw [q1]; exact q2
  · split at hr
    · rename_i a b h1 h2 hty
      have := asB_inv hx h1; subst this
      have := asB_inv hy h2; subst this
      have hu := (hT _ _ hty).und
      have hu : P.underlying t = some .bool := hu
      have run : ∀ op', (op' = .eql ∨ op' = .neq) → (eqGuard op' t X Y (.bool a) (.bool b)).run P w = .ok () w := by
        intro op' ho; rcases ho with rfl | rfl <;> simp [eqGuard, Result.andThen]
      have eq : (Op.equal t (.bool a) (.bool b)).run P w = .ok (a == b) w := by
        have one : ∀ d, (Op.equalIn (d + 1) t (.bool a) (.bool b)).run P w = .ok (a == b) w := fun d => by
          simp only [Op.equalIn, Sem.run_bind, run_underlying hu, Result.andThen_ok, Sem.run_pure]
        exact one 9999
      split at hr
      · injection hr with hr; injection hr with _ hr; subst hr
        exact ⟨.bool (a == b), by simp only [Sem.run_bind, run .eql (.inl rfl), Result.andThen_ok, binOp, eq, Sem.run_pure], fun s => boolE_sound⟩
      · injection hr with hr; injection hr with _ hr; subst hr
        exact ⟨.bool (!(a == b)), by simp only [Sem.run_bind, run .neq (.inr rfl), Result.andThen_ok, binOp, eq, Sem.run_pure], fun s => boolE_sound⟩
      · cases hr
    · split at hr
      · rename_i ls ls' ty hty _ _
        unfold aggE at hr
        cases hf : (ty.flat && ty.agg && Nat.ble ty.dep 100) with
        | false => rw [hf] at hr; cases hr
        | true =>
          rw [hf] at hr; simp only [cond_true] at hr
          simp only [Bool.and_eq_true] at hf
          obtain ⟨⟨f1, f2⟩, f3⟩ := hf
          have hdep : ty.dep ≤ 100 := by simpa using f3
          split at hr
          · rename_i a b ha hb
            obtain ⟨xs, rfl, rx⟩ := aggVal hx ha f1
            obtain ⟨ys, rfl, ry⟩ := aggVal hy hb f1
            have kk := hT _ _ hty
            have e := (eqd_sound (w := w) hT ty f1).1 Op.maxDepth t a b xs ys (by unfold Op.maxDepth; omega) kk rx ry
            have mk : ∀ cs : List Value, mkV ty cs = .agg cs.toArray := fun cs => by unfold mkV; rw [f2]; rfl
            rw [mk, mk] at e
            have eq : (Op.equal t (.agg xs.toArray) (.agg ys.toArray)).run P w = .ok (ty.eqd a b) w := e
            have ng := (noGuard hT ty f1).1 P.depth t (by unfold Program.depth Made.depth; omega) kk
            have run : ∀ op', (op' = .eql ∨ op' = .neq) → (eqGuard op' t X Y (.agg xs.toArray) (.agg ys.toArray)).run P w = .ok () w := by
              intro op' ho; rcases ho with rfl | rfl <;> simp [eqGuard, Result.andThen, run_program, ng]
            split at hr
            · injection hr with hr; injection hr with _ hr; subst hr
              exact ⟨.bool (ty.eqd a b), by simp only [Sem.run_bind, run .eql (.inl rfl), Result.andThen_ok, binOp, eq, Sem.run_pure], fun s => boolE_sound⟩
            · injection hr with hr; injection hr with _ hr; subst hr
              exact ⟨.bool (!(ty.eqd a b)), by simp only [Sem.run_bind, run .neq (.inr rfl), Result.andThen_ok, binOp, eq, Sem.run_pure], fun s => boolE_sound⟩
            · cases hr
          · cases hr
      · cases hr

theorem nil_sound {s1 : Nat} {op : BinOp} {t e : TypeId} {X Y : Operand} {x r : Ent} {u : Value} (hu : P.underlying t = some (.slice e)) (hx : EntR g w.heap s1 x u) (hr : nilE op x = some r) :
    ∃ z, (do eqGuard op t X Y u (.slice none 0 0); binOp op t u (.slice none 0 0) : Sem Value).run P w = .ok z w ∧ ∀ s, EntR g w.heap s r z := by
  unfold nilE at hr
  split at hr
  · rename_i e' t' tag sub lin v
    obtain ⟨bs, hl, _⟩ := val1 hx
    obtain ⟨hd, blk, bs', h1, h2, h3, h4, h5, _⟩ := hl
    injection h1 with h1 _; subst h1
    have h4 := h4 rfl
    have form : ∃ a len cap, u = .slice a len cap ∧ (a.isNone = v.isEmpty) := by
      rcases h5 with ⟨rfl, rfl, _⟩ | ⟨b, o, cap, c, fr, rfl, _⟩
      · exact ⟨none, 0, 0, rfl, rfl⟩
      · refine ⟨_, _, _, rfl, ?_⟩
        have : v ≠ [] := fun h => by have := h4.2 h; cases this
        cases v with
        | nil => exact absurd rfl this
        | cons _ _ => rfl
    obtain ⟨a, len, cap, rfl, hiso⟩ := form
    have eq : (Op.equal t (.slice a len cap) (.slice none 0 0)).run P w = .ok v.isEmpty w := by
      rw [← hiso]
      have one : ∀ d, (Op.equalIn (d + 1) t (.slice a len cap) (.slice none 0 0)).run P w = .ok a.isNone w := fun d => by
        cases a <;> simp only [Op.equalIn, Sem.run_bind, run_underlying hu, Result.andThen_ok, Sem.run_pure] <;> rfl
      exact one 9999
    have run : ∀ op', (eqGuard op' t X Y (.slice a len cap) (.slice none 0 0)).run P w = .ok () w := by
      intro op'; cases op' <;> simp [eqGuard, Result.andThen]
    split at hr
    · injection hr with hr; subst hr
      exact ⟨.bool v.isEmpty, by simp only [Sem.run_bind, run, Result.andThen_ok, binOp, eq, Sem.run_pure], fun s => boolE_sound⟩
    · injection hr with hr; subst hr
      exact ⟨.bool (!v.isEmpty), by simp only [Sem.run_bind, run, Result.andThen_ok, binOp, eq, Sem.run_pure], fun s => boolE_sound⟩
    · cases hr
  · cases hr

end
end Go.Proofs.YtkoifikjfnbcpaaEv
