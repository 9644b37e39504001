/- The program's operations on plain typed data, that the machine does the same, what the functions come to, and what they give (part 2). No condition. -/
import Derived.Test.YtmdpmnjnpnjppaaEA4201
set_option linter.unusedVariables false
set_option linter.unusedSimpArgs false
namespace Go.Proofs.YtmdpmnjnpnjppaaEv
open Go Go.RowKit
section
variable {P : Program} {T : TTab} {w : World} {g : Gh}
def mkV (t : Ty) (cs : List Value) : Value := bif t.agg then .agg cs.toArray else cs.headD undef
theorem run_part {t : TypeId} {ty : Ty} (k : TyOK P T t ty) {xs : Array Value} {off : Nat} (ho : off + ty.size ≤ xs.size) :
    (part t xs off).run P w = .ok (mkV ty ((xs.toList.drop off).take ty.size)) w := by
  unfold part
  simp only [Sem.run_bind, isAgg_of k, Result.andThen_ok]
  cases ha : ty.agg with
  | true =>
    simp only [if_true, Sem.run_bind, sizeOf_of k, Result.andThen_ok, Sem.run_pure, mkV, ha, cond_true]
    congr 2
    apply Array.ext'
    simp [Array.toList_extract, List.extract_eq_take_drop]
  | false =>
    have h1 : ty.size = 1 := by cases ty <;> first | rfl | cases ha
    simp only [Bool.false_eq_true, if_false, mkV, ha, cond_false, h1]
    have hlt : off < xs.size := by omega
    have e : xs[off]? = some xs[off] := by simp [hlt]
    rw [e]
    have : (xs.toList.drop off).take 1 = [xs[off]] := by
      apply List.ext_getElem?; intro j
      cases j with
      | zero => simp [hlt]
      | succ j => simp; omega
    rw [this]; rfl
theorem rd_mk_int {h : Mem} {k : IntKind} {x : Int} {cs : List Value} {bs : List Nat} (hr : Rd h (.int k) x cs bs) : mkV (.int k) cs = .int k x := by obtain ⟨rfl, _⟩ := hr; rfl
theorem rd_mk_bool {h : Mem} {x : Bool} {cs : List Value} {bs : List Nat} (hr : Rd h .bool x cs bs) : mkV .bool cs = .bool x := by obtain ⟨rfl, _⟩ := hr; rfl
theorem fieldsOf_und {t : TypeId} {fs : Array Field} (h : P.underlying t = some (.struct fs)) : P.fieldsOf t = fs := by unfold Program.fieldsOf; rw [h]
theorem eqd_sound (hT : TOK P T) {h : Mem} : ∀ (ty : Ty), ty.flat = true → (∀ (d : Nat) (t : TypeId) (x y : ty.den) (xs ys : List Value), ty.dep ≤ d → TyOK P T t ty → Rd h ty x xs [] → Rd h ty y ys [] →
      (Op.equalIn d t (mkV ty xs) (mkV ty ys)).run P w = .ok (ty.eqd x y) w) ∧
    (∀ (d : Nat) (fs : List Field) (off : Nat) (x y : ty.den) (xs ys : Array Value), ty.dep ≤ d + 1 → FsOK P T fs ty off → Rd h ty x (xs.toList.drop off) [] → Rd h ty y (ys.toList.drop off) [] →
      (Op.eqFields d xs ys fs).run P w = .ok (ty.eqd x y) w) := by
  intro ty
  induction ty with
  | int k =>
    intro _
    refine ⟨fun d t x y xs ys hd kk hx hy => ?_, fun d fs off x y xs ys _ hf => by cases fs <;> exact hf.elim⟩
    obtain ⟨m, rfl⟩ : ∃ m, d = m + 1 := ⟨d - 1, by simp [Ty.dep] at hd; omega⟩
    rw [rd_mk_int hx, rd_mk_int hy]
    simp only [Op.equalIn, Sem.run_bind, run_underlying kk.und, Result.andThen_ok, if_true, Sem.run_pure]; rfl
  | bool =>
    intro _
    refine ⟨fun d t x y xs ys hd kk hx hy => ?_, fun d fs off x y xs ys _ hf => by cases fs <;> exact hf.elim⟩
    obtain ⟨m, rfl⟩ : ∃ m, d = m + 1 := ⟨d - 1, by simp [Ty.dep] at hd; omega⟩
    rw [rd_mk_bool hx, rd_mk_bool hy]
    simp only [Op.equalIn, Sem.run_bind, run_underlying kk.und, Result.andThen_ok, Sem.run_pure]; rfl
  | slice e t _ => intro hf; cases hf
  | unit =>
    intro _
    have fld : ∀ (d : Nat) (fs : List Field) (off : Nat) (xs ys : Array Value), FsOK P T fs .unit off → (Op.eqFields d xs ys fs).run P w = .ok true w := by
      intro d fs off xs ys hf
      cases fs with
      | nil => rfl
      | cons f fs => exact hf.elim
    refine ⟨fun d t x y xs ys hd kk hx hy => ?_, fun d fs off x y xs ys _ hf _ _ => fld d fs off xs ys hf⟩
    obtain ⟨m, rfl⟩ : ∃ m, d = m + 1 := ⟨d - 1, by simp [Ty.dep] at hd; omega⟩
    obtain ⟨fs, hu, hst, hfs⟩ := kk.und
    have hfo := fieldsOf_und hu
    show (Op.equalIn (m + 1) t (.agg _) (.agg _)).run P w = _
    rw [run_equalIn_struct w m t _ _ (by rw [hfo]; exact hu) hst, hfo]
    exact fld m _ _ _ _ hfs
  | pair a b iha ihb =>
    intro hf
    simp only [Ty.flat, Bool.and_eq_true] at hf
    have fld : ∀ (d : Nat) (fs : List Field) (off : Nat) (x y : (Ty.pair a b).den) (xs ys : Array Value), (Ty.pair a b).dep ≤ d + 1 → FsOK P T fs (.pair a b) off → Rd h (.pair a b) x (xs.toList.drop off) [] → Rd h (.pair a b) y (ys.toList.drop off) [] →
        (Op.eqFields d xs ys fs).run P w = .ok ((Ty.pair a b).eqd x y) w := by
      intro d fs off x y xs ys hd hfs hx hy
      cases fs with
      | nil => exact hfs.elim
      | cons f fs =>
        obtain ⟨q1, q2, q3, q4, q5⟩ := hfs
        obtain ⟨b1, b2, x1, x2, x3⟩ := hx
        obtain ⟨b3, b4, y1, y2, y3⟩ := hy
        obtain ⟨rfl, rfl⟩ := List.append_eq_nil_iff.1 x3.symm
        obtain ⟨rfl, rfl⟩ := List.append_eq_nil_iff.1 y3.symm
        have lx := x1.length; have ly := y1.length
        simp at lx ly
        have hda : a.dep ≤ d := by simp only [Ty.dep] at hd; omega
        have hdb : b.dep ≤ d + 1 := by simp only [Ty.dep] at hd; omega
        have e1 := (iha hf.1).1 d f.type x.1 y.1 _ _ hda (hT _ _ q2) x1 y1
        rw [List.drop_drop] at x2 y2
        have e2 := (ihb hf.2).2 d fs (off + a.size) x.2 y.2 xs ys hdb q5 x2 y2
        simp only [Op.eqFields, ne_eq, q3, not_false_eq_true, if_true, Sem.run_bind, q1, run_part (hT _ _ q2) (show off + a.size ≤ xs.size by omega), run_part (hT _ _ q2) (show off + a.size ≤ ys.size by omega), Result.andThen_ok, e1]
        cases he : a.eqd x.1 y.1 with
        | true => simp only [Bool.not_true, Bool.false_eq_true, if_false, e2, Ty.eqd, he, Bool.true_and]
        | false => simp only [Bool.not_false, if_true, Sem.run_pure, Ty.eqd, he, Bool.false_and]
    refine ⟨fun d t x y xs ys hd kk hx hy => ?_, fld⟩
    obtain ⟨m, rfl⟩ : ∃ m, d = m + 1 := ⟨d - 1, by simp only [Ty.dep] at hd; omega⟩
    obtain ⟨fs, hu, hst, hfs⟩ := kk.und
    have hfo := fieldsOf_und hu
    show (Op.equalIn (m + 1) t (.agg _) (.agg _)).run P w = _
    rw [run_equalIn_struct w m t _ _ (by rw [hfo]; exact hu) hst, hfo]
    exact fld m _ 0 x y _ _ hd hfs (by simpa using hx) (by simpa using hy)
  | arr n u ih =>
    intro hf
    refine ⟨fun d t x y xs ys hd kk hx hy => ?_, fun d fs off x y xs ys _ hf => by cases fs <;> exact hf.elim⟩
    obtain ⟨m, rfl⟩ : ∃ m, d = m + 1 := ⟨d - 1, by simp only [Ty.dep] at hd; omega⟩
    obtain ⟨e, hu, hte, hz, _⟩ := kk.und
    obtain ⟨i, i1, i2, _⟩ := (hT _ _ hte).info
    have hc : P.cellsOf e = u.size := by simp [Program.cellsOf, i1, i2]
    show (Op.equalIn (m + 1) t (.agg _) (.agg _)).run P w = _
    rw [run_equalIn_array w m _ _ hu i1, hc]
    obtain ⟨lx, rx⟩ := hx
    obtain ⟨ly, ry⟩ := hy
    have hdm : u.dep ≤ m := by simp only [Ty.dep] at hd; omega
    have key : ∀ (k j : Nat) (x y : Tup u.den k), RdL (Rd h u) u.size (tlist k x) (xs.drop (j * u.size)) [] → RdL (Rd h u) u.size (tlist k y) (ys.drop (j * u.size)) [] → (j + k) * u.size ≤ xs.length → (j + k) * u.size ≤ ys.length →
        (Op.eqItems m e u.size xs.toArray ys.toArray (List.range' j k)).run P w = .ok (Ty.eqd.eqT u.eqd k x y) w := by
      intro k
      induction k with
      | zero => intro j x y _ _ _ _; rfl
      | succ k ihk =>
        intro j x y rx ry hx hy
        obtain ⟨b1, b2, x1, x2, x3⟩ := rx
        obtain ⟨b3, b4, y1, y2, y3⟩ := ry
        obtain ⟨rfl, rfl⟩ := List.append_eq_nil_iff.1 x3.symm
        obtain ⟨rfl, rfl⟩ := List.append_eq_nil_iff.1 y3.symm
        have hj : (j + 1) * u.size ≤ (j + (k + 1)) * u.size := Nat.mul_le_mul_right _ (by omega)
        rw [Nat.succ_mul] at hj
        have e1 := (ih hf).1 m e x.1 y.1 _ _ hdm (hT _ _ hte) x1 y1
        rw [List.drop_drop, ← Nat.succ_mul] at x2 y2
        have e2 := ihk (j + 1) x.2 y.2 x2 y2 (by rw [show j + 1 + k = j + (k + 1) by omega]; exact hx) (by rw [show j + 1 + k = j + (k + 1) by omega]; exact hy)
        simp only [List.range'_succ, Op.eqItems, Sem.run_bind, run_part (xs := xs.toArray) (hT _ _ hte) (show j * u.size + u.size ≤ xs.toArray.size by simp; omega), run_part (xs := ys.toArray) (hT _ _ hte) (show j * u.size + u.size ≤ ys.toArray.size by simp; omega), Result.andThen_ok, List.toList_toArray, e1]
        cases he : u.eqd x.1 y.1 with
        | true => simp only [Bool.not_true, Bool.false_eq_true, if_false, e2, Ty.eqd.eqT, he, Bool.true_and]
        | false => simp only [Bool.not_false, if_true, Sem.run_pure, Ty.eqd.eqT, he, Bool.false_and]
    rw [List.range_eq_range']
    exact key n 0 x y (by simpa using rx) (by simpa using ry) (by rw [Nat.zero_add, lx]; exact Nat.le_refl _) (by rw [Nat.zero_add, ly]; exact Nat.le_refl _)
theorem noGuard (hT : TOK P T) : ∀ (ty : Ty), ty.flat = true → (∀ (d : Nat) (t : TypeId), ty.dep ≤ d → TyOK P T t ty → P.eqGuardType d t = false) ∧
    (∀ (d : Nat) (fs : List Field) (off : Nat), ty.dep ≤ d + 1 → FsOK P T fs ty off → (fs.any fun f => f.name != "_" && P.eqGuardType d f.type) = false) := by
  intro ty
  induction ty with
  | int k =>
    intro _
    refine ⟨fun d t hd kk => ?_, fun d fs off _ hf => by cases fs <;> exact hf.elim⟩
    obtain ⟨m, rfl⟩ : ∃ m, d = m + 1 := ⟨d - 1, by simp [Ty.dep] at hd; omega⟩
    simp only [Program.eqGuardType, show P.underlying t = some (.int k) from kk.und]
  | bool =>
    intro _
    refine ⟨fun d t hd kk => ?_, fun d fs off _ hf => by cases fs <;> exact hf.elim⟩
    obtain ⟨m, rfl⟩ : ∃ m, d = m + 1 := ⟨d - 1, by simp [Ty.dep] at hd; omega⟩
    simp only [Program.eqGuardType, show P.underlying t = some .bool from kk.und]
  | slice e t _ => intro hf; cases hf
  | arr n u ih =>
    intro hf
    refine ⟨fun d t hd kk => ?_, fun d fs off _ hf => by cases fs <;> exact hf.elim⟩
    obtain ⟨m, rfl⟩ : ∃ m, d = m + 1 := ⟨d - 1, by simp only [Ty.dep] at hd; omega⟩
    obtain ⟨e, hu, hte, _⟩ := kk.und
    simp only [Program.eqGuardType, hu]
    exact (ih hf).1 m e (by simp only [Ty.dep] at hd; omega) (hT _ _ hte)
  | unit =>
    intro _
    have fld : ∀ (d : Nat) (fs : List Field) (off : Nat), FsOK P T fs .unit off → (fs.any fun f => f.name != "_" && P.eqGuardType d f.type) = false := by
      intro d fs off hf; cases fs with | nil => rfl | cons f fs => exact hf.elim
    refine ⟨fun d t hd kk => ?_, fun d fs off _ hf => fld d fs off hf⟩
    obtain ⟨m, rfl⟩ : ∃ m, d = m + 1 := ⟨d - 1, by simp [Ty.dep] at hd; omega⟩
    obtain ⟨fs, hu, _, hfs⟩ := kk.und
    simp only [Program.eqGuardType, hu]; rw [← Array.any_toList]; exact fld m _ _ hfs
  | pair a b iha ihb =>
    intro hf
    simp only [Ty.flat, Bool.and_eq_true] at hf
    have fld : ∀ (d : Nat) (fs : List Field) (off : Nat), (Ty.pair a b).dep ≤ d + 1 → FsOK P T fs (.pair a b) off → (fs.any fun f => f.name != "_" && P.eqGuardType d f.type) = false := by
      intro d fs off hd hfs
      cases fs with
      | nil => exact hfs.elim
      | cons f fs =>
        obtain ⟨q1, q2, q3, q4, q5⟩ := hfs
        have hda : a.dep ≤ d := by simp only [Ty.dep] at hd; omega
        have hdb : b.dep ≤ d + 1 := by simp only [Ty.dep] at hd; omega
        simp only [List.any_cons, (iha hf.1).1 d f.type hda (hT _ _ q2), Bool.and_false, Bool.false_or]
        exact (ihb hf.2).2 d fs _ hdb q5
    refine ⟨fun d t hd kk => ?_, fld⟩
    obtain ⟨m, rfl⟩ : ∃ m, d = m + 1 := ⟨d - 1, by simp only [Ty.dep] at hd; omega⟩
    obtain ⟨fs, hu, _, hfs⟩ := kk.und
    simp only [Program.eqGuardType, hu]; rw [← Array.any_toList]; exact fld m _ 0 hd hfs
theorem aggVal {h : Mem} {ls : List Leaf} {v : Value} {t : Ty} {x : t.den} (he : ValR g h true ls v) (hv : valAs t ls = some x) (hf : t.flat = true) : ∃ cs, v = .agg cs.toArray ∧ Rd h t x cs [] := by
  obtain ⟨cs, bs, h1, _, h3⟩ := he
  have hr := valAs_rd hv h3
  have := hr.flat hf; subst this
  exact ⟨cs, h1, hr⟩
theorem bin_sound (hT : TOK P T) {s1 s2 : Nat} {op : BinOp} {t : TypeId} {X Y : Operand} {x y r : Ent} {u v : Value} {c : Bool} (hx : EntR g w.heap s1 x u) (hy : EntR g w.heap s2 y v)
    (hr : binE (tyOf T t) op x y = some (c, r)) (hc : c = true) :
    ∃ z, (do eqGuard op t X Y u v; binOp op t u v : Sem Value).run P w = .ok z w ∧ ∀ s, EntR g w.heap s r z := by
  unfold binE at hr
  split at hr
  · rename_i k a k' b h1 h2
    obtain ⟨rfl, w1⟩ := asI_inv hx h1
    obtain ⟨rfl, w2⟩ := asI_inv hy h2
    cases hk : kEq k k' with
    | false => rw [hk] at hr; cases hr
    | true =>
      rw [hk] at hr; simp only [cond_true] at hr
      have := kEq_eq hk; subst this
      obtain ⟨z, z1, _⟩ := arith_sound (g := g) (h := w.heap) (P := P) (w := w) (t := t) (X := X) (Y := Y) 0 w1 w2 hr hc
      refine ⟨z, z1, fun s => ?_⟩
      obtain ⟨z', q1, q2⟩ := arith_sound (g := g) (h := w.heap) (P := P) (w := w) (t := t) (X := X) (Y := Y) s w1 w2 hr hc
      rw [z1] at q1; injection q1 with q1; rw [q1]; exact q2
  · split at hr
    · rename_i a b h1 h2 hty
      have := asB_inv hx h1; subst this
      have := asB_inv hy h2; subst this
      have hu := (hT _ _ hty).und
      have hu : P.underlying t = some .bool := hu
      have run : ∀ op', (op' = .eql ∨ op' = .neq) → (eqGuard op' t X Y (.bool a) (.bool b)).run P w = .ok () w := by
        intro op' ho; rcases ho with rfl | rfl <;> simp [eqGuard, Result.andThen]
      have eq : (Op.equal t (.bool a) (.bool b)).run P w = .ok (a == b) w := by
        have one : ∀ d, (Op.equalIn (d + 1) t (.bool a) (.bool b)).run P w = .ok (a == b) w := fun d => by
          simp only [Op.equalIn, Sem.run_bind, run_underlying hu, Result.andThen_ok, Sem.run_pure]
        exact one 9999
      split at hr
      · injection hr with hr; injection hr with _ hr; subst hr
        exact ⟨.bool (a == b), by simp only [Sem.run_bind, run .eql (.inl rfl), Result.andThen_ok, binOp, eq, Sem.run_pure], fun s => boolE_sound⟩
      · injection hr with hr; injection hr with _ hr; subst hr
        exact ⟨.bool (!(a == b)), by simp only [Sem.run_bind, run .neq (.inr rfl), Result.andThen_ok, binOp, eq, Sem.run_pure], fun s => boolE_sound⟩
      · cases hr
    · split at hr
      · rename_i ls ls' ty hty _ _
        unfold aggE at hr
        cases hf : (ty.flat && ty.agg && Nat.ble ty.dep 100) with
        | false => rw [hf] at hr; cases hr
        | true =>
          rw [hf] at hr; simp only [cond_true] at hr
          simp only [Bool.and_eq_true] at hf
          obtain ⟨⟨f1, f2⟩, f3⟩ := hf
          have hdep : ty.dep ≤ 100 := by simpa using f3
          split at hr
          · rename_i a b ha hb
            obtain ⟨xs, rfl, rx⟩ := aggVal hx ha f1
            obtain ⟨ys, rfl, ry⟩ := aggVal hy hb f1
            have kk := hT _ _ hty
            have e := (eqd_sound (w := w) hT ty f1).1 Op.maxDepth t a b xs ys (by unfold Op.maxDepth; omega) kk rx ry
            have mk : ∀ cs : List Value, mkV ty cs = .agg cs.toArray := fun cs => by unfold mkV; rw [f2]; rfl
            rw [mk, mk] at e
            have eq : (Op.equal t (.agg xs.toArray) (.agg ys.toArray)).run P w = .ok (ty.eqd a b) w := e
            have ng := (noGuard hT ty f1).1 P.depth t (by unfold Program.depth Made.depth; omega) kk
            have run : ∀ op', (op' = .eql ∨ op' = .neq) → (eqGuard op' t X Y (.agg xs.toArray) (.agg ys.toArray)).run P w = .ok () w := by
              intro op' ho; rcases ho with rfl | rfl <;> simp [eqGuard, Result.andThen, run_program, ng]
            split at hr
            · injection hr with hr; injection hr with _ hr; subst hr
              exact ⟨.bool (ty.eqd a b), by simp only [Sem.run_bind, run .eql (.inl rfl), Result.andThen_ok, binOp, eq, Sem.run_pure], fun s => boolE_sound⟩
            · injection hr with hr; injection hr with _ hr; subst hr
              exact ⟨.bool (!(ty.eqd a b)), by simp only [Sem.run_bind, run .neq (.inr rfl), Result.andThen_ok, binOp, eq, Sem.run_pure], fun s => boolE_sound⟩
            · cases hr
          · cases hr
      · cases hr
theorem nil_sound {s1 : Nat} {op : BinOp} {t e : TypeId} {X Y : Operand} {x r : Ent} {u : Value} (hu : P.underlying t = some (.slice e)) (hx : EntR g w.heap s1 x u) (hr : nilE op x = some r) :
    ∃ z, (do eqGuard op t X Y u (.slice none 0 0); binOp op t u (.slice none 0 0) : Sem Value).run P w = .ok z w ∧ ∀ s, EntR g w.heap s r z := by
  unfold nilE at hr
  split at hr
  · rename_i e' t' tag sub lin v
    obtain ⟨bs, hl, _⟩ := val1 hx
    obtain ⟨hd, blk, bs', h1, h2, h3, h4, h5, _⟩ := hl
    injection h1 with h1 _; subst h1
    have h4 := h4 rfl
    have form : ∃ a len cap, u = .slice a len cap ∧ (a.isNone = v.isEmpty) := by
      rcases h5 with ⟨p, rfl, rfl, _⟩ | ⟨b, o, cap, c, fr, rfl, _⟩
      · have := h4.2 rfl
        injection this with this
        subst this
        exact ⟨none, 0, 0, rfl, rfl⟩
      · refine ⟨_, _, _, rfl, ?_⟩
        have : v ≠ [] := fun h => by have := h4.2 h; cases this
        cases v with
        | nil => exact absurd rfl this
        | cons _ _ => rfl
    obtain ⟨a, len, cap, rfl, hiso⟩ := form
    have eq : (Op.equal t (.slice a len cap) (.slice none 0 0)).run P w = .ok v.isEmpty w := by
      rw [← hiso]
      have one : ∀ d, (Op.equalIn (d + 1) t (.slice a len cap) (.slice none 0 0)).run P w = .ok a.isNone w := fun d => by
        cases a <;> simp only [Op.equalIn, Sem.run_bind, run_underlying hu, Result.andThen_ok, Sem.run_pure] <;> rfl
      exact one 9999
    have run : ∀ op', (eqGuard op' t X Y (.slice a len cap) (.slice none 0 0)).run P w = .ok () w := by
      intro op'; cases op' <;> simp [eqGuard, Result.andThen]
    split at hr
    · injection hr with hr; subst hr
      exact ⟨.bool v.isEmpty, by simp only [Sem.run_bind, run, Result.andThen_ok, binOp, eq, Sem.run_pure], fun s => boolE_sound⟩
    · injection hr with hr; subst hr
      exact ⟨.bool (!v.isEmpty), by simp only [Sem.run_bind, run, Result.andThen_ok, binOp, eq, Sem.run_pure], fun s => boolE_sound⟩
    · cases hr
  · cases hr
theorem leafAt_get {g : Gh} {h : Mem} : ∀ {ls : List Leaf} {cs : List Value} {bs : List Nat} {j : Nat} {ol : Nat × Leaf}, LeavesB g h ls cs bs → leafAt ls j = some ol →
    ∃ b, LeafB g h ol.2 ((cs.drop ol.1).take ol.2.ty.size) b ∧ ol.1 + ol.2.ty.size ≤ cs.length
  | [], _, _, _, _, _, hl => by cases hl
  | x :: r, cs, bs, 0, ol, ⟨b1, b2, h1, h2, h3⟩, hl => by
    simp only [leafAt, Option.some.injEq] at hl
    subst hl
    have hlen := h1.rd.length
    simp at hlen
    exact ⟨b1, by simpa using h1, by simp; omega⟩
  | x :: r, cs, bs, j + 1, ol, ⟨b1, b2, h1, h2, h3⟩, hl => by
    simp only [leafAt] at hl
    split at hl
    · rename_i o l hq
      injection hl with hl; subst hl
      obtain ⟨b, q1, q2⟩ := leafAt_get h2 hq
      have hlen := h1.rd.length
      simp at hlen q2
      refine ⟨b, ?_, by simp; omega⟩
      simpa [List.drop_drop, Nat.add_comm] using q1
    · cases hl
theorem fieldV_sound {get : Nat → Ent} {a : Act} {t : TypeId} {ty : Ty} {x : Operand} {e r : Ent} {j : Nat} (hT : TOK P T) (k : TyOK P T t ty) (hg : ∀ s, EntR g w.heap s (get s) (a.tmps.getD s undef))
    (hx : opE get x = some e) (hr : fieldV ty e j = some r) : ∃ v, (Instr.field t (a.eval x) j).run P w = .ok v w ∧ ∀ s, EntR g w.heap s r v := by
  obtain ⟨s0, he, hs0⟩ := opE_sound hg hx
  unfold fieldV at hr
  split at hr
  · rename_i ls
    split at hr
    · rename_i ls' hb
      cases hc : (ty.isStruct && (valMany ty ls').isSome) with
      | false => rw [hc] at hr; cases hr
      | true =>
        rw [hc] at hr
        simp only [Bool.and_eq_true] at hc
        obtain ⟨hs, hv⟩ := hc
        obtain ⟨y, hy⟩ := Option.isSome_iff_exists.1 hv
        simp only [cond_true] at hr
        split at hr
        · rename_i ol hl
          injection hr with hr; subst hr
          obtain ⟨cs, bs, hv, _, hL⟩ := he
          simp only [cond_true] at hv
          obtain ⟨q1, q2⟩ := boxLeaves_B hb hL
          obtain ⟨p1, p2⟩ := leafAt_of (o := ol.1) (l := ol.2) hy hl
          obtain ⟨b, r1, r2⟩ := leafAt_get q1 hl
          obtain ⟨fs, h1, _, h2⟩ := struct_und k hs
          obtain ⟨f, z1, z2, z3, z4⟩ := h2.at p1
          have z1' : fs[j]? = some f := by simpa using z1
          refine ⟨mkV ol.2.ty ((cs.drop ol.1).take ol.2.ty.size), ?_, fun s => r1.valR⟩
          rw [hv]
          have hp := run_part (P := P) (w := w) (hT _ _ z3) (xs := cs.toArray) (off := f.offset) (by rw [z2, p2]; simp; omega)
          simp only [Instr.field, Sem.run_bind, run_underlying h1, Result.andThen_ok, z1', asAgg, Sem.run_pure, hp]
          rw [z2, p2, Nat.zero_add]
        · cases hr
    · cases hr
  · cases hr
end
theorem RdL.cells1 {α : Type} {R : α → List Value → List Nat → Prop} (hR : ∀ x cs b, R x cs b → ∀ c ∈ cs, c.oneCell' = true) {n : Nat} : ∀ {l : List α} {cs : List Value} {bs : List Nat}, RdL R n l cs bs → cs.length = l.length * n → ∀ c ∈ cs, c.oneCell' = true
  | [], cs, bs, _, hl => by
    obtain rfl : cs = [] := List.eq_nil_of_length_eq_zero (by simpa using hl)
    intro c hc; cases hc
  | x :: xs, cs, bs, ⟨b1, b2, h1, h2, _⟩, hl => by
    intro c hc
    rw [← List.take_append_drop n cs] at hc
    rcases List.mem_append.1 hc with hc | hc
    · exact hR _ _ _ h1 c hc
    · exact RdL.cells1 hR h2 (by simp [hl, Nat.succ_mul]) c hc
theorem Rd.cells1 {h : Mem} : ∀ {t : Ty} {x : t.den} {cs : List Value} {bs : List Nat}, Rd h t x cs bs → ∀ c ∈ cs, c.oneCell' = true := by
  intro t
  induction t with
  | int k => rintro x cs bs ⟨rfl, _⟩ c hc; simp at hc; subst hc; rfl
  | bool => rintro x cs bs ⟨rfl, _⟩ c hc; simp at hc; subst hc; rfl
  | unit => rintro x cs bs ⟨rfl, _⟩ c hc; cases hc
  | pair a b iha ihb =>
    rintro x cs bs ⟨b1, b2, h1, h2, _⟩ c hc
    rw [← List.take_append_drop a.size cs] at hc
    rcases List.mem_append.1 hc with hc | hc
    · exact iha h1 c hc
    · exact ihb h2 c hc
  | arr n t ih => rintro x cs bs ⟨hl, hr⟩; exact hr.cells1 (fun x cs b hx => ih hx) (by rw [tlist_length]; exact hl)
  | slice e t ih =>
    rintro x cs bs ⟨hd, blk, bs', rfl, hs, _⟩ c hc
    simp at hc; subst hc
    rcases hs with ⟨_, rfl, _⟩ | ⟨b, o, cap, c, fr, rfl, _⟩ <;> rfl
theorem LeavesB.cells1 {g : Gh} {h : Mem} : ∀ {ls : List Leaf} {cs : List Value} {bs : List Nat}, LeavesB g h ls cs bs → ∀ c ∈ cs, c.oneCell' = true
  | [], cs, bs, ⟨h, _⟩ => by subst h; intro c hc; cases hc
  | l :: r, cs, bs, ⟨b1, b2, h1, h2, _⟩ => by
    intro c hc
    rw [← List.take_append_drop l.ty.size cs] at hc
    rcases List.mem_append.1 hc with hc | hc
    · exact h1.rd.cells1 c hc
    · exact LeavesB.cells1 h2 c hc
theorem splice_all (cs vs : List Value) (h : vs.length = cs.length) : splice cs 0 vs = vs := by
  unfold splice; simp [h]
theorem splice_splice (cs : List Value) (o n k : Nat) (vs : List Value) (h1 : o + n ≤ cs.length) (h2 : k + vs.length ≤ n) : splice cs o (splice ((cs.drop o).take n) k vs) = splice cs (o + k) vs := by
  have hl : ((cs.drop o).take n).length = n := by simp; omega
  have hs : (splice ((cs.drop o).take n) k vs).length = n := by rw [splice_length _ _ _ (by omega), hl]
  apply List.ext_getElem?; intro j
  have e2 := splice_get cs (o + k) vs (by omega) j
  rw [e2, splice_get _ _ _ (by omega), hs]
  by_cases h : o ≤ j ∧ j < o + n
  · rw [if_pos h, splice_get _ _ _ (by omega)]
    by_cases h' : k ≤ j - o ∧ j - o < k + vs.length
    · rw [if_pos h', if_pos (by omega)]; congr 1; omega
    · rw [if_neg h', if_neg (by omega), List.getElem?_take_of_lt (by omega), List.getElem?_drop]; congr 1; omega
  · rw [if_neg h, if_neg (by omega)]
theorem Rd_setP {h : Mem} {tx : Ty} {y : tx.den} {vs : List Value} (hy : Rd h tx y vs []) : ∀ {t : Ty} {p : List PStep} {v v' : t.den} {cs : List Value}, setP t v p tx y = some v' → pin t p → Rd h t v cs [] →
    Rd h t v' (splice cs (poff t p) vs) [] ∧ poff t p + vs.length ≤ cs.length := by
  have ly := hy.length
  have nilcase : ∀ {t : Ty} {v' : t.den} {cs : List Value}, Ty.cast t y = some v' → cs.length = t.size → Rd h t v' (splice cs 0 vs) [] ∧ 0 + vs.length ≤ cs.length := by
    intro t v' cs hc hl
    have e := congrArg Ty.size (cast_ty hc)
    rw [splice_all _ _ (by omega)]
    exact ⟨cast_rd hc hy, by omega⟩
  intro t
  induction t with
  | pair a b iha ihb =>
    intro p v v' cs hs hp hr
    have hlen := hr.length
    cases p with
    | nil => simp only [setP] at hs; exact nilcase hs hlen
    | cons q p =>
      obtain ⟨b1, b2, r1, r2, r3⟩ := hr
      obtain ⟨rfl, rfl⟩ := List.append_eq_nil_iff.1 r3.symm
      have l1 := r1.length; have l2 := r2.length
      simp [Ty.size] at hlen l1 l2
      cases q with
      | idx i => simp [pin] at hp
      | fld j =>
        cases j with
        | zero =>
          simp only [setP] at hs
          split at hs
          · rename_i z hz
            injection hs with hs; subst hs
            obtain ⟨q1, q2⟩ := iha hz hp r1
            simp at q2
            have gt := splice_get cs (poff a p) vs (by omega)
            refine ⟨⟨[], [], ?_, ?_, rfl⟩, by simp only [poff]; omega⟩
            · have e : (splice cs (poff (.pair a b) (.fld 0 :: p)) vs).take a.size = splice (cs.take a.size) (poff a p) vs := by
                apply List.ext_getElem?; intro j
                simp only [poff]
                by_cases hj : j < a.size
                · rw [List.getElem?_take_of_lt hj, gt, splice_get _ _ _ (by simp; omega), List.getElem?_take_of_lt hj]
                · rw [List.getElem?_eq_none (by simp; omega), List.getElem?_eq_none (by rw [splice_length _ _ _ (by simp; omega)]; simp; omega)]
              rw [e]; exact q1
            · have e : (splice cs (poff (.pair a b) (.fld 0 :: p)) vs).drop a.size = cs.drop a.size := by
                apply List.ext_getElem?; intro j
                simp only [poff]
                rw [List.getElem?_drop, List.getElem?_drop, gt, if_neg (by omega)]
              rw [e]; exact r2
          · cases hs
        | succ j =>
          simp only [setP] at hs
          split at hs
          · rename_i z hz
            injection hs with hs; subst hs
            obtain ⟨q1, q2⟩ := ihb (p := .fld j :: p) hz hp r2
            simp at q2
            have gt := splice_get cs (a.size + poff b (.fld j :: p)) vs (by omega)
            refine ⟨⟨[], [], ?_, ?_, rfl⟩, by simp only [poff]; omega⟩
            · have e : (splice cs (poff (.pair a b) (.fld (j + 1) :: p)) vs).take a.size = cs.take a.size := by
                apply List.ext_getElem?; intro j'
                simp only [poff]
                by_cases hj : j' < a.size
                · rw [List.getElem?_take_of_lt hj, List.getElem?_take_of_lt hj, gt, if_neg (by omega)]
                · rw [List.getElem?_eq_none (by simp; omega), List.getElem?_eq_none (by simp; omega)]
              rw [e]; exact r1
            · have e : (splice cs (poff (.pair a b) (.fld (j + 1) :: p)) vs).drop a.size = splice (cs.drop a.size) (poff b (.fld j :: p)) vs := by
                apply List.ext_getElem?; intro j'
                simp only [poff]
                rw [List.getElem?_drop, gt, splice_get _ _ _ (by simp; omega), List.getElem?_drop]
                by_cases hj : poff b (.fld j :: p) ≤ j' ∧ j' < poff b (.fld j :: p) + vs.length
                · rw [if_pos (by omega), if_pos hj]; congr 1; omega
                · rw [if_neg (by omega), if_neg hj]
              rw [e]; exact q1
          · cases hs
  | arr n u ih =>
    intro p v v' cs hs hp hr
    have hlen := hr.length
    cases p with
    | nil => simp only [setP] at hs; exact nilcase hs hlen
    | cons q p =>
      cases q with
      | fld j => simp [pin] at hp
      | idx i =>
        obtain ⟨hi, hp⟩ := hp
        simp only [setP] at hs
        split at hs
        · rename_i z hz
          injection hs with hs; subst hs
          obtain ⟨hl, hr⟩ := hr
          obtain ⟨b0, r1, r2⟩ := hr.get (tlist_get u.dflt n v i hi)
          have : b0 = [] := List.sublist_nil.1 r2
          subst this
          obtain ⟨q1, q2⟩ := ih hz hp r1
          have r3 := r1.length
          have hb : (i + 1) * u.size ≤ n * u.size := Nat.mul_le_mul_right _ hi
          rw [Nat.succ_mul] at hb
          have e : splice cs (poff (.arr n u) (.idx i :: p)) vs = splice cs (i * u.size) (splice ((cs.drop (i * u.size)).take u.size) (poff u p) vs) := by
            rw [splice_splice _ _ _ _ _ (by omega) (by omega)]; rfl
          have hs' : (splice ((cs.drop (i * u.size)).take u.size) (poff u p) vs).length = u.size := by rw [splice_length _ _ _ q2, r3]
          refine ⟨⟨?_, ?_⟩, by simp only [poff]; omega⟩
          · rw [e, splice_length _ _ _ (by omega)]; exact hl
          · obtain ⟨bs', s1, s2, _⟩ := RdL.set (x := z) hs' (cs' := splice cs (poff (.arr n u) (.idx i :: p)) vs) hr (by rw [tlist_length]; exact hi) q1 (fun j => by
              rw [e, splice_get _ _ _ (by omega), hs'])
            have : bs' = [] := by rcases bs' with _ | ⟨b, bs'⟩; rfl; have := s2 b (by simp); simp at this
            subst this
            rw [tlist_set]; exact s1
        · cases hs
  | int k => intro p v v' cs hs hp hr; cases p with | nil => simp only [setP] at hs; exact nilcase hs hr.length | cons q p => cases q <;> simp [pin] at hp
  | bool => intro p v v' cs hs hp hr; cases p with | nil => simp only [setP] at hs; exact nilcase hs hr.length | cons q p => cases q <;> simp [pin] at hp
  | unit => intro p v v' cs hs hp hr; cases p with | nil => simp only [setP] at hs; exact nilcase hs hr.length | cons q p => cases q <;> simp [pin] at hp
  | slice e t _ => intro p v v' cs hs hp hr; cases p with | nil => simp only [setP] at hs; exact nilcase hs hr.length | cons q p => cases q <;> simp [pin] at hp
theorem LeavesB_setOff {g : Gh} {h : Mem} : ∀ {ls : List Leaf} {cs : List Value} {bs : List Nat} {o : Nat} {l x : Leaf} {vs : List Value} {b : List Nat}, LeavesB g h ls cs bs → leafOff ls o = some l → x.ty = l.ty → LeafB g h x vs b →
    ∃ bs', LeavesB g h (setOff ls o x) (splice cs o vs) bs'
  | [], _, _, _, _, _, _, _, _, h, _, _ => by cases h
  | y :: r, cs, bs, o, l, x, vs, b, ⟨b1, b2, h1, h2, h3⟩, hl, hx, hb => by
    have hv := hb.rd.length
    rw [hx] at hv
    have len1 := h1.rd.length
    have len2 := LeavesB.length h2
    simp at len1 len2
    simp only [leafOff] at hl
    simp only [setOff]
    cases hz : Nat.beq o 0 with
    | true =>
      rw [hz] at hl; injection hl with hl; subst hl
      rw [Nat.eq_of_beq_eq_true hz]
      refine ⟨b ++ b2, b, b2, ?_, ?_, rfl⟩
      · rw [hx]; unfold splice; simp only [List.take_zero, List.nil_append]
        rw [List.take_append_of_le_length (by omega), List.take_of_length_le (by omega)]; exact hb
      · rw [hx]; unfold splice; simp only [List.take_zero, List.nil_append, Nat.zero_add]
        rw [List.drop_append_of_le_length (by omega), List.drop_of_length_le (by omega), List.nil_append, hv]; exact h2
    | false =>
      rw [hz] at hl
      cases hlt : Nat.blt o y.ty.size with
      | true => rw [hlt] at hl; cases hl
      | false =>
        rw [hlt] at hl
        have hge : y.ty.size ≤ o := by
          rcases Nat.lt_or_ge o y.ty.size with q | q
          · rw [show Nat.blt o y.ty.size = true by simpa using q] at hlt; cases hlt
          · exact q
        obtain ⟨bs', q⟩ := LeavesB_setOff h2 hl hx hb
        obtain ⟨_, _, _, q3⟩ := leafOff_get h2 hl
        simp at q3
        have gt := splice_get cs o vs (by omega)
        refine ⟨b1 ++ bs', b1, bs', ?_, ?_, rfl⟩
        · have : (splice cs o vs).take y.ty.size = cs.take y.ty.size := by
            apply List.ext_getElem?; intro j
            by_cases hj : j < y.ty.size
            · rw [List.getElem?_take_of_lt hj, List.getElem?_take_of_lt hj, gt, if_neg (by omega)]
            · rw [List.getElem?_eq_none (by simp; omega), List.getElem?_eq_none (by simp; omega)]
          rw [this]; exact h1
        · have : (splice cs o vs).drop y.ty.size = splice (cs.drop y.ty.size) (o - y.ty.size) vs := by
            apply List.ext_getElem?; intro j
            rw [List.getElem?_drop, gt, splice_get _ _ _ (by simp; omega), List.getElem?_drop]
            by_cases hj : o - y.ty.size ≤ j ∧ j < o - y.ty.size + vs.length
            · rw [if_pos (by omega), if_pos hj]; congr 1; omega
            · rw [if_neg (by omega), if_neg hj]
          rw [this]; exact q
section
variable {P : Program} {T : TTab} {n : NS} {w0 w : World} {W : Nat → Prop} {g : Gh} {get : Nat → Ent} {a : Act} {d : Nat}
theorem LeafB.mine {h : Mem} {l : Leaf} {cs : List Value} {bs : List Nat} (hl : LeafB g h l cs bs) : ∀ b ∈ bs, g.kd b = .fz ∨ ∃ t, g.kd b = .mu t := by
  cases l with
  | fz t reg lin v => exact fun b hb => .inl (hl.2.1 b hb)
  | rt e t tag sub lin st v =>
    obtain ⟨hd, blk, bs', rfl, rfl, _, _, _, h1, h2, _⟩ := hl
    intro b hb
    rcases List.mem_append.1 hb with hb | hb
    · exact .inr ⟨tag, (h2 b (by simpa using hb)).1⟩
    · exact .inl (h1 b hb)
structure Turn (g : Gh) (s b : Nat) (h h' : Mem) : Prop where
  kd : g.kd b = .bx s
  oth : ∀ y, y ≠ b → h'[y]? = h[y]?
  nomap : ∀ es c, h[b]? ≠ some (.map es c)
theorem LeafB.turn {h h' : Mem} {s b : Nat} (x : Turn g s b h h') {l : Leaf} {cs : List Value} {bs : List Nat} (hl : LeafB g h l cs bs) : LeafB g h' l cs bs :=
  hl.same (fun y hy => x.oth y (fun e => by subst e; rcases hl.mine y hy with q | ⟨t, q⟩ <;> rw [x.kd] at q <;> cases q)) (fun _ _ => rfl) (fun _ _ => rfl) (fun _ _ _ _ _ _ _ _ _ => rfl)
theorem LeavesB.turn {h h' : Mem} {s b : Nat} (x : Turn g s b h h') : ∀ {ls : List Leaf} {cs : List Value} {bs : List Nat}, LeavesB g h ls cs bs → LeavesB g h' ls cs bs
  | [], _, _, hl => hl
  | l :: r, cs, bs, ⟨b1, b2, h1, h2, h3⟩ => ⟨b1, b2, h1.turn x, h2.turn x, h3⟩
theorem PartsB.turn {h h' : Mem} {s b : Nat} (x : Turn g s b h h') {m : Nat} : ∀ {ls : List (List Leaf)} {cs : List Value} {bs : List Nat}, PartsB g h m ls cs bs → PartsB g h' m ls cs bs
  | [], _, _, hl => hl
  | l :: r, cs, bs, ⟨b1, b2, h1, h2, h3⟩ => ⟨b1, b2, h1.turn x, h2.turn x, h3⟩
theorem ValR.turn {h h' : Mem} {s b : Nat} (x : Turn g s b h h') {agg : Bool} {ls : List Leaf} {v : Value} (hv : ValR g h agg ls v) : ValR g h' agg ls v := by
  obtain ⟨cs, bs, h1, h2, h3⟩ := hv; exact ⟨cs, bs, h1, h2, h3.turn x⟩
theorem ValsR.turn {h h' : Mem} {s b : Nat} (x : Turn g s b h h') : ∀ {ls : List (Bool × List Leaf)} {vs : List Value}, ValsR g h ls vs → ValsR g h' ls vs
  | [], _, hl => hl
  | (agg, ls) :: r, vs, ⟨v, vs', h1, h2, h3⟩ => ⟨v, vs', h1, h2.turn x, h3.turn x⟩
theorem EntR.turn {h h' : Mem} {s b : Nat} (x : Turn g s b h h') {s' : Nat} (hs : s' ≠ s) {e : Ent} {v : Value} (he : EntR g h s' e v) : EntR g h' s' e v := by
  cases e with
  | dead => trivial
  | val agg ls => exact ValR.turn x he
  | lit e t pp =>
    obtain ⟨b', c, bs, h1, h2, h3, h4, h5, h6, h7⟩ := he
    exact ⟨b', c, bs, h1, by rw [x.oth b' (fun q => by subst q; rw [x.kd] at h4; cases h4)]; exact h2, h3, h4, h5, h6.turn x, h7⟩
  | box ro ls =>
    obtain ⟨b', c, e, fr, bs, h1, h2, h3, h4, h5, h6⟩ := he
    have hne : b' ≠ b := by
      intro q; subst q
      cases ro with
      | false => have := (h5 rfl).1; rw [x.kd] at this; injection this with this; exact hs this.symm
      | true => rcases h6 rfl with this | this <;> rw [x.kd] at this <;> cases this
    exact ⟨b', c, e, fr, bs, h1, by rw [x.oth b' hne]; exact h2, h3.turn x, h4, h5, h6⟩
  | ref s' base t p => exact he
  | eref l i p => obtain ⟨bs, b', o, m, cap, h1, h2⟩ := he; exact ⟨bs, b', o, m, cap, h1.turn x, h2⟩
  | fn f caps => exact he
  | tup ls => obtain ⟨vs, h1, h2⟩ := he; exact ⟨vs, h1, h2.turn x⟩
  | mp d kt vt m =>
    obtain ⟨h0, es, c, h1, h2⟩ := he
    exact ⟨h0, es, c, by rw [x.oth _ (fun q => x.nomap es c (q ▸ h1))]; exact h1, h2⟩
  | ment d kt vt k =>
    obtain ⟨z, n, h0, es, c, e, h1, h2⟩ := he
    exact ⟨z, n, h0, es, c, e, by rw [x.oth _ (fun q => x.nomap es c (q ▸ h1))]; exact h1, h2⟩
  | stamp d kt vt k =>
    obtain ⟨n, h0, es, c, e, h1, h2⟩ := he
    exact ⟨n, h0, es, c, e, by rw [x.oth _ (fun q => x.nomap es c (q ▸ h1))]; exact h1, h2⟩
  | it b' o => obtain ⟨h0, h1, h2, h3, h4⟩ := he; exact ⟨h0, by rw [x.oth b' (fun q => by subst q; rw [x.kd] at h3; cases h3)]; exact h1, h2, h3, h4⟩
theorem St.row {s b : Nat} {c cs' : Array Value} {el : TypeId} {ls' : List Leaf} {bs' : List Nat} (st : St n w0 W g get a w) (hb : w.heap[b]? = some (.cells c el (0, 0))) (hk : g.kd b = .bx s) (hbx : g.bx s = b)
    (hv : a.tmps.getD s undef = .pointer (some ⟨b, 0, none⟩)) (hl : LeavesB g w.heap ls' cs'.toList bs') : St n w0 W g (upd get s (.box false ls')) a (w.setRow b cs') := by
  have tr : Turn g s b w.heap (w.setRow b cs').heap := ⟨hk, fun y hy => setRow_other w b y cs' hy, fun es c q => by rw [hb] at q; cases q⟩
  have hb' : (w.setRow b cs').heap[b]? = some (.cells cs' el (0, 0)) := setRow_heap w b c cs' el (0, 0) hb
  have hin : b < w.heap.size ∧ (w0.heap.size ≤ b ∨ W b) := by
    rcases st.inv.kd b with q | q | q
    · rw [hk] at q; cases q
    · rw [hk] at q; cases q
    · exact q
  have hsz : (w.setRow b cs').heap.size = w.heap.size := by simp [World.setRow]
  refine ⟨⟨by rw [hsz]; exact st.inv.size, fun y hy hw => ?_, fun y => by rw [hsz]; exact st.inv.kd y, st.inv.no, st.inv.al, fun y hy => by rw [hsz]; exact st.inv.own y hy, fun y hy => ?_⟩, fun s' => ?_, st.sz, st.df, st.os, ⟨st.tape.tape, st.tape.dr⟩, st.output⟩
  · have : y ≠ b := by
      intro q; subst q
      rcases hin.2 with q | q
      · omega
      · exact hw q
    rw [tr.oth y this]; exact st.inv.old y hy hw
  · by_cases q : y = b
    · subst q; exact ⟨cs', el, hb'⟩
    · rw [tr.oth y q]; exact st.inv.wr y hy
  · unfold upd
    split
    · rename_i q; subst q
      rw [hv]
      exact ⟨b, cs', el, (0, 0), bs', rfl, hb', hl.turn tr, hbx, fun _ => ⟨hk, rfl⟩, fun q => by cases q⟩
    · rename_i q; exact (st.ent s').turn tr q
theorem run_storeVar {t : TypeId} {ty : Ty} (k : TyOK P T t ty) {b o : Nat} {c : Array Value} {e : TypeId} {v : Value} (hb : w.heap[b]? = some (.cells c e (0, 0))) (hv : v.cells.size = ty.size)
    (h1 : ∀ u ∈ v.cells.toList, u.oneCell' = true) (ho : o + ty.size ≤ c.size) :
    (Instr.storeAt t (.pointer (some ⟨b, o, none⟩)) v).run P w = .ok () (w.setRow b (splice c.toList o v.cells.toList).toArray) := by
  have := run_storeCells_at (P := P) b o e v.cells.toList 0 c w hb (by simp [hv]; omega) h1
  simp only [Instr.storeAt, Sem.run_bind, run_sureAddr, Result.andThen_ok, storeVar, sizeOf_of k, hv, ne_eq, not_true_eq_false, if_false]
  rw [this]; simp [splice]
theorem sameTys_sizes : ∀ {ls ls' : List Leaf}, sameTys ls ls' = true → sizes ls = sizes ls'
  | [], [], _ => rfl
  | a :: r, b :: r', h => by
    simp only [sameTys, Bool.and_eq_true] at h
    simp [sizes, eqb_eq h.1, sameTys_sizes h.2]
  | [], _ :: _, h => by cases h
  | _ :: _, [], h => by cases h
theorem tyP_flat : ∀ {t : Ty} {p : List PStep} {u : Ty}, t.flat = true → tyP t p = some u → u.flat = true := by
  intro t
  induction t with
  | pair a b iha ihb =>
    intro p u hf hu
    simp only [Ty.flat, Bool.and_eq_true] at hf
    cases p with
    | nil => simp only [tyP, Option.some.injEq] at hu; subst hu; simp [Ty.flat, hf]
    | cons q p => cases q with
      | idx i => simp [tyP] at hu
      | fld j => cases j with
        | zero => exact iha hf.1 (p := p) hu
        | succ j => exact ihb hf.2 (p := .fld j :: p) hu
  | arr n t ih =>
    intro p u hf hu
    cases p with
    | nil => simp only [tyP, Option.some.injEq] at hu; subst hu; exact hf
    | cons q p => cases q with
      | fld j => simp [tyP] at hu
      | idx i => exact ih hf (p := p) hu
  | int k => intro p u hf hu; cases p with | nil => simp only [tyP, Option.some.injEq] at hu; subst hu; rfl | cons q p => cases q <;> simp [tyP] at hu
  | bool => intro p u hf hu; cases p with | nil => simp only [tyP, Option.some.injEq] at hu; subst hu; rfl | cons q p => cases q <;> simp [tyP] at hu
  | unit => intro p u hf hu; cases p with | nil => simp only [tyP, Option.some.injEq] at hu; subst hu; rfl | cons q p => cases q <;> simp [tyP] at hu
  | slice e t _ => intro p u hf hu; cases hf
theorem ok_store {t : TypeId} {ty : Ty} {s : Nat} {x : Operand} {agg : Bool} {xs : List Leaf} {ups : List (Nat × Ent)} (hT : TOK P T) (k : TyOK P T t ty) (st : St n w0 W g get a w) (hx : opE get x = some (.val agg xs))
    (hr : storeE get ty s xs = some ups) :
    ∃ w', (Instr.storeAt t (a.tmps.getD s undef) (a.eval x)).run P w = .ok () w' ∧ St n w0 W g (upds get ups) a w' := by
  obtain ⟨s0, he, hs0⟩ := opE_sound st.ent hx
  obtain ⟨bsx, hcx⟩ := ValR.cells he
  have hone := hcx.cells1
  unfold storeE at hr
  split at hr
  · rename_i ls hget
    split at hr
    · rename_i ls' hls'
      cases hq : sameTys ls ls' with
      | false => rw [hq] at hr; cases hr
      | true =>
        rw [hq] at hr; simp only [cond_true, Option.some.injEq] at hr; subst hr
        have hb := st.ent s; rw [hget] at hb
        obtain ⟨b, c, e, fr, bs, h1, h2, h3, h4, h5, _⟩ := hb
        obtain ⟨h5a, h5b⟩ := h5 rfl; subst h5b
        obtain ⟨q1, q2⟩ := boxLeaves_B hls' hcx
        have len3 := h3.length
        have leq := sameTys_sizes hq
        have lq := q1.length
        simp at len3 lq q2
        refine ⟨_, by rw [h1]; exact run_storeVar (P := P) (T := T) k h2 q2 hone (by omega), ?_⟩
        have e : (splice c.toList 0 (a.eval x).cells.toList).toArray = (a.eval x).cells := by rw [splice_all _ _ (by simp; omega)]
        rw [e]
        exact st.row h2 h5a h4 h1 q1
    · cases hr
  · rename_i b0 base t0 p hget
    split at hr
    · rename_i ls hget2
      split at hr
      · rename_i l hl
        cases hq : (l.ty.eqb t0 && tyIs t0 p ty) with
        | false => rw [hq] at hr; cases hr
        | true =>
          rw [hq] at hr; simp only [cond_true] at hr
          simp only [Bool.and_eq_true] at hq
          obtain ⟨hq1, hq2⟩ := hq
          have hq1 := eqb_eq hq1; subst hq1
          have hq2 := tyIs_eq hq2
          split at hr
          · rename_i l' hl'
            simp only [Option.some.injEq] at hr; subst hr
            have hb := st.ent b0; rw [hget2] at hb
            obtain ⟨b, c, e, fr, bs, h1, h2, h3, h4, h5, _⟩ := hb
            obtain ⟨h5a, h5b⟩ := h5 rfl; subst h5b
            have hrf := st.ent s; rw [hget] at hrf
            obtain ⟨hpin, hv⟩ := hrf
            obtain ⟨bl, r1, r2, r3⟩ := leafOff_get h3 hl
            simp at r3
            -- the part written
            have part : l'.ty = l.ty ∧ (a.eval x).cells.size = ty.size ∧ poff l.ty p + ty.size ≤ l.ty.size ∧
                ∃ bx, LeafB g w.heap l' (splice ((c.toList.drop base).take l.ty.size) (poff l.ty p) (a.eval x).cells.toList) bx := by
              have lr := r1.rd.length
              have whole : ∀ (l2 : Leaf) (bb : List Nat), l2.ty = l.ty → LeafB g w.heap l2 (a.eval x).cells.toList bb → p = [] → l2.ty = l.ty ∧ (a.eval x).cells.size = ty.size ∧ poff l.ty p + ty.size ≤ l.ty.size ∧
                  ∃ bx, LeafB g w.heap l2 (splice ((c.toList.drop base).take l.ty.size) (poff l.ty p) (a.eval x).cells.toList) bx := by
                intro l2 bb e1 e2 e3
                subst e3
                have e0 : poff l.ty [] = 0 := by cases l.ty <;> rfl
                have et : tyP l.ty [] = some l.ty := by cases l.ty <;> rfl
                rw [et] at hq2; injection hq2 with hq2
                have hlen := e2.rd.length; rw [e1] at hlen
                refine ⟨e1, by rw [← hq2]; simpa using hlen, by rw [e0, ← hq2]; omega, bb, ?_⟩
                rw [e0, splice_all _ _ (by rw [hlen, lr])]; exact e2
              unfold storeP at hl'
              split at hl'
              · split at hl'
                · rename_i x1
                  cases hz : x1.ty.eqb l.ty with
                  | false => rw [hz] at hl'; cases hl'
                  | true => rw [hz] at hl'; injection hl' with hl'; subst hl'; exact whole _ _ (eqb_eq hz) hcx.one rfl
                · cases hz : l.ty.flat with
                  | false => rw [hz] at hl'; cases hl'
                  | true =>
                    rw [hz] at hl'; simp only [cond_true] at hl'
                    split at hl'
                    · rename_i y hy; injection hl' with hl'; subst hl'; exact whole (.fz l.ty 0 false y) [] rfl (flat_B hz (valAs_rd hy hcx)) rfl
                    · cases hl'
              · split at hl'
                · rename_i tt reg lin v _
                  cases hz : tt.flat with
                  | false => rw [hz] at hl'; cases hl'
                  | true =>
                    rw [hz] at hl'; simp only [cond_true] at hl'
                    split at hl'
                    · rename_i tx htx
                      have : tx = ty := by rw [show tyP tt p = some ty from hq2] at htx; injection htx with htx; exact htx.symm
                      subst this
                      split at hl'
                      · rename_i y hy
                        split at hl'
                        · rename_i v' hv'
                          injection hl' with hl'; subst hl'
                          have hry := valAs_rd hy hcx
                          have hft : tx.flat = true := tyP_flat hz hq2
                          have := hry.flat hft; subst this
                          have hrr : Rd w.heap tt v ((c.toList.drop base).take tt.size) bl := r1.1
                          have := hrr.flat hz; subst this
                          obtain ⟨u1, u2⟩ := Rd_setP hry hv' hpin hrr
                          have hyl := hry.length
                          refine ⟨rfl, by simpa using hyl, ?_, [], u1, by simp, by simp, by simp⟩
                          simp only [Leaf.ty] at lr ⊢; omega
                        · cases hl'
                      · cases hl'
                    · cases hl'
                · cases hl'
            obtain ⟨p1, p2, p3, bx, p4⟩ := part
            obtain ⟨bs2, q⟩ := LeavesB_setOff h3 hl p1 p4
            refine ⟨_, by rw [hv, h4]; exact run_storeVar (P := P) (T := T) k h2 p2 hone (by omega), ?_⟩
            rw [splice_splice _ _ _ _ _ (by simp; omega) (by simp; omega)] at q
            exact st.row h2 h5a h4 h1 (by simpa using q)
          · cases hr
      · cases hr
    · cases hr
  · cases hr
end
def OneV (h : Mem) (t : Ty) (x : t.den) (v : Value) (bs : List Nat) : Prop :=
  Rd h t x v.cells.toList bs ∧ (t.agg = true → v = .agg v.cells) ∧ (t.agg = false → v.cells = #[v])
def ArgsV (h : Mem) : (ps : List PK) → Args ps → List Value → List Nat → Prop
  | [], _, vs, bs => vs = [] ∧ bs = []
  | .v t :: ps, x, vs, bs => ∃ v r b1 b2, vs = v :: r ∧ bs = b1 ++ b2 ∧ OneV h t x.1 v b1 ∧ ArgsV h ps x.2 r b2
  | .p t :: ps, x, vs, bs => ∃ b r c e fr b1 b2, vs = .pointer (some ⟨b, 0, none⟩) :: r ∧ bs = b1 ++ b2 ∧ h[b]? = some (.cells c e fr) ∧ Rd h t x.1 c.toList b1 ∧ ArgsV h ps x.2 r b2
  | .fn f :: ps, x, vs, bs => ∃ r, vs = .func (.func f) #[] #[] :: r ∧ ArgsV h ps x.2 r bs
  | .m kt vt :: ps, x, vs, bs => ∃ b r es c, vs = .map (some b) :: r ∧ h[b]? = some (.map es c) ∧ MapR kt vt es.toList c x.1 ∧ ArgsV h ps x.2 r bs
def Strict : (t : Ty) → t.den → Value → Prop
  | .slice _ _, x, v => v = .slice none 0 0 ↔ x = []
  | _, _, _ => True
def ResV (h : Mem) (st : Bool) : (rs : List Ty) → Ress rs → List Value → List Nat → Prop
  | [], _, vs, bs => vs = [] ∧ bs = []
  | t :: rs, x, vs, bs => ∃ v r b1 b2, vs = v :: r ∧ OneV h t x.1 v b1 ∧ (st = true → Strict t x.1 v) ∧ ResV h st rs x.2 r b2 ∧ bs = b1 ++ b2
def retV (vs : List Value) : Value :=
  match vs with
  | [v] => v
  | vs => .tuple vs.toArray
def After (C : Ctr) (y : Ress C.rs) (w : World) (ba : List Nat) : Ending → World → Prop := fun e w' =>
  ∃ rv bs, e = .returned (retV rv) ∧ ResV w'.heap C.st C.rs y rv bs ∧ Below w.heap.size w w' ∧ w.drawn ≤ w'.drawn ∧ (∀ b ∈ bs, w.heap.size ≤ b ∨ b ∈ ba) ∧
    (C.fresh = true → bs.Nodup ∧ ∀ b ∈ bs, w.heap.size ≤ b ∧ ∃ c e, w'.heap[b]? = some (.cells c e (0, 0)))
def FnOK (P : Program) (k : Nat) (C : Ctr) : Prop :=
  ∀ (x : Args C.ps) (y : Ress C.rs), C.f x = some y → ∀ (w : World) (vs : List Value) (ba : List Nat), ArgsV w.heap C.ps x vs ba → Calls P k vs.toArray w (After C y w ba)
def AfterIn (C : Ctr) (y : Ress C.rs) (w : World) (vs : List Value) (ba : List Nat) : Ending → World → Prop := fun e w' =>
  ∃ v0 rv bs, vs.head? = some v0 ∧ e = .returned (retV rv) ∧ ResV w'.heap false C.rs y (v0 :: rv) bs ∧ (bs.Nodup ∧ ∀ b ∈ bs, b ∈ ba) ∧ w'.os = w.os ∧ Tp w' w ∧ w'.output = w.output ∧ w.heap.size ≤ w'.heap.size ∧
    (∀ b, b < w.heap.size → b ∉ ba → w'.heap[b]? = w.heap[b]?) ∧ ∀ b ∈ ba, ∃ c e, w'.heap[b]? = some (.cells c e (0, 0))
def InOK (P : Program) (k : Nat) (C : Ctr) : Prop :=
  ∀ (x : Args C.ps) (y : Ress C.rs), C.f x = some y → ∀ (w : World) (vs : List Value) (ba : List Nat), ArgsV w.heap C.ps x vs ba → ba.Nodup → (∀ b ∈ ba, ∃ c e, w.heap[b]? = some (.cells c e (0, 0))) →
    Calls P k vs.toArray w (AfterIn C y w vs ba)
def EatOK (P : Program) (k : Nat) : Ctr → Prop
  | ⟨[.v (.int i), .v (.slice e u), .v t], [t'], _, _, _, f⟩ => ∀ (p : Int) (l : List u.den) (r : t.den) (y : Ress [t']), f (p, l, r, ()) = some y → ∀ (w : World) (vl vr : Value) (be br : List Nat), (Lit.int i p).wf = true → OneV w.heap (.slice e u) l vl be → OneV w.heap t r vr br →
      be.Nodup → (∀ b ∈ be, ∃ c e, w.heap[b]? = some (.cells c e (0, 0))) → (∀ b ∈ br, b ∉ be) → Calls P k #[.int i p, vl, vr] w fun ee w' => ∃ rv bs, ee = .returned rv ∧ OneV w'.heap t' y.1 rv bs ∧ w'.os = w.os ∧ Tp w' w ∧ w'.output = w.output ∧ w.heap.size ≤ w'.heap.size ∧
        (∀ b, b < w.heap.size → b ∉ be → w'.heap[b]? = w.heap[b]?) ∧ bs.Nodup ∧ (∀ b ∈ bs, w.heap.size ≤ b ∨ b ∈ be) ∧ ∀ b ∈ bs, ∃ c e, w'.heap[b]? = some (.cells c e (0, 0))
  | _ => False
structure KOne (P : Program) (k : Nat) (C : Ctr) : Prop where
  ok : C.inp = 0 → FnOK P k C
  inp : C.inp = 1 → InOK P k C
  eat : C.inp = 2 → EatOK P k C
  fn : ∃ f, P.funcs[k]? = some f ∧ f.name ≠ "runtime.NumGoroutine" ∧ f.body.isNone = false
def KOK (P : Program) (K : CTab) : Prop := ∀ k C, ctr K k = some C → KOne P k C
theorem KOK.nil {P : Program} : KOK P [] := fun _ _ h => by cases h
theorem KOK.cons {P : Program} {k : Nat} {C : Ctr} {K : CTab} (h : KOne P k C) (hk : KOK P K) : KOK P ((k, C) :: K) := fun j D hj => by
  simp only [ctr] at hj
  cases hb : Nat.beq k j with
  | true => rw [hb] at hj; injection hj with hj; subst hj; rw [← Nat.eq_of_beq_eq_true hb]; exact h
  | false => rw [hb] at hj; exact hk _ _ hj
section
variable {P : Program} {T : TTab} {K : CTab} {n : NS} {w0 w : World} {W : Nat → Prop} {g : Gh} {get : Nat → Ent} {a : Act} {d : Nat}
theorem ValR.shape {h : Mem} {agg : Bool} {ls : List Leaf} {v : Value} (hv : ValR g h agg ls v) : (agg = true → v = .agg v.cells) ∧ (agg = false → v.cells = #[v]) := by
  obtain ⟨cs, bs, h1, h2, h3⟩ := hv
  cases agg with
  | true => simp only [cond_true] at h1; subst h1; exact ⟨fun _ => rfl, fun h => (by cases h)⟩
  | false => exact ⟨fun h => (by cases h), fun h => (h2 rfl).2⟩
theorem lit_rd {h : Mem} {t : Ty} : ∀ {pp : List (List Leaf)} {l : List t.den} {cs : List Value} {bs : List Nat}, PartsB g h t.size pp cs bs → argE.litVal t pp = some l → RdL (Rd h t) t.size l cs bs ∧ l.length = pp.length
  | [], l, cs, bs, h1, h2 => by simp only [argE.litVal, Option.some.injEq] at h2; subst h2; exact ⟨h1.2, rfl⟩
  | ls :: r, l, cs, bs, ⟨b1, b2, h1, h2, h3⟩, hl => by
    simp only [argE.litVal] at hl
    split at hl
    · rename_i x y hx hy
      injection hl with hl; subst hl
      obtain ⟨q1, q2⟩ := lit_rd h2 hy
      exact ⟨⟨b1, b2, valAs_rd hx h1, q1, h3⟩, by simp [q2]⟩
    · cases hl
def ER (g : Gh) (h : Mem) : List Ent → List Value → Prop
  | [], vs => vs = []
  | e :: r, vs => ∃ v vs' s, vs = v :: vs' ∧ EntR g h s e v ∧ ER g h r vs'
theorem operEs_ER {xs : List Operand} : ∀ {es : List Ent}, (∀ s, EntR g w.heap s (get s) (a.tmps.getD s undef)) → operEs get xs = some es → ER g w.heap es (xs.map a.eval) := by
  induction xs with
  | nil => intro es _ h; simp only [operEs, Option.some.injEq] at h; subst h; rfl
  | cons x xs ih =>
    intro es hg h
    simp only [operEs] at h
    split at h
    · rename_i e l he hl
      injection h with h; subst h
      obtain ⟨s, h1, _⟩ := opE_sound hg he
      exact ⟨_, _, s, rfl, h1, ih hg hl⟩
    · cases h
theorem ER.append {h : Mem} : ∀ {es es' : List Ent} {vs vs' : List Value}, ER g h es vs → ER g h es' vs' → ER g h (es ++ es') (vs ++ vs')
  | [], es', vs, vs', h1, h2 => by rw [show vs = [] from h1]; exact h2
  | e :: r, es', vs, vs', ⟨v, r', s, h1, h2, h3⟩, h4 => by subst h1; exact ⟨v, _, s, rfl, h2, h3.append h4⟩
theorem frozen_fz {h : Mem} : ∀ {ls : List Leaf} {cs : List Value} {bs : List Nat}, LeavesB g h ls cs bs → (ls.all fun l => match l with | .fz _ _ _ _ => true | _ => false) = true → ∀ b ∈ bs, g.kd b = .fz
  | [], cs, bs, ⟨_, h2⟩, _ => by subst h2; intro b hb; cases hb
  | l :: r, cs, bs, ⟨b1, b2, h1, h2, h3⟩, hf => by
    subst h3; intro b hb
    simp only [List.all_cons, Bool.and_eq_true] at hf
    rcases List.mem_append.1 hb with hb | hb
    · cases l with
      | fz t reg lin v => exact h1.2.1 b hb
      | rt _ _ _ _ _ _ _ => cases hf.1
    · exact frozen_fz h2 hf.2 b hb
theorem castMap_eq {a b c d : Ty} {m : List (a.den × b.den)} {y : List (c.den × d.den)} (h : castMap c d m = some y) : ∃ (e1 : a = c) (e2 : b = d), (e1 ▸ e2 ▸ m : List (c.den × d.den)) = y := by
  unfold castMap at h
  split at h
  · rename_i q
    injection h with h
    exact ⟨Ty.eq_of_eqb ((Bool.and_eq_true _ _).mp q).1, Ty.eq_of_eqb ((Bool.and_eq_true _ _).mp q).2, h⟩
  · cases h
theorem argE_V {h : Mem} : ∀ {ps : List PK} {es : List Ent} {x : Args ps} {vs : List Value}, argsE ps es = some x → ER g h es vs → ∃ ba, ArgsV h ps x vs ba ∧ (es.all frozenE = true → ∀ b ∈ ba, g.kd b = .fz)
  | [], [], x, vs, _, he => ⟨[], ⟨he, rfl⟩, fun _ b hb => by cases hb⟩
  | k :: ks, e :: es, x, vs, hx, ⟨v, vs', s, h1, h2, h3⟩ => by
    subst h1
    simp only [argsE] at hx
    split at hx
    · rename_i y z hy hz
      injection hx with hx; subst hx
      obtain ⟨ba, ih, ihf⟩ := argE_V hz h3
      have comb : ∀ (b1 : List Nat), (frozenE e = true → ∀ b ∈ b1, g.kd b = .fz) → ((e :: es).all frozenE = true → ∀ b ∈ b1 ++ ba, g.kd b = .fz) := by
        intro b1 hq hall b hb
        simp only [List.all_cons, Bool.and_eq_true] at hall
        rcases List.mem_append.1 hb with hb | hb
        · exact hq hall.1 b hb
        · exact ihf hall.2 b hb
      cases k with
      | v t =>
        cases e with
        | val agg ls =>
          have hy : (bif (agg && t.agg) || (!agg && !t.agg) then valAs t ls else none) = some y := by cases t <;> exact hy
          have hag : agg = t.agg := by
            cases agg <;> cases ht : t.agg <;> simp [ht] at hy <;> rfl
          have hy : valAs t ls = some y := by rw [hag] at hy; cases ht : t.agg <;> simpa [ht] using hy
          obtain ⟨bs, hb⟩ := ValR.cells h2
          have hs := ValR.shape h2
          rw [hag] at hs
          exact ⟨bs ++ ba, ⟨v, vs', bs, ba, rfl, rfl, ⟨valAs_rd hy hb, hs.1, hs.2⟩, ih⟩, comb bs (fun q => frozen_fz hb q)⟩
        | lit el u pp =>
          cases t with
          | slice el' u' =>
            simp only [argE] at hy
            cases hq : (Ty.slice el u).eqb (Ty.slice el' u') with
            | false => rw [hq] at hy; cases hy
            | true =>
              rw [hq] at hy; simp only [cond_true] at hy
              have := eqb_eq hq
              injection this with t1 t2; subst t1; subst t2
              obtain ⟨b, c, bs, e1, e2, e3, e4, e5, e6, e7⟩ := h2
              obtain ⟨q1, q2⟩ := lit_rd e6 hy
              obtain ⟨blk, hs, _⟩ := SlR.mk (e := el) (n := u.size) (R := Rd h u) (l := y) (hd := v) (b := b) (o := 0) (c := c) (cap := pp.length) (by rw [q2, e1]) (by rw [q2]; exact Nat.le_refl _) e2 (by omega) (by simpa using q1)
              exact ⟨(blk.toList ++ bs) ++ ba, ⟨v, vs', blk.toList ++ bs, ba, rfl, rfl, ⟨⟨v, blk, bs, by rw [e1]; rfl, hs, rfl⟩, fun h => (by cases h), fun _ => by rw [e1]; rfl⟩, ih⟩, comb _ (fun q => by cases q)⟩
          | _ => simp [argE] at hy
        | _ => cases t <;> simp [argE] at hy
      | p t =>
        cases e with
        | box ro ls =>
          simp only [argE] at hy
          obtain ⟨b, c, el, fr, bs, e1, e2, e3, _⟩ := h2
          exact ⟨bs ++ ba, ⟨b, vs', c, el, fr, bs, ba, by rw [e1], rfl, e2, valAs_rd hy e3, ih⟩, comb bs (fun q => frozen_fz e3 q)⟩
        | _ => simp [argE] at hy
      | fn f =>
        cases e with
        | fn f' caps =>
          cases caps with
          | nil =>
            simp only [argE] at hy
            cases hq : Nat.beq f f' with
            | false => rw [hq] at hy; cases hy
            | true =>
              have := Nat.eq_of_beq_eq_true hq; subst this
              exact ⟨ba, ⟨vs', by rw [show v = _ from h2]; rfl, ih⟩, comb [] (fun _ b hb => by cases hb)⟩
          | cons _ _ => simp [argE] at hy
        | _ => simp [argE] at hy
      | m kt vt =>
        cases e with
        | mp d kt' vt' m =>
          simp only [argE] at hy
          obtain ⟨e1, e2, hy⟩ := castMap_eq hy
          subst e1; subst e2
          have hy : m = y := hy
          subst hy
          obtain ⟨h0, es', c, h1, _, _, h2⟩ := h2
          exact ⟨ba, ⟨_, vs', es', c, by rw [h0], h1, h2, ih⟩, comb [] (fun _ b hb => by cases hb)⟩
        | _ => simp [argE] at hy
    · cases hx
  | [], _ :: _, x, vs, hx, _ => by simp [argsE] at hx
  | _ :: _, [], x, vs, hx, _ => by simp [argsE] at hx
structure Claim (g g' : Gh) (bs : List Nat) (lo hi : Nat) : Prop where
  kd : ∀ b, b ∉ bs → g'.kd b = g.kd b
  own : ∀ b, b ∉ bs → g'.own b = g.own b
  H : ∀ t, (t < lo ∨ hi ≤ t) → g'.H t = g.H t
  bx : g'.bx = g.bx
  al : g'.al = g.al
  mt : g'.mt = g.mt
  mine : ∀ b ∈ bs, g'.kd b = .fz ∨ ∃ t, g'.kd b = .mu t
theorem Claim.refl (g : Gh) (bs : List Nat) (lo hi : Nat) (hk : ∀ b ∈ bs, g.kd b = .fz) : Claim g g bs lo hi := ⟨fun _ _ => rfl, fun _ _ => rfl, fun _ _ => rfl, rfl, rfl, rfl, fun b hb => .inl (hk b hb)⟩
theorem LeafB.claim {g g' : Gh} {h : Mem} {bs' : List Nat} {lo hi : Nat} (x : Claim g g' bs' lo hi) {l : Leaf} {cs : List Value} {bs : List Nat} (hl : LeafB g h l cs bs) (hd : ∀ b ∈ bs, b ∉ bs')
    (ht : ∀ e t tag sub lin st v, l = .rt e t tag sub lin st v → tag < lo ∨ hi ≤ tag) : LeafB g' h l cs bs :=
  hl.same (fun _ _ => rfl) (fun b hb => x.kd b (hd b hb)) (fun b hb => x.own b (hd b hb)) (fun e t tag sub lin st v he _ => x.H tag (ht e t tag sub lin st v he))
theorem claim_slice {g : Gh} {h : Mem} {e : TypeId} {u : Ty} {tag : Nat} {st : Bool} {v : List u.den} {hd : Value} {bs : List Nat} (hr : Rd h (.slice e u) v [hd] bs) (hn : bs.Nodup) (hst : st = true → (hd = .slice none 0 0 ↔ v = []))
    (hw : ∀ b ∈ bs, g.kd b = .fz ∧ ∃ c e, h[b]? = some (.cells c e (0, 0))) : ∃ g', Claim g g' bs tag (tag + 1) ∧ LeafB g' h (.rt e u tag false true st v) [hd] bs ∧ ∀ b ∈ bs, g'.own b = tag := by
  obtain ⟨hd', blk, bs', h1, h2, h3⟩ := hr
  injection h1 with h1 _; subst h1; subst h3
  have hn' := List.nodup_append.1 hn
  refine ⟨{ kd := fun b => if blk = some b then .mu tag else g.kd b, own := fun b => if b ∈ blk.toList ++ bs' then tag else g.own b, H := fun t => if t = tag then hd else g.H t, bx := g.bx, al := g.al, mt := g.mt },
    ⟨fun b hb => if_neg (fun q => hb (by simp [q])), fun b hb => if_neg hb, fun t ht => if_neg (by omega), rfl, rfl, rfl, fun b hb => ?_⟩,
    ⟨hd, blk, bs', rfl, rfl, fun _ => by simp, hst, h2, fun b hb => ?_, fun b hb => ?_, fun _ => ⟨fun b hb => if_pos (List.mem_append_right _ hb), hn'.2.1⟩⟩, fun b hb => if_pos hb⟩
  · show (if blk = some b then BK.mu tag else g.kd b) = _ ∨ ∃ t, (if blk = some b then BK.mu tag else g.kd b) = _
    by_cases q : blk = some b
    · rw [if_pos q]; exact .inr ⟨tag, rfl⟩
    · rw [if_neg q]; exact .inl (hw b hb).1
  · have : blk ≠ some b := fun q => hn'.2.2 b (by simp [q]) b hb rfl
    show (if blk = some b then BK.mu tag else g.kd b) = _
    rw [if_neg this]; exact (hw b (List.mem_append_right _ hb)).1
  · refine ⟨if_pos hb, if_pos (by simp [hb]), ?_⟩
    obtain ⟨c, e', q⟩ := (hw b (by simp [hb])).2
    exact ⟨c, e', q⟩
theorem explode_claim {h : Mem} : ∀ {t : Ty} {tag : Nat} {st : Bool} {x : t.den} {ls : List Leaf} {cs : List Value} {bs : List Nat} {g : Gh}, explodeNew tag st t x = some ls → Rd h t x cs bs → bs.Nodup → st = false →
    (∀ b ∈ bs, g.kd b = .fz ∧ ∃ c e, h[b]? = some (.cells c e (0, 0))) → ∃ g', Claim g g' bs tag (tag + tagRoom.width t) ∧ LeavesB g' h ls cs bs ∧ ∀ b ∈ bs, tag ≤ g'.own b ∧ g'.own b < tag + tagRoom.width t := by
  intro t
  induction t with
  | unit =>
    intro tag st x ls cs bs g hl hr _ _ _
    simp only [explodeNew, Option.some.injEq] at hl; subst hl
    obtain ⟨rfl, rfl⟩ := hr
    exact ⟨g, Claim.refl _ _ _ _ (by simp), ⟨rfl, rfl⟩, by simp⟩
  | pair a b _ ihb =>
    intro tag st x ls cs bs g hl hr hn hs hw
    subst hs
    obtain ⟨b1, b2, r1, r2, rfl⟩ := hr
    have hn' := List.nodup_append.1 hn
    have hwd : tagRoom.width (.pair a b) = 1 + tagRoom.width b := rfl
    have fc : ∀ (a' : Ty) (x1 : a'.den), (∃ e : a' = a, e ▸ x1 = x.1) → (bif a'.flat then (match explodeNew (tag + 1) false b x.2 with | some r => some (Leaf.fz a' 0 false x1 :: r) | none => none) else none) = some ls →
        ∃ g', Claim g g' (b1 ++ b2) tag (tag + tagRoom.width (.pair a b)) ∧ LeavesB g' h ls cs (b1 ++ b2) ∧ ∀ y ∈ b1 ++ b2, tag ≤ g'.own y ∧ g'.own y < tag + tagRoom.width (.pair a b) := by
      rintro a' x1 ⟨rfl, hx1⟩ hl
      subst hx1
      cases hf : a'.flat with
      | false => rw [hf] at hl; cases hl
      | true =>
        rw [hf] at hl; simp only [cond_true] at hl
        split at hl
        · rename_i r hr
          injection hl with hl; subst hl
          have := r1.flat hf; subst this
          obtain ⟨g', q1, q2, q3⟩ := ihb hr r2 hn'.2.1 rfl (fun y hy => hw y (by simpa using hy))
          refine ⟨g', ⟨fun y hy => q1.kd y (by simpa using hy), fun y hy => q1.own y (by simpa using hy), fun t ht => q1.H t (by omega), q1.bx, q1.al, q1.mt, fun y hy => q1.mine y (by simpa using hy)⟩, ⟨[], b2, flat_B hf r1, q2, rfl⟩, fun y hy => ?_⟩
          have := q3 y (by simpa using hy); omega
        · cases hl
    cases a with
    | slice e u =>
      simp only [explodeNew] at hl
      split at hl
      · rename_i r hr
        injection hl with hl; subst hl
        obtain ⟨hd, blk, bs', e1, e2, e3⟩ := r1
        obtain ⟨g1, p1, p2, p3⟩ := claim_slice (g := g) (tag := tag) (st := false) (v := x.1) (hd := hd) (bs := b1) ⟨hd, blk, bs', rfl, e2, e3⟩ hn'.1 (fun q => by cases q) (fun y hy => hw y (List.mem_append_left _ hy))
        have dis : ∀ y ∈ b2, y ∉ b1 := fun y hy q => hn'.2.2 y q y hy rfl
        obtain ⟨g', q1, q2, q3⟩ := ihb (g := g1) hr r2 hn'.2.1 rfl (fun y hy => by rw [p1.kd y (dis y hy)]; exact hw y (List.mem_append_right _ hy))
        refine ⟨g', ⟨fun y hy => ?_, fun y hy => ?_, fun t ht => ?_, q1.bx.trans p1.bx, q1.al.trans p1.al, q1.mt.trans p1.mt, fun y hy => ?_⟩, ⟨b1, b2, ?_, q2, rfl⟩, fun y hy => ?_⟩
        · simp at hy; rw [q1.kd y hy.2, p1.kd y hy.1]
        · simp at hy; rw [q1.own y hy.2, p1.own y hy.1]
        · rw [q1.H t (by omega), p1.H t (by omega)]
        · rcases List.mem_append.1 hy with hy | hy
          · rw [q1.kd y (fun q => dis y q hy)]; exact p1.mine y hy
          · exact q1.mine y hy
        · show LeafB g' h _ (cs.take 1) b1
          rw [show (cs.take 1 : List Value) = [hd] from e1]
          exact p2.claim q1 (fun y hy q => dis y q hy) (fun _ _ _ _ _ _ _ he => by injection he with _ _ he; omega)
        · rcases List.mem_append.1 hy with hy | hy
          · rw [q1.own y (fun q => dis y q hy), p3 y hy]; omega
          · have := q3 y hy; omega
      · cases hl
    | int k => exact fc _ _ ⟨rfl, rfl⟩ hl
    | bool => exact fc _ _ ⟨rfl, rfl⟩ hl
    | unit => exact fc _ _ ⟨rfl, rfl⟩ hl
    | pair _ _ => exact fc _ _ ⟨rfl, rfl⟩ hl
    | arr _ _ => exact fc _ _ ⟨rfl, rfl⟩ hl
  | _ => intro tag st x ls cs bs g hl; cases hl
theorem mkfz_len (t : Ty) (v : t.den) {cs : List Value} {bs : List Nat} {h : Mem} (hr : Rd h t v cs bs) (hk : ∀ b ∈ bs, g.kd b = .fz) : LeavesB g h [mkfz t 0 false v] cs bs :=
  (mkfz_B hr hk (fun q => absurd rfl q) (fun q => by cases q)).many
theorem leaves_of {h : Mem} {ls : List Leaf} {v : Value} {t : Ty} {bs : List Nat} (hl : LeavesB g h ls v.cells.toList bs) (h1 : t.agg = true → v = .agg v.cells) (h2 : t.agg = false → v.cells = #[v]) : ValR g h t.agg ls v := by
  refine ⟨v.cells.toList, bs, ?_, fun ha => ?_, hl⟩
  · cases ht : t.agg with
    | true => simp only [cond_true, Array.toArray_toList]; exact h1 ht
    | false => rw [h2 ht]; rfl
  · rw [h2 ha]; exact ⟨rfl, rfl⟩
def TagsLt (ls : List Leaf) (m : Nat) : Prop := ∀ l ∈ ls, ∀ e t tag sub lin st v, l = .rt e t tag sub lin st v → tag < m
theorem explodeNew_tags : ∀ {t : Ty} {tag : Nat} {st : Bool} {x : t.den} {ls : List Leaf}, explodeNew tag st t x = some ls → TagsLt ls (tag + tagRoom.width t) := by
  intro t
  induction t with
  | unit => intro tag st x ls hl; simp only [explodeNew, Option.some.injEq] at hl; subst hl; intro l hl; cases hl
  | pair a b _ ihb =>
    intro tag st x ls hl
    have hwd : tagRoom.width (.pair a b) = 1 + tagRoom.width b := rfl
    have later : ∀ {l0 : Leaf} {r : List Leaf}, explodeNew (tag + 1) st b x.2 = some r → (∀ e t tg sub lin st v, l0 = .rt e t tg sub lin st v → tg = tag) → TagsLt (l0 :: r) (tag + tagRoom.width (.pair a b)) := by
      intro l0 r hr h0 l hl e t tg sub lin st v he
      rcases List.mem_cons.1 hl with hl | hl
      · subst hl; have := h0 _ _ _ _ _ _ _ he; omega
      · have := ihb hr l hl e t tg sub lin st v he; omega
    have fc : ∀ (a' : Ty) (x1 : a'.den), (bif a'.flat then (match explodeNew (tag + 1) st b x.2 with | some r => some (Leaf.fz a' 0 false x1 :: r) | none => none) else none) = some ls → TagsLt ls (tag + tagRoom.width (.pair a b)) := by
      intro a' x1 hl
      cases hf : a'.flat with
      | false => rw [hf] at hl; cases hl
      | true =>
        rw [hf] at hl; simp only [cond_true] at hl
        split at hl
        · rename_i r hr; injection hl with hl; subst hl; exact later hr (fun _ _ _ _ _ _ _ h => by cases h)
        · cases hl
    cases a with
    | slice e u =>
      simp only [explodeNew] at hl
      split at hl
      · rename_i r hr; injection hl with hl; subst hl
        exact later hr (fun _ _ _ _ _ _ _ h => by injection h with _ _ h; exact h.symm)
      · cases hl
    | int k => exact fc _ _ hl
    | bool => exact fc _ _ hl
    | unit => exact fc _ _ hl
    | pair _ _ => exact fc _ _ hl
    | arr _ _ => exact fc _ _ hl
  | _ => intro tag st x ls hl; cases hl
theorem res_claim {h : Mem} {fresh st : Bool} {tag : Nat} {t : Ty} {x : t.den} {v : Value} {bs : List Nat} (ho : OneV h t x v bs) (hst : st = true → Strict t x v) (hk : ∀ b ∈ bs, g.kd b = .fz)
    (hf : fresh = true → bs.Nodup ∧ ∀ b ∈ bs, ∃ c e, h[b]? = some (.cells c e (0, 0))) :
    ∃ g', Claim g g' bs tag (tag + tagRoom.width t) ∧ LeavesB g' h (resLeaves fresh st tag t x) v.cells.toList bs ∧ TagsLt (resLeaves fresh st tag t x) (tag + tagRoom.width t) ∧ (∀ b ∈ bs, g'.own b = g.own b ∨ (tag ≤ g'.own b ∧ fresh = true)) := by
  obtain ⟨h1, h2, h3⟩ := ho
  have notag : TagsLt [mkfz t 0 false x] (tag + tagRoom.width t) := by
    intro l hl e t' tg sub lin st v he
    simp at hl; subst hl
    unfold mkfz at he; cases hq : t.flat <;> rw [hq] at he <;> cases he
  have plain : ∃ g', Claim g g' bs tag (tag + tagRoom.width t) ∧ LeavesB g' h [mkfz t 0 false x] v.cells.toList bs ∧ TagsLt [mkfz t 0 false x] (tag + tagRoom.width t) ∧ (∀ b ∈ bs, g'.own b = g.own b ∨ (tag ≤ g'.own b ∧ fresh = true)) :=
    ⟨g, Claim.refl _ _ _ _ hk, mkfz_len t x h1 hk, notag, fun _ _ => .inl rfl⟩
  unfold resLeaves
  cases fresh with
  | false => exact plain
  | true =>
    obtain ⟨n1, n2⟩ := hf rfl
    rw [cond_true]
    have flatc : t.flat = true → ∀ ls, some [Leaf.fz t 0 false x] = some ls → ∃ g', Claim g g' bs tag (tag + tagRoom.width t) ∧ LeavesB g' h ls v.cells.toList bs ∧ TagsLt ls (tag + tagRoom.width t) ∧ (∀ b ∈ bs, g'.own b = g.own b ∨ (tag ≤ g'.own b ∧ true = true)) := by
      intro hfl ls hls
      injection hls with hls
      have e : mkfz t 0 false x = Leaf.fz t 0 false x := by unfold mkfz; rw [hfl]; rfl
      rw [e] at plain
      subst hls; exact plain
    split
    · rename_i ls hls
      cases t with
      | slice e u =>
        simp only [newLeaves, isSlice, Bool.and_true, Option.some.injEq] at hls; subst hls
        have hc := h3 rfl
        have h1' : Rd h (.slice e u) x [v] bs := by rw [hc] at h1; exact h1
        obtain ⟨g', q1, q2, q3⟩ := claim_slice (g := g) (tag := tag) (st := st) (v := x) (hd := v) (bs := bs) h1' n1 hst (fun b hb => ⟨hk b hb, n2 b hb⟩)
        refine ⟨g', q1, by rw [hc]; exact q2.many, fun l hl e t tg sub lin st v he => ?_, fun b hb => .inr ⟨by rw [q3 b hb]; exact Nat.le_refl _, rfl⟩⟩
        simp at hl; subst hl; injection he with _ _ he; simp [tagRoom.width]; omega
      | pair b c =>
        simp only [newLeaves, isSlice, Bool.and_false] at hls
        obtain ⟨g', q1, q2, q3⟩ := explode_claim (g := g) hls h1 n1 rfl (fun b hb => ⟨hk b hb, n2 b hb⟩)
        exact ⟨g', q1, q2, explodeNew_tags hls, fun b hb => .inr ⟨(q3 b hb).1, rfl⟩⟩
      | unit =>
        simp only [newLeaves, isSlice, Bool.and_false] at hls
        obtain ⟨g', q1, q2, q3⟩ := explode_claim (g := g) hls h1 n1 rfl (fun b hb => ⟨hk b hb, n2 b hb⟩)
        exact ⟨g', q1, q2, explodeNew_tags hls, fun b hb => .inr ⟨(q3 b hb).1, rfl⟩⟩
      | int k => exact flatc rfl ls hls
      | bool => exact flatc rfl ls hls
      | arr m u =>
        simp only [newLeaves] at hls
        cases hfl : (Ty.arr m u).flat with
        | false => rw [hfl] at hls; cases hls
        | true => rw [hfl] at hls; exact flatc hfl ls hls
    · exact plain
theorem LeavesB.claim {g g' : Gh} {h : Mem} {bs' : List Nat} {lo hi : Nat} (x : Claim g g' bs' lo hi) : ∀ {ls : List Leaf} {cs : List Value} {bs : List Nat}, LeavesB g h ls cs bs → (∀ b ∈ bs, b ∉ bs') → TagsLt ls lo → LeavesB g' h ls cs bs
  | [], _, _, hl, _, _ => hl
  | l :: r, cs, bs, ⟨b1, b2, h1, h2, h3⟩, hd, ht => by
    subst h3
    exact ⟨b1, b2, h1.claim x (fun b hb => hd b (List.mem_append_left _ hb)) (fun e t tag sub lin st v he => .inl (ht l (by simp) e t tag sub lin st v he)),
      LeavesB.claim x h2 (fun b hb => hd b (List.mem_append_right _ hb)) (fun l hl => ht l (by simp [hl])), rfl⟩
theorem tup_plain {h : Mem} {st : Bool} : ∀ {rs : List Ty} {tag : Nat} {x : Ress rs} {vs : List Value} {bs : List Nat}, ResV h st rs x vs bs → (∀ b ∈ bs, g.kd b = .fz) → ValsR g h (resTup false st tag rs x) vs := by
  intro rs
  induction rs with
  | nil => intro tag x vs bs hr _; exact hr.1
  | cons t rs ih =>
    rintro tag x vs bs ⟨v, r, c1, c2, e1, e2, e3, e4, e5⟩ hk
    subst e5
    exact ⟨v, r, e1, leaves_of (mkfz_len t x.1 e2.1 (fun b hb => hk b (List.mem_append_left _ hb))) e2.2.1 e2.2.2, ih e4 (fun b hb => hk b (List.mem_append_right _ hb))⟩
theorem resE_plain {h : Mem} {st : Bool} {tag : Nat} {rs : List Ty} {x : Ress rs} {vs : List Value} {bs : List Nat} (hr : ResV h st rs x vs bs) (hk : ∀ b ∈ bs, g.kd b = .fz) (s : Nat) : EntR g h s (resE false st tag rs x) (retV vs) := by
  match rs, x, hr with
  | [], x, hr => obtain ⟨rfl, rfl⟩ := hr; exact ⟨#[], rfl, rfl⟩
  | [t], x, hr =>
    obtain ⟨v, r, b1, b2, h1, h2, h3, ⟨h4, h4'⟩, h5⟩ := hr
    subst h4; subst h4'; subst h1; rw [List.append_nil] at h5; subst h5
    exact leaves_of (mkfz_len t x.1 h2.1 hk) h2.2.1 h2.2.2
  | t :: t' :: rs, x, hr =>
    have q := tup_plain (tag := tag) hr hk
    obtain ⟨v, r, b1, b2, h1, h2, h3, h4, h5⟩ := hr
    obtain ⟨v', r', b1', b2', h1', _⟩ := h4
    subst h1; subst h1'
    exact ⟨_, rfl, q⟩
theorem tup_claim {h : Mem} {fresh st : Bool} : ∀ {rs : List Ty} {tag : Nat} {x : Ress rs} {vs : List Value} {bs : List Nat} {g : Gh}, ResV h st rs x vs bs → (∀ b ∈ bs, g.kd b = .fz) →
    (fresh = true → bs.Nodup ∧ ∀ b ∈ bs, ∃ c e, h[b]? = some (.cells c e (0, 0))) → (rs.all fun t => Nat.ble (tagRoom.width t) 4) = true →
    ∃ g', Claim g g' bs tag (tag + 4 * rs.length) ∧ ValsR g' h (resTup fresh st tag rs x) vs ∧ ∀ b ∈ bs, g'.own b = g.own b ∨ (tag ≤ g'.own b ∧ fresh = true)
  | [], tag, x, vs, bs, g, ⟨h1, h2⟩, hk, _, _ => ⟨g, Claim.refl _ _ _ _ hk, h1, fun _ _ => .inl rfl⟩
  | t :: rs, tag, x, vs, bs, g, ⟨v, r, b1, b2, h1, h2, h3, h4, h5⟩, hk, hf, hw => by
    subst h1; subst h5
    simp only [List.all_cons, Bool.and_eq_true] at hw
    have hw1 : tagRoom.width t ≤ 4 := by simpa using hw.1
    obtain ⟨g1, p1, p2, p3, p4⟩ := res_claim (g := g) (fresh := fresh) (st := st) (tag := tag) h2 h3 (fun b hb => hk b (List.mem_append_left _ hb))
      (fun q => ⟨(List.nodup_append.1 (hf q).1).1, fun b hb => (hf q).2 b (List.mem_append_left _ hb)⟩)
    cases hfr : fresh with
    | false =>
      subst hfr
      exact ⟨g, Claim.refl _ _ _ _ hk, ⟨v, r, rfl, leaves_of (mkfz_len t x.1 h2.1 (fun b hb => hk b (List.mem_append_left _ hb))) h2.2.1 h2.2.2, tup_plain h4 (fun b hb => hk b (List.mem_append_right _ hb))⟩, fun _ _ => .inl rfl⟩
    | true =>
      subst hfr
      obtain ⟨n1, n2⟩ := hf rfl
      have dis : ∀ y ∈ b1, y ∉ b2 := fun y hy q => (List.nodup_append.1 n1).2.2 y hy y q rfl
      have dis' : ∀ y ∈ b2, y ∉ b1 := fun y hy q => dis y q hy
      obtain ⟨g', q1, q2, q3⟩ := tup_claim (tag := tag + 4) (g := g1) h4 (fun b hb => by rw [p1.kd b (dis' b hb)]; exact hk b (List.mem_append_right _ hb)) (fun q => ⟨(List.nodup_append.1 n1).2.1, fun b hb => n2 b (List.mem_append_right _ hb)⟩) hw.2
      refine ⟨g', ⟨fun y hy => ?_, fun y hy => ?_, fun t' ht => ?_, q1.bx.trans p1.bx, q1.al.trans p1.al, q1.mt.trans p1.mt, fun y hy => ?_⟩, ⟨v, r, rfl, leaves_of (p2.claim q1 dis (fun l hl e t tg sub lin st v he => by have := p3 l hl e t tg sub lin st v he; omega)) h2.2.1 h2.2.2, q2⟩, fun y hy => ?_⟩
      · simp at hy; rw [q1.kd y hy.2, p1.kd y hy.1]
      · simp at hy; rw [q1.own y hy.2, p1.own y hy.1]
      · simp only [List.length_cons] at ht; rw [q1.H t' (by omega), p1.H t' (by omega)]
      · rcases List.mem_append.1 hy with hy | hy
        · rw [q1.kd y (dis y hy)]; exact p1.mine y hy
        · exact q1.mine y hy
      · rcases List.mem_append.1 hy with hy | hy
        · rw [q1.own y (dis y hy)]; exact p4 y hy
        · rcases q3 y hy with q | q
          · rw [q, p1.own y (dis' y hy)]; exact .inl rfl
          · exact .inr ⟨by omega, rfl⟩
theorem ResV.lt {h : Mem} {st : Bool} : ∀ {rs : List Ty} {x : Ress rs} {vs : List Value} {bs : List Nat}, ResV h st rs x vs bs → ∀ b ∈ bs, b < h.size
  | [], x, vs, bs, ⟨_, h2⟩ => by subst h2; intro b hb; cases hb
  | t :: rs, x, vs, bs, ⟨v, r, b1, b2, h1, h2, h3, h4, h5⟩ => by
    subst h5; intro b hb
    rcases List.mem_append.1 hb with hb | hb
    · exact h2.1.lt b hb
    · exact ResV.lt h4 b hb
theorem resE_claim {h : Mem} {fresh st : Bool} {tag : Nat} {rs : List Ty} {x : Ress rs} {vs : List Value} {bs : List Nat} (hr : ResV h st rs x vs bs) (hk : ∀ b ∈ bs, g.kd b = .fz)
    (hf : fresh = true → bs.Nodup ∧ ∀ b ∈ bs, ∃ c e, h[b]? = some (.cells c e (0, 0))) (hw : tagRoom rs = true) :
    ∃ g', Claim g g' bs tag (tag + 14) ∧ (∀ s, EntR g' h s (resE fresh st tag rs x) (retV vs)) ∧ ∀ b ∈ bs, g'.own b = g.own b ∨ (tag ≤ g'.own b ∧ fresh = true) := by
  match rs, x, hr, hw with
  | [], x, hr, hw => obtain ⟨rfl, rfl⟩ := hr; exact ⟨g, Claim.refl _ _ _ _ hk, fun s => ⟨#[], rfl, rfl⟩, fun _ hb => by cases hb⟩
  | [t], x, hr, hw =>
    obtain ⟨v, r, b1, b2, h1, h2, h3, h4, h5⟩ := hr
    obtain ⟨h4, h4'⟩ := h4
    subst h4; subst h4'; subst h1; rw [List.append_nil] at h5; subst h5
    obtain ⟨g1, p1, p2, p3, p4⟩ := res_claim (g := g) (fresh := fresh) (st := st) (tag := tag) h2 h3 hk hf
    have hw1 : tagRoom.width t ≤ 14 := by simpa [tagRoom] using hw
    exact ⟨g1, ⟨p1.kd, p1.own, fun t ht => p1.H t (by omega), p1.bx, p1.al, p1.mt, p1.mine⟩, fun s => leaves_of p2 h2.2.1 h2.2.2, p4⟩
  | t :: t' :: rs, x, hr, hw =>
    simp only [tagRoom, Bool.and_eq_true] at hw
    have hl : (t :: t' :: rs).length ≤ 3 := by simpa using hw.1
    obtain ⟨g', q1, q2, q3⟩ := tup_claim (g := g) (tag := tag) (fresh := fresh) hr hk hf hw.2
    obtain ⟨v, r, b1, b2, h1, h2, h3, h4, h5⟩ := hr
    obtain ⟨v', r', b1', b2', h1', _⟩ := h4
    subst h1; subst h1'
    exact ⟨g', ⟨q1.kd, q1.own, fun t ht => q1.H t (by omega), q1.bx, q1.al, q1.mt, q1.mine⟩, fun s => ⟨_, rfl, q2⟩, q3⟩
end
section
variable {P : Program} {T : TTab} {K : CTab} {n : NS} {w0 w : World} {W : Nat → Prop} {g : Gh} {get : Nat → Ent} {a : Act} {d : Nat}
theorem tagAt_out {d t : Nat} (h : tagAt d t = false) : t < d * 16 + 1 ∨ d * 16 + 1 + 14 ≤ t := by
  unfold tagAt at h
  rw [Bool.and_eq_false_iff] at h
  rcases h with h | h
  · have : t = 0 := Nat.eq_of_beq_eq_true (by simpa using h)
    omega
  · have := nbeq_ne h; omega
theorem Inv.fresh {h0 h : Mem} (i : Inv g h0 h W) {b : Nat} (hb : h.size ≤ b) : g.kd b = .fz := by
  rcases i.kd b with q | q | q
  · exact q
  · have := i.no b q; have := i.size; omega
  · omega
theorem ResV.flat {h : Mem} {st : Bool} : ∀ {rs : List Ty} {x : Ress rs} {vs : List Value} {bs : List Nat}, ResV h st rs x vs bs → rs.all Ty.flat = true → bs = []
  | [], x, vs, bs, ⟨_, h2⟩, _ => h2
  | t :: rs, x, vs, bs, ⟨v, r, b1, b2, h1, h2, h3, h4, h5⟩, hf => by
    simp only [List.all_cons, Bool.and_eq_true] at hf
    rw [h5, h2.1.flat hf.1, ResV.flat h4 hf.2]; rfl
theorem ArgsV.flat {h : Mem} : ∀ {ps : List PK} {x : Args ps} {vs : List Value} {ba : List Nat}, ArgsV h ps x vs ba → ps.all flatPK = true → ba = []
  | [], x, vs, ba, ⟨_, h2⟩, _ => h2
  | .v t :: r, x, vs, ba, hh, hf => by
    obtain ⟨v, vr, b1, b2, h1, h2, h3, h4⟩ := hh
    simp only [List.all_cons, flatPK, Bool.and_eq_true] at hf
    rw [h2, h3.1.flat hf.1, ArgsV.flat h4 hf.2]; rfl
  | .p t :: r, x, vs, ba, hh, hf => by simp [flatPK] at hf
  | .fn f :: r, x, vs, ba, hh, hf => by simp [flatPK] at hf
  | .m kt vt :: r, x, vs, ba, hh, hf => by simp [flatPK] at hf
theorem mkfz_own {h : Mem} (t : Ty) (v : t.den) {cs : List Value} {bs : List Nat} (hr : Rd h t v cs bs) (hk : ∀ b ∈ bs, g.kd b = .fz) (ho : ∀ b ∈ bs, g.own b = 0) : LeavesB g h [mkfz t 0 true v] cs bs :=
  (mkfz_B hr hk (fun q => absurd rfl q) (fun _ => ⟨fun q => absurd rfl q, fun _ => ho⟩)).many
theorem resFT_ent {h : Mem} {st : Bool} : ∀ {rs : List Ty} {x : Ress rs} {vs : List Value} {bs : List Nat}, ResV h st rs x vs bs → (∀ b ∈ bs, g.kd b = .fz) → (∀ b ∈ bs, g.own b = 0) → ValsR g h (resFT rs x) vs := by
  intro rs
  induction rs with
  | nil => intro x vs bs hr _ _; exact hr.1
  | cons t rs ih =>
    rintro x vs bs ⟨v, r, c1, c2, e1, e2, e3, e4, e5⟩ hk ho
    subst e5
    exact ⟨v, r, e1, leaves_of (mkfz_own t x.1 e2.1 (fun b hb => hk b (List.mem_append_left _ hb)) (fun b hb => ho b (List.mem_append_left _ hb))) e2.2.1 e2.2.2, ih e4 (fun b hb => hk b (List.mem_append_right _ hb)) (fun b hb => ho b (List.mem_append_right _ hb))⟩
theorem resF_ent {h : Mem} {st : Bool} {rs : List Ty} {x : Ress rs} {vs : List Value} {bs : List Nat} (hr : ResV h st rs x vs bs) (hk : ∀ b ∈ bs, g.kd b = .fz) (ho : ∀ b ∈ bs, g.own b = 0) (s : Nat) : EntR g h s (resF rs x) (retV vs) := by
  match rs, x, hr with
  | [], x, hr => obtain ⟨rfl, rfl⟩ := hr; exact ⟨#[], rfl, rfl⟩
  | [t], x, hr =>
    obtain ⟨v, r, b1, b2, h1, h2, h3, ⟨h4, h4'⟩, h5⟩ := hr
    subst h4; subst h4'; subst h1; rw [List.append_nil] at h5; subst h5
    exact leaves_of (mkfz_own t x.1 h2.1 hk ho) h2.2.1 h2.2.2
  | t :: t' :: rs, x, hr =>
    have q := resFT_ent hr hk ho
    obtain ⟨v, r, b1, b2, h1, h2, h3, h4, h5⟩ := hr
    obtain ⟨v', r', b1', b2', h1', _⟩ := h4
    subst h1; subst h1'
    exact ⟨_, rfl, q⟩
theorem ok_call {dst : Option Nat} {f : Nat} {es : List Ent} {vs : List Value} {rs : List Ty} {x : Option (Ress rs)} {mk : Ress rs → List (Nat × Ent)} {y : Ress rs} (hK : KOK P K) (st : St n w0 W g get a w)
    (hd : ∀ d, dst = some d → n.has d) (clean : ∀ d, dst = some d → ∀ s, (get s).at d = false) (he : ER g w.heap es vs) (hr : callE K dst f es = some (.callr rs x mk)) (hx : x = some y) :
    (∃ fn, P.funcs[f]? = some fn ∧ fn.name ≠ "runtime.NumGoroutine" ∧ fn.body.isNone = false) ∧
    Calls P f vs.toArray w fun e w' => ∃ v, e = .returned v ∧ ∃ g', g'.al = g.al ∧ St n w0 W g' (upds get (mk y)) (a.put dst v) w' := by
  unfold callE at hr
  split at hr
  · cases hr
  · rename_i C hC
    obtain ⟨hok, _, _, hfn⟩ := hK _ _ hC
    refine ⟨hfn, ?_⟩
    split at hr
    · cases hr
    · rename_i ar har
      cases hw : (Nat.beq C.inp 0 && tagRoom C.rs && (C.fresh || C.rs.all Ty.flat || es.all frozenE)) with
      | false => rw [hw] at hr; cases hr
      | true =>
        rw [hw] at hr; simp only [cond_true, Option.some.injEq, OpRes.callr.injEq] at hr
        obtain ⟨hr1, hr2, hr3⟩ := hr
        subst hr1
        have hr2 := eq_of_heq hr2
        have hr3 := eq_of_heq hr3
        simp only [Bool.and_eq_true, Bool.not_eq_true'] at hw
        obtain ⟨⟨hw0, hw1⟩, hw2⟩ := hw
        replace hok := hok (Nat.eq_of_beq_eq_true hw0)
        obtain ⟨ba, hav, hfz⟩ := argE_V har he
        refine (hok ar y (by rw [hr2, hx]) w vs ba hav).mono ?_
        rintro e w' ⟨rv, bs, rfl, hres, hbel, hdr, hal, hfresh⟩
        refine ⟨retV rv, rfl, ?_⟩
        have hlt := hres.lt
        -- what the results lead to, the caller may speak of
        have hk : ∀ b ∈ bs, g.kd b = .fz := by
          intro b hb
          rcases hal b hb with q | q
          · exact st.inv.fresh q
          · rw [Bool.or_eq_true, Bool.or_eq_true] at hw2
            rcases hw2 with (hw2 | hw2) | hw2
            · exact st.inv.fresh ((hfresh hw2).2 b hb).1
            · rw [hres.flat hw2] at hb; cases hb
            · exact hfz hw2 b q
        -- the state without the result
        have base : ∀ g' : Gh, (∀ b, b ∉ bs → g'.kd b = g.kd b) → (∀ b, b ∉ bs → g'.own b = g.own b) → g'.al = g.al → (∀ b ∈ bs, g'.kd b = g.kd b ∧ g'.own b = g.own b ∨ w.heap.size ≤ b ∧ (g'.kd b = .fz ∨ ∃ t, g'.kd b = .mu t) ∧ ∃ c e, w'.heap[b]? = some (.cells c e (0, 0))) →
            Inv g' w0.heap w'.heap W := by
          intro g' k1 k2 k3 k4
          have hsz := hbel.size
          have same : ∀ b, (g'.kd b = g.kd b ∧ g'.own b = g.own b) ∨ (w.heap.size ≤ b ∧ b < w'.heap.size ∧ (g'.kd b = .fz ∨ ∃ t, g'.kd b = .mu t) ∧ ∃ c e, w'.heap[b]? = some (.cells c e (0, 0))) := by
            intro b
            by_cases hb : b ∈ bs
            · rcases k4 b hb with q | q
              · exact .inl q
              · exact .inr ⟨q.1, hlt b hb, q.2⟩
            · exact .inl ⟨k1 b hb, k2 b hb⟩
          refine ⟨Nat.le_trans st.inv.size hsz, fun b hb hW => ?_, fun b => ?_, fun b hb => ?_, fun b hb => ?_, fun b hb => ?_, fun b hb => ?_⟩
          · rw [hbel.block b (Nat.lt_of_lt_of_le hb st.inv.size)]; exact st.inv.old b hb hW
          · rcases same b with q | q
            · rw [q.1]; rcases st.inv.kd b with r | r | r
              · exact .inl r
              · exact .inr (.inl r)
              · exact .inr (.inr ⟨Nat.lt_of_lt_of_le r.1 hsz, r.2⟩)
            · exact .inr (.inr ⟨q.2.1, .inl (Nat.le_trans st.inv.size q.1)⟩)
          · rcases same b with q | q
            · rw [q.1] at hb; exact st.inv.no b hb
            · rcases q.2.2.1 with r | ⟨t, r⟩ <;> rw [r] at hb <;> cases hb
          · rw [k3]
            rcases same b with q | q
            · rw [q.1] at hb; exact st.inv.al b hb
            · exact .inl (Nat.le_trans st.inv.size q.1)
          · rcases same b with q | q
            · rw [q.2] at hb; have := st.inv.own b hb; exact ⟨Nat.lt_of_lt_of_le this.1 hsz, this.2⟩
            · exact ⟨q.2.1, .inl (Nat.le_trans st.inv.size q.1)⟩
          · rcases same b with q | q
            · rw [q.2] at hb
              have := (st.inv.own b hb).1
              rw [hbel.block b this]; exact st.inv.wr b hb
            · exact q.2.2.2
        have extOf : ∀ (d : Nat) (g' : Gh), (∀ b, b < w.heap.size → g'.kd b = g.kd b) → (∀ b, b < w.heap.size → g'.own b = g.own b) → (∀ t, tagAt d t = false → g'.H t = g.H t) → g'.bx = g.bx → g'.mt = g.mt → Ext d g w.heap g' w'.heap := by
          intro d g' k1 k2 k3 k4 k5
          exact ⟨hbel.size, fun b hb => .inl (hbel.block b hb), k1, k2, k3, fun s _ => by rw [k4], fun s _ => by rw [k5]⟩
        have self := base g (fun _ _ => rfl) (fun _ _ => rfl) rfl (fun b hb => .inl ⟨rfl, rfl⟩)
        cases dst with
        | none =>
          rw [← hr3]
          refine ⟨g, rfl, ⟨self, fun s => ?_, st.sz, st.df, hbel.os.trans st.os, Tp.trans ⟨hbel.tape, hdr⟩ st.tape, hbel.output.trans st.output⟩⟩
          -- a number that no slot speaks of
          have hs := st.ent s
          have up : ∀ {l : Leaf} {cs : List Value} {bs : List Nat}, LeafB g w.heap l cs bs → LeafB g w'.heap l cs bs := fun hl => hl.same (fun b hb => hbel.block b (hl.lt b hb)) (fun _ _ => rfl) (fun _ _ => rfl) (fun _ _ _ _ _ _ _ _ _ => rfl)
          have ups : ∀ {ls : List Leaf} {cs : List Value} {bs : List Nat}, LeavesB g w.heap ls cs bs → LeavesB g w'.heap ls cs bs := by
            intro ls
            induction ls with
            | nil => intro cs bs h; exact h
            | cons l r ih => rintro cs bs ⟨b1, b2, h1, h2, h3⟩; exact ⟨b1, b2, up h1, ih h2, h3⟩
          have lt : ∀ {b : Nat} {o : Obj}, w.heap[b]? = some o → b < w.heap.size := fun {b o} hb => by
            rcases Nat.lt_or_ge b w.heap.size with hlt | hge
            · exact hlt
            · rw [Array.getElem?_eq_none hge] at hb; cases hb
          have upv : ∀ {agg : Bool} {ls : List Leaf} {v : Value}, ValR g w.heap agg ls v → ValR g w'.heap agg ls v := by
            rintro agg ls v ⟨cs, bs, h1, h2, h3⟩; exact ⟨cs, bs, h1, h2, ups h3⟩
          show EntR g w'.heap s (get s) (a.tmps.getD s undef)
          revert hs
          generalize get s = e
          generalize a.tmps.getD s undef = v
          intro hs
          cases e with
          | dead => trivial
          | val agg ls => exact upv hs
          | lit e t pp =>
            obtain ⟨b, c, bs, h1, h2, h3, h4, h5, h6, h7⟩ := hs
            have upp : ∀ {m : Nat} {pp : List (List Leaf)} {cs : List Value} {bs : List Nat}, PartsB g w.heap m pp cs bs → PartsB g w'.heap m pp cs bs := by
              intro m pp
              induction pp with
              | nil => intro cs bs h; exact h
              | cons l r ih => rintro cs bs ⟨b1, b2, h1, h2, h3⟩; exact ⟨b1, b2, ups h1, ih h2, h3⟩
            exact ⟨b, c, bs, h1, by rw [hbel.block b (lt h2)]; exact h2, h3, h4, h5, upp h6, h7⟩
          | box ro ls =>
            obtain ⟨b, c, e, fr, bs, h1, h2, h3, h4⟩ := hs
            exact ⟨b, c, e, fr, bs, h1, by rw [hbel.block b (lt h2)]; exact h2, ups h3, h4⟩
          | ref s' base t p => exact hs
          | eref l i p => obtain ⟨bs, b, o, m, cap, h1, h2⟩ := hs; exact ⟨bs, b, o, m, cap, up h1, h2⟩
          | fn f caps => exact hs
          | mp d kt vt m => obtain ⟨h0, es, c, h1, h2⟩ := hs; exact ⟨h0, es, c, by rw [hbel.block _ (lt h1)]; exact h1, h2⟩
          | ment d kt vt k => obtain ⟨z, n, h0, es, c, e, h1, h2⟩ := hs; exact ⟨z, n, h0, es, c, e, by rw [hbel.block _ (lt h1)]; exact h1, h2⟩
          | stamp d kt vt k => obtain ⟨n, h0, es, c, e, h1, h2⟩ := hs; exact ⟨n, h0, es, c, e, by rw [hbel.block _ (lt h1)]; exact h1, h2⟩
          | it b o => obtain ⟨h0, h1, h2⟩ := hs; exact ⟨h0, by rw [hbel.block _ (lt h1)]; exact h1, h2⟩
          | tup ls =>
            obtain ⟨vs, h1, h2⟩ := hs
            refine ⟨vs, h1, ?_⟩
            have : ∀ {ls : List (Bool × List Leaf)} {vs : List Value}, ValsR g w.heap ls vs → ValsR g w'.heap ls vs := by
              intro ls
              induction ls with
              | nil => intro vs h; exact h
              | cons q r ih => obtain ⟨agg, l⟩ := q; rintro vs ⟨v, vs', h1, h2, h3⟩; exact ⟨v, vs', h1, upv h2, ih h3⟩
            exact this h2
        | some d =>
          rw [← hr3]
          have hdn := hd d rfl
          have hcl := clean d rfl
          cases hf : C.fresh with
          | false =>
            have x := extOf d g (fun _ _ => rfl) (fun _ _ => rfl) (fun _ _ => rfl) rfl rfl
            exact ⟨g, rfl, st.put hdn x self hbel.os ⟨hbel.tape, hdr⟩ hbel.output (fun s _ => hcl s) (by
              cases hfl : C.ps.all flatPK with
              | false => exact resE_plain hres hk d
              | true =>
                have hb0 := hav.flat hfl
                refine resF_ent hres hk (fun b hb => ?_) d
                rcases hal b hb with q | q
                · by_cases hq : g.own b = 0
                  · exact hq
                  · have := (st.inv.own b hq).1; omega
                · rw [hb0] at q; cases q)⟩
          | true =>
            obtain ⟨n1, n2⟩ := hfresh hf
            obtain ⟨g', q1, q2, q3⟩ := resE_claim (g := g) (fresh := true) (tag := d * 16 + 1) hres hk (fun _ => ⟨n1, fun b hb => (n2 b hb).2⟩) hw1
            have x := extOf d g' (fun b hb => q1.kd b (fun q => by have := (n2 b q).1; omega)) (fun b hb => q1.own b (fun q => by have := (n2 b q).1; omega)) (fun t ht => q1.H t (tagAt_out ht)) q1.bx q1.mt
            exact ⟨g', q1.al, st.put hdn x (base g' q1.kd q1.own q1.al (fun b hb => .inr ⟨(n2 b hb).1, q1.mine b hb, (n2 b hb).2⟩)) hbel.os ⟨hbel.tape, hdr⟩ hbel.output (fun s _ => hcl s) (q2 d)⟩
end
theorem keyT_form {kt : Ty} (h : keyT kt = true) : (∃ n k, kt = .arr n (.int k)) ∨ ∃ n m k, kt = .arr n (.arr m (.int k)) := by
  unfold keyT at h; split at h
  · exact .inl ⟨_, _, rfl⟩
  · exact .inr ⟨_, _, _, rfl⟩
  · cases h
theorem keyT_flat {kt : Ty} (h : keyT kt = true) : kt.flat = true ∧ kt.agg = true ∧ kt.dep ≤ Op.maxDepth := by
  rcases keyT_form h with ⟨n, k, rfl⟩ | ⟨n, m, k, rfl⟩
  · exact ⟨rfl, rfl, by simp [Ty.dep, Op.maxDepth]⟩
  · exact ⟨rfl, rfl, by simp [Ty.dep, Op.maxDepth]⟩
theorem elT_form {vt : Ty} (h : elT vt = true) : (∃ k, vt = .int k) ∨ vt = .bool := by
  unfold elT at h; split at h
  · exact .inl ⟨_, rfl⟩
  · exact .inr rfl
  · cases h
def okCell : Value → Bool
  | .int _ _ => true
  | .bool _ => true
  | _ => false
theorem rdl_flat {t : Ty} {h h' : Mem} (ih : ∀ {x y : t.den} {cs cs' : List Value}, Rd h t x cs [] → Rd h' t y cs' [] → (x = y ↔ cs = cs') ∧ ∀ c ∈ cs, okCell c = true) :
    ∀ {l l' : List t.den} {cs cs' : List Value}, l.length = l'.length → cs.length = l.length * t.size → cs'.length = l'.length * t.size → RdL (Rd h t) t.size l cs [] → RdL (Rd h' t) t.size l' cs' [] → (l = l' ↔ cs = cs') ∧ ∀ c ∈ cs, okCell c = true
  | [], [], cs, cs', _, h1, h2, _, _ => by
    have e1 : cs = [] := List.eq_nil_of_length_eq_zero (by simpa using h1)
    have e2 : cs' = [] := List.eq_nil_of_length_eq_zero (by simpa using h2)
    subst e1; subst e2; simp
  | x :: l, y :: l', cs, cs', hl, h1, h2, ⟨b1, b2, p1, p2, p3⟩, ⟨c1, c2, q1, q2, q3⟩ => by
    obtain ⟨rfl, rfl⟩ := List.append_eq_nil_iff.1 p3.symm
    obtain ⟨rfl, rfl⟩ := List.append_eq_nil_iff.1 q3.symm
    simp only [List.length_cons, Nat.add_mul, Nat.one_mul] at h1 h2 hl
    obtain ⟨r1, r2⟩ := ih p1 q1
    obtain ⟨s1, s2⟩ := rdl_flat ih (by omega) (by simp; omega) (by simp; omega) p2 q2
    refine ⟨⟨fun e => ?_, fun e => ?_⟩, fun c hc => ?_⟩
    · injection e with e1 e2
      rw [← List.take_append_drop t.size cs, ← List.take_append_drop t.size cs', r1.1 e1, s1.1 e2]
    · subst e; rw [r1.2 rfl, s1.2 rfl]
    · rw [← List.take_append_drop t.size cs, List.mem_append] at hc
      exact hc.elim (r2 c) (s2 c)
  | [], _ :: _, _, _, hl, _, _, _, _ => by simp at hl
  | _ :: _, [], _, _, hl, _, _, _, _ => by simp at hl
theorem tlist_inj' {α : Type} : ∀ {n : Nat} {x y : Tup α n}, tlist n x = tlist n y → x = y
  | 0, _, _, _ => rfl
  | n + 1, x, y, h => by
    simp only [tlist, List.cons.injEq] at h
    exact Prod.ext h.1 (tlist_inj' h.2)
theorem rd_flat {h h' : Mem} : ∀ (t : Ty), t.flat = true → ∀ {x y : t.den} {cs cs' : List Value}, Rd h t x cs [] → Rd h' t y cs' [] → (x = y ↔ cs = cs') ∧ ∀ c ∈ cs, okCell c = true := by
  intro t
  induction t with
  | int k =>
    rintro _ x y cs cs' ⟨rfl, _, _⟩ ⟨rfl, _, _⟩
    refine ⟨⟨fun e => by rw [e], fun e => ?_⟩, by simp [okCell]⟩
    injection e with e; injection e
  | bool =>
    rintro _ x y cs cs' ⟨rfl, _⟩ ⟨rfl, _⟩
    refine ⟨⟨fun e => by rw [e], fun e => ?_⟩, by simp [okCell]⟩
    injection e with e; injection e
  | unit =>
    rintro _ x y cs cs' ⟨rfl, _⟩ ⟨rfl, _⟩
    exact ⟨⟨fun _ => rfl, fun _ => rfl⟩, by simp⟩
  | pair a b iha ihb =>
    rintro hf x y cs cs' ⟨b1, b2, p1, p2, p3⟩ ⟨c1, c2, q1, q2, q3⟩
    obtain ⟨rfl, rfl⟩ := List.append_eq_nil_iff.1 p3.symm
    obtain ⟨rfl, rfl⟩ := List.append_eq_nil_iff.1 q3.symm
    simp only [Ty.flat, Bool.and_eq_true] at hf
    obtain ⟨r1, r2⟩ := iha hf.1 p1 q1
    obtain ⟨s1, s2⟩ := ihb hf.2 p2 q2
    refine ⟨⟨fun e => ?_, fun e => ?_⟩, fun c hc => ?_⟩
    · rw [← List.take_append_drop a.size cs, ← List.take_append_drop a.size cs', r1.1 (congrArg Prod.fst e), s1.1 (congrArg Prod.snd e)]
    · subst e; exact Prod.ext (r1.2 rfl) (s1.2 rfl)
    · rw [← List.take_append_drop a.size cs, List.mem_append] at hc
      exact hc.elim (r2 c) (s2 c)
  | arr n t ih =>
    rintro hf x y cs cs' ⟨p1, p2⟩ ⟨q1, q2⟩
    obtain ⟨r1, r2⟩ := rdl_flat (fun {_ _ _ _} a b => ih hf a b) (by simp [tlist_length]) (by simpa [tlist_length] using p1) (by simpa [tlist_length] using q1) p2 q2
    exact ⟨⟨fun e => r1.1 (by rw [e]), fun e => tlist_inj' (r1.2 e)⟩, r2⟩
  | slice e t _ => intro hf; cases hf
theorem eqT_iff {α : Type} {f : α → α → Bool} (hf : ∀ a b, f a b = true ↔ a = b) : ∀ {n : Nat} {x y : Tup α n}, Ty.eqd.eqT f n x y = true ↔ x = y
  | 0, x, y => ⟨fun _ => rfl, fun _ => rfl⟩
  | n + 1, x, y => by
    simp only [Ty.eqd.eqT, Bool.and_eq_true, hf, eqT_iff hf]
    exact ⟨fun ⟨a, b⟩ => Prod.ext a b, fun e => by rw [e]; exact ⟨rfl, rfl⟩⟩
theorem eqd_int {k : IntKind} {a b : Int} : (Ty.int k).eqd a b = true ↔ a = b := by show decide (a = b) = true ↔ _; exact decide_eq_true_iff
theorem Vk.det {kt : Ty} (hk : keyT kt = true) {x : kt.den} {v v' : Value} (h : Vk kt x v) (h' : Vk kt x v') : v = v' := by
  obtain ⟨h1, h2, _⟩ := keyT_flat hk
  have e := ((rd_flat kt h1 h.1 h'.1).1).1 rfl
  rw [h.2.1 h2, h'.2.1 h2]; congr 1; exact Array.ext' e
theorem Vk.inj {kt : Ty} (hk : keyT kt = true) {x y : kt.den} {v : Value} (h : Vk kt x v) (h' : Vk kt y v) : x = y :=
  ((rd_flat kt (keyT_flat hk).1 h.1 h'.1).1).2 rfl
theorem eqd_key {kt : Ty} (hk : keyT kt = true) {x y : kt.den} : kt.eqd x y = true ↔ x = y := by
  rcases keyT_form hk with ⟨n, k, rfl⟩ | ⟨n, m, k, rfl⟩
  · exact eqT_iff (fun a b => eqd_int (k := k))
  · exact eqT_iff (fun a b => eqT_iff (fun a b => eqd_int (k := k)))
theorem vk_of {h : Mem} {t : Ty} {x : t.den} {cs : List Value} (hr : Rd h t x cs []) : Vk t x (mkV t cs) := by
  have hr' : Rd #[] t x cs [] := hr.frame (by simp)
  cases ha : t.agg with
  | true =>
    have : mkV t cs = .agg cs.toArray := by unfold mkV; rw [ha]; rfl
    rw [this]
    exact ⟨by simpa [Value.cells] using hr', fun _ => rfl, fun q => by rw [ha] at q; cases q⟩
  | false =>
    obtain ⟨c, rfl, hc⟩ := hr.one ha
    have : mkV t [c] = c := by unfold mkV; rw [ha]; rfl
    rw [this]
    exact ⟨by rw [hc]; exact hr', fun q => (by rw [ha] at q; cases q), fun _ => hc⟩
theorem Vk.rd {t : Ty} {x : t.den} {v : Value} (h : Vk t x v) : ∃ cs, v = mkV t cs ∧ ∀ h' : Mem, Rd h' t x cs [] := by
  obtain ⟨h1, h2, h3⟩ := h
  refine ⟨v.cells.toList, ?_, fun h' => h1.frame (by simp)⟩
  unfold mkV
  cases ha : t.agg with
  | true => rw [cond_true]; rw [show v.cells.toList.toArray = v.cells from rfl]; exact h2 ha
  | false => rw [cond_false, h3 ha]; rfl
section
variable {P : Program} {T : TTab} {K : CTab} {n : NS} {w0 w : World} {W : Nat → Prop} {g : Gh} {get : Nat → Ent} {a : Act} {d : Nat}
theorem check_arr (hT : TOK P T) {m : Nat} {u : Ty} {t : TypeId} (k : TyOK P T t (.arr m u)) {N : Nat} {em : Bool} (inner : ∀ (e : TypeId) (cs : List Value), TyOK P T e u → cs.length = u.size → (Instr.checkKey em N e (mkV u cs)).run P w = .ok () w)
    {cs : Array Value} (hl : cs.size = m * u.size) : (Instr.checkKey em (N + 1) t (.agg cs)).run P w = .ok () w := by
  obtain ⟨e, hu, hte, hz, _⟩ := k.und
  rw [Instr.checkKey]
  simp only [Sem.run_bind, run_underlying hu, Result.andThen_ok]
  simp only [Std.Legacy.Range.forIn_eq_forIn_range', Std.Legacy.Range.size, Nat.sub_zero, Nat.add_one_sub_one, Nat.div_one]
  have each : ∀ i ∈ List.range' 0 m, i < m := by intro i hi; simpa using hi
  generalize List.range' 0 m = is at each
  induction is with
  | nil => simp
  | cons j is ih =>
    have hj := each j (.head _)
    have hle : j * u.size + u.size ≤ cs.size := by
      have := Nat.mul_le_mul_right u.size (show j + 1 ≤ m by omega)
      rw [Nat.add_mul, Nat.one_mul] at this
      omega
    simp only [List.forIn_cons, Sem.run_bind, sizeOf_of (hT _ _ hte), Result.andThen_ok, run_part (xs := cs) (hT _ _ hte) hle, inner e _ (hT _ _ hte) (show ((cs.toList.drop (j * u.size)).take u.size).length = u.size by simp; omega), Sem.run_pure]
    exact ih fun y hy => each y (.tail _ hy)
theorem check_int (hT : TOK P T) {q : IntKind} {N : Nat} {em : Bool} (e : TypeId) (v : Value) (k : TyOK P T e (.int q)) : (Instr.checkKey em (N + 1) e v).run P w = .ok () w := by
  rw [Instr.checkKey]
  simp only [Sem.run_bind, run_underlying k.und, Result.andThen_ok, Sem.run_pure]
theorem run_check (hT : TOK P T) {kt : Ty} (hk : keyT kt = true) {t : TypeId} (k : TyOK P T t kt) {x : kt.den} {v : Value} (hx : Vk kt x v) (em : Bool) : (Instr.checkKey em 10000 t v).run P w = .ok () w := by
  obtain ⟨h1, h2, _⟩ := keyT_flat hk
  have hv := hx.2.1 h2
  have hl := hx.1.length
  rcases keyT_form hk with ⟨n, q, rfl⟩ | ⟨n, m, q, rfl⟩
  · rw [hv]
    exact check_arr (N := 9999) hT k (fun e cs ke _ => check_int (N := 9998) hT e _ ke) (by simpa [Ty.size] using hl)
  · rw [hv]
    exact check_arr (N := 9999) hT k (fun e cs ke hc => check_arr (N := 9998) hT ke (fun e cs ke _ => check_int (N := 9997) hT e _ ke) (by simpa [Ty.size] using hc)) (by simpa [Ty.size] using hl)
theorem run_find (hT : TOK P T) {kt : Ty} (hk : keyT kt = true) {t : TypeId} (k : TyOK P T t kt) {x : kt.den} {v : Value} (hx : Vk kt x v) : ∀ (es : List MapEntry) (i : Nat), (∀ e ∈ es, ∃ y, Vk kt y e.key) →
    ((Instr.findAsking t v es i).run P w = .ok none w ∧ ∀ e ∈ es, ¬ Vk kt x e.key) ∨ ∃ j e, (Instr.findAsking t v es i).run P w = .ok (some (i + j, e.val)) w ∧ es[j]? = some e ∧ Vk kt x e.key
  | [], i, _ => .inl ⟨rfl, by simp⟩
  | e :: es, i, hall => by
    obtain ⟨y, hy⟩ := hall e (.head _)
    obtain ⟨xs, e1, r1⟩ := hx.rd
    obtain ⟨ys, e2, r2⟩ := hy.rd
    obtain ⟨hf, _, hd⟩ := keyT_flat hk
    have eq : (Op.equal t v e.key).run P w = .ok (kt.eqd x y) w := by rw [e1, e2]; exact (eqd_sound (w := w) hT kt hf).1 Op.maxDepth t x y xs ys hd k (r1 w.heap) (r2 w.heap)
    cases hb : kt.eqd x y with
    | true =>
      have := (eqd_key hk).1 hb; subst this
      exact .inr ⟨0, e, by simp only [Instr.findAsking, Sem.run_bind, eq, hb, Result.andThen_ok, if_true, Sem.run_pure, Nat.add_zero], rfl, hy⟩
    | false =>
      have ne : ¬ Vk kt x e.key := fun q => by rw [(eqd_key hk).2 (q.inj hk hy)] at hb; cases hb
      rcases run_find hT hk k hx es (i + 1) (fun y hy => hall y (.tail _ hy)) with ⟨h1, h2⟩ | ⟨j, e', h1, h2, h3⟩
      · refine .inl ⟨by simp only [Instr.findAsking, Sem.run_bind, eq, hb, Result.andThen_ok, Bool.false_eq_true, if_false, h1], fun y hy => ?_⟩
        rcases List.mem_cons.1 hy with rfl | hy
        · exact ne
        · exact h2 y hy
      · exact .inr ⟨j + 1, e', by simp only [Instr.findAsking, Sem.run_bind, eq, hb, Result.andThen_ok, Bool.false_eq_true, if_false, h1, Nat.add_assoc, Nat.add_comm 1 j], by simpa using h2, h3⟩
theorem run_findKey' (hT : TOK P T) {kt : Ty} (hk : keyT kt = true) {t : TypeId} (k : TyOK P T t kt) {x : kt.den} {v : Value} (hx : Vk kt x v) (es : List MapEntry) (hall : ∀ e ∈ es, ∃ y, Vk kt y e.key) :
    ((Instr.findKey t v es).run P w = .ok none w ∧ ∀ e ∈ es, ¬ Vk kt x e.key) ∨ ∃ j e, (Instr.findKey t v es).run P w = .ok (some (j, e.val)) w ∧ es[j]? = some e ∧ Vk kt x e.key := by
  have wide : (match P.underlying t with | some (.array _ _) | some (.struct _) => true | _ => false) = true := by
    rcases keyT_form hk with ⟨m, q, rfl⟩ | ⟨m, m', q, rfl⟩
    · obtain ⟨e, hu, _⟩ := k.und
      rw [hu]
    · obtain ⟨e, hu, _⟩ := k.und
      rw [hu]
  rw [run_findKey_eq w wide]
  have := run_find (w := w) hT hk k hx es 0 hall
  simpa only [Nat.zero_add] using this
theorem sameBits_ok {m : Nat} : ∀ l : List Value, (∀ c ∈ l, okCell c = true) → (l.zip l).all (fun (x, y) => Instr.sameBits m x y) = true
  | [], _ => rfl
  | x :: l, h => by
    simp only [List.zip_cons_cons, List.all_cons, sameBits_ok l (fun c hc => h c (.tail _ hc)), Bool.and_true]
    have := h x (.head _)
    cases x with
    | int k n => cases m <;> simp [Instr.sameBits]
    | bool b => cases m <;> simp [Instr.sameBits]
    | _ => cases this
theorem run_stays {kt : Ty} (hk : keyT kt = true) {x : kt.den} {v : Value} (hx : Vk kt x v) : (Instr.keyThatStays v v).run P w = .ok v w := by
  obtain ⟨h1, h2, _⟩ := keyT_flat hk
  have hv := hx.2.1 h2
  have hs : Instr.sameBits 10000 v v = true := by
    rw [hv, show (10000 : Nat) = 9999 + 1 from rfl]
    simp only [Instr.sameBits, beq_self_eq_true, Bool.true_and]
    exact sameBits_ok _ (rd_flat kt h1 hx.1 hx.1).2
  simp only [Instr.keyThatStays, hs, if_true, Sem.run_pure]
theorem MapR.keys {kt vt : Ty} {es : List MapEntry} {c : Nat} {m : List (kt.den × vt.den)} (M : MapR kt vt es c m) : ∀ e ∈ es, ∃ y, Vk kt y e.key := fun e he => by
  obtain ⟨k, hk, _⟩ := M.ent e he; exact ⟨k, hk⟩
theorem MapR.hit {kt vt : Ty} {es : List MapEntry} {c : Nat} {m : List (kt.den × vt.den)} (M : MapR kt vt es c m) {e : MapEntry} (he : e ∈ es) {x : kt.den} (hx : Vk kt x e.key) : Vk vt (mget kt vt m x) e.val := by
  obtain ⟨k, hk, hv⟩ := M.ent e he
  rw [hx.inj M.flat.1 hk]; exact hv
theorem zv_vk {vt : Ty} (h : elT vt = true) : Vk vt vt.dflt (zv vt) := by
  rcases elT_form h with ⟨k, rfl⟩ | rfl
  · have w0 : (Lit.int k 0).wf = true := by cases k <;> decide
    exact ⟨⟨rfl, w0, rfl⟩, (fun q => by cases q), fun _ => rfl⟩
  · exact ⟨⟨rfl, rfl⟩, (fun q => by cases q), fun _ => rfl⟩
theorem el_ent {vt : Ty} (h : elT vt = true) {x : vt.den} {v : Value} (hx : Vk vt x v) (h' : Mem) (s : Nat) : EntR g h' s (.val vt.agg [.fz vt 0 false x]) v := by
  rcases elT_form h with ⟨k, rfl⟩ | rfl
  · obtain ⟨h1, _, h3⟩ := hx
    have hc := h3 rfl
    obtain ⟨r1, r2, _⟩ := h1
    have : v = .int k x := by
      rw [hc] at r1; simpa using r1
    subst this
    exact intE_sound r2
  · obtain ⟨h1, _, h3⟩ := hx
    have hc := h3 rfl
    obtain ⟨r1, _⟩ := h1
    have : v = .bool x := by
      rw [hc] at r1; simpa using r1
    subst this
    exact boolE_sound
theorem mapKey_inv {t : TypeId} {ex ek : Ent} {r : Sigma fun (d : Nat) => Sigma fun (kt : Ty) => Sigma fun (vt : Ty) => List (kt.den × vt.den) × kt.den} (h : mapKey T t ex ek = some r) :
    ∃ kT eT ls, mapOf T t = some (kT, eT) ∧ tyOf T kT = some r.2.1 ∧ tyOf T eT = some r.2.2.1 ∧ ex = .mp r.1 r.2.1 r.2.2.1 r.2.2.2.1 ∧ ek = .val true ls ∧ valAs r.2.1 ls = some r.2.2.2.2 := by
  unfold mapKey at h
  split at h
  · rename_i kT eT d kt vt m ls hm
    split at h
    · rename_i kt' vt' kv h1 h2 h3
      cases hq : (kt'.eqb kt && vt'.eqb vt) with
      | false => rw [hq] at h; cases h
      | true =>
        rw [hq] at h; simp only [cond_true, Option.some.injEq] at h
        simp only [Bool.and_eq_true] at hq
        have e1 := Ty.eq_of_eqb hq.1
        have e2 := Ty.eq_of_eqb hq.2
        subst e1; subst e2; subst h
        exact ⟨kT, eT, ls, hm, h1, h2, rfl, rfl, h3⟩
    · cases h
  · cases h
theorem map_look {s1 s2 : Nat} {t : TypeId} {ex ek : Ent} {u v : Value} {r : Sigma fun (d : Nat) => Sigma fun (kt : Ty) => Sigma fun (vt : Ty) => List (kt.den × vt.den) × kt.den} (hT : TOK P T) (hx : EntR g w.heap s1 ex u) (hk : EntR g w.heap s2 ek v)
    (h : mapKey T t ex ek = some r) : ∃ kT eT es c, P.underlying t = some (.map kT eT) ∧ TyOK P T kT r.2.1 ∧ TyOK P T eT r.2.2.1 ∧ u = .map (some (g.bx r.1)) ∧ w.heap[g.bx r.1]? = some (.map es c) ∧ g.kd (g.bx r.1) = .bx r.1 ∧ g.mt r.1 = (r.2.1, r.2.2.1) ∧
      MapR r.2.1 r.2.2.1 es.toList c r.2.2.2.1 ∧ Vk r.2.1 r.2.2.2.2 v := by
  obtain ⟨kT, eT, ls, h1, h2, h3, rfl, rfl, h6⟩ := mapKey_inv h
  obtain ⟨q1, es, c, q2, q3, q4, q5⟩ := hx
  obtain ⟨hf, ha, _⟩ := keyT_flat q5.flat.1
  obtain ⟨cs, rfl, rr⟩ := aggVal hk h6 hf
  refine ⟨kT, eT, es, c, hT.mp _ _ _ h1, hT _ _ h2, hT _ _ h3, q1, q2, q3, q4, q5, ?_⟩
  have := vk_of rr
  unfold mkV at this; rw [ha] at this; exact this
theorem lookup_sound {s1 s2 : Nat} {t : TypeId} {ex ek : Ent} {u v : Value} {r : Sigma fun (d : Nat) => Sigma fun (kt : Ty) => Sigma fun (vt : Ty) => List (kt.den × vt.den) × kt.den} (hT : TOK P T) (hx : EntR g w.heap s1 ex u) (hk : EntR g w.heap s2 ek v)
    (h : mapKey T t ex ek = some r) : ∃ z, (Instr.lookup t u v false).run P w = .ok z w ∧ ∀ s, EntR g w.heap s (.val r.2.2.1.agg [.fz r.2.2.1 0 false (mget r.2.1 r.2.2.1 r.2.2.2.1 r.2.2.2.2)]) z := by
  obtain ⟨kT, eT, es, c, hu, tk, te, rfl, hb, _, _, M, hv⟩ := map_look hT hx hk h
  rcases run_findKey' (w := w) hT M.flat.1 tk hv es.toList M.keys with ⟨h1, h2⟩ | ⟨j, e, h1, h2, h3⟩
  · refine ⟨zv r.2.2.1, ?_, fun s => el_ent M.flat.2 (by rw [M.none _ h2]; exact zv_vk M.flat.2) _ _⟩
    simp only [Instr.lookup, Sem.run_bind, run_underlying hu, Result.andThen_ok, MapKept.run_getObj_map hb, Sem.run_pure, run_check hT M.flat.1 tk hv, h1, run_zeroValue te, Bool.false_eq_true, if_false]
  · have hm := List.mem_of_getElem? h2
    refine ⟨e.val, ?_, fun s => el_ent M.flat.2 (M.hit hm h3) _ _⟩
    simp only [Instr.lookup, Sem.run_bind, run_underlying hu, Result.andThen_ok, MapKept.run_getObj_map hb, Sem.run_pure, run_check hT M.flat.1 tk hv, h1, Bool.false_eq_true, if_false]
def Gh.newMap (g : Gh) (d B : Nat) (kt vt : Ty) : Gh where
  kd b := if b = B then .bx d else g.kd b
  own b := if b = B then 0 else g.own b
  H := g.H
  bx s := if s = d then B else g.bx s
  al := g.al
  mt s := if s = d then (kt, vt) else g.mt s
theorem ok_makeMap {t : TypeId} {kt vt : Ty} (st : St n w0 W g get a w) (hd : n.has d) (clean : ∀ s, (get s).at d = false) (hk : keyT kt = true) (hv : elT vt = true) :
    ∃ g' v w', (Instr.makeMap t none).run P w = .ok v w' ∧ St n w0 W g' (upd get d (.mp d kt vt [])) (a.put (some d) v) w' ∧ g'.al = g.al := by
  refine ⟨g.newMap d w.heap.size kt vt, .map (some w.heap.size), w.alloc (.map #[] 0), rfl, st.put hd ⟨?_, ?_, ?_, ?_, ?_, ?_, ?_⟩ ⟨?_, ?_, ?_, ?_, ?_, ?_, ?_⟩ rfl ⟨rfl, Nat.le_refl _⟩ rfl (fun s _ => clean s) ?_, rfl⟩
  · show _ ≤ (w.heap.push _).size; simp
  · intro b hb; left; show (w.heap.push _)[b]? = _; rw [Array.getElem?_push, if_neg (by omega)]
  · intro b hb; exact if_neg (by omega)
  · intro b hb; exact if_neg (by omega)
  · intro t _; rfl
  · intro s hs; exact if_neg hs
  · intro s hs; exact if_neg hs
  · have := st.inv.size; show _ ≤ (w.heap.push _).size; simp; omega
  · intro b hb hw
    show (w.heap.push _)[b]? = _
    rw [Array.getElem?_push, if_neg (by have := st.inv.size; omega)]; exact st.inv.old b hb hw
  · intro b
    show (if b = w.heap.size then _ else _) = _ ∨ (if b = w.heap.size then _ else _) = _ ∨ _
    by_cases e : b = w.heap.size
    · subst e; exact .inr (.inr ⟨by show _ < (w.heap.push _).size; simp, .inl st.inv.size⟩)
    · rw [if_neg e]
      rcases st.inv.kd b with q | q | q
      · exact .inl q
      · exact .inr (.inl q)
      · exact .inr (.inr ⟨by show _ < (w.heap.push _).size; simp; omega, q.2⟩)
  · intro b hb
    replace hb : (if b = w.heap.size then BK.bx d else g.kd b) = _ := hb
    by_cases e : b = w.heap.size
    · rw [if_pos e] at hb; cases hb
    · rw [if_neg e] at hb; exact st.inv.no b hb
  · intro b hb
    replace hb : (if b = w.heap.size then BK.bx d else g.kd b) = _ := hb
    by_cases e : b = w.heap.size
    · rw [if_pos e] at hb; cases hb
    · rw [if_neg e] at hb; exact st.inv.al b hb
  · intro b hb
    replace hb : (if b = w.heap.size then 0 else g.own b) ≠ 0 := hb
    by_cases e : b = w.heap.size
    · rw [if_pos e] at hb; exact absurd rfl hb
    · rw [if_neg e] at hb; have := st.inv.own b hb; exact ⟨by show _ < (w.heap.push _).size; simp; omega, this.2⟩
  · intro b hb
    replace hb : (if b = w.heap.size then 0 else g.own b) ≠ 0 := hb
    by_cases e : b = w.heap.size
    · rw [if_pos e] at hb; exact absurd rfl hb
    · rw [if_neg e] at hb
      obtain ⟨c, e', q⟩ := st.inv.wr b hb
      have := (st.inv.own b hb).1
      exact ⟨c, e', by show (w.heap.push _)[b]? = _; rw [Array.getElem?_push, if_neg (by omega)]; exact q⟩
  · have hb : (g.newMap d w.heap.size kt vt).bx d = w.heap.size := if_pos rfl
    refine ⟨by rw [hb], #[], 0, ?_, ?_, if_pos rfl, ⟨by simp, fun k _ => rfl, List.Pairwise.nil, by simp, List.Pairwise.nil, hk, hv⟩⟩
    · rw [hb]; exact alloc_at _ _
    · rw [hb]; exact if_pos rfl
theorem modify_same {es : Array MapEntry} {j : Nat} {f : MapEntry → MapEntry} (h : ∀ e, es.toList[j]? = some e → f e = e) : es.modify j f = es := by
  apply Array.ext'
  rw [Array.toList_modify]
  apply List.ext_getElem?
  intro i
  rw [List.getElem?_modify]
  by_cases e : j = i
  · subst e
    cases hq : es.toList[j]? with
    | none => rfl
    | some x => simp only [if_true]; show some (f x) = _; rw [h x hq]
  · simp only [e, if_false]; simp
theorem set_same {w : World} {r : Nat} {o : Obj} (h : w.heap[r]? = some o) : { w with heap := w.heap.setIfInBounds r o } = w := by
  have : w.heap.setIfInBounds r o = w.heap := by
    apply Array.ext_getElem?
    intro i
    rw [Array.getElem?_setIfInBounds]
    split
    · rename_i e; subst e; split
      · exact h.symm
      · rw [Array.getElem?_eq_none (by omega)]
    · rfl
  rw [this]
theorem set_inv {h0 h : Mem} (i : Inv g h0 h W) {r s : Nat} {es es' : Array MapEntry} {c c' : Nat} (hb : h[r]? = some (.map es c)) (hk : g.kd r = .bx s) : Inv g h0 (h.setIfInBounds r (.map es' c')) W := by
  have lt : r < h.size := by
    rcases Nat.lt_or_ge r h.size with hlt | hge
    · exact hlt
    · rw [Array.getElem?_eq_none hge] at hb; cases hb
  refine ⟨by have := i.size; simp; omega, fun b hb' hw => ?_, fun b => ?_, i.no, i.al, fun b q => ?_, fun b q => ?_⟩
  · have : b ≠ r := by
      intro e; subst e
      rcases i.kd b with q | q | ⟨q1, q2⟩
      · rw [hk] at q; cases q
      · rw [hk] at q; cases q
      · rcases q2 with q2 | q2
        · omega
        · exact hw q2
    rw [Array.getElem?_setIfInBounds, if_neg (fun e => this e.symm)]; exact i.old b hb' hw
  · rcases i.kd b with q | q | q
    · exact .inl q
    · exact .inr (.inl q)
    · exact .inr (.inr ⟨by simp; exact q.1, q.2⟩)
  · have := i.own b q; exact ⟨by simp; exact this.1, this.2⟩
  · obtain ⟨c1, e1, q1⟩ := i.wr b q
    have : b ≠ r := by intro e; subst e; rw [hb] at q1; cases q1
    exact ⟨c1, e1, by rw [Array.getElem?_setIfInBounds, if_neg (fun e => this e.symm)]; exact q1⟩
theorem MapR.push {kt vt : Ty} {es : List MapEntry} {c : Nat} {m : List (kt.den × vt.den)} (M : MapR kt vt es c m) {x : kt.den} {v : Value} (hx : Vk kt x v) (hn : ∀ e ∈ es, ¬ Vk kt x e.key) :
    MapR kt vt (es ++ [⟨v, zv vt, c⟩]) (c + 1) m where
  ent e he := by
    rcases List.mem_append.1 he with he | he
    · exact M.ent e he
    · simp only [List.mem_singleton] at he; subst he
      exact ⟨x, hx, by rw [M.none x hn]; exact zv_vk M.flat.2⟩
  none k hk := M.none k fun e he => hk e (List.mem_append_left _ he)
  dist := by
    rw [List.pairwise_append]
    refine ⟨M.dist, List.pairwise_singleton _ _, fun a ha b hb k h1 h2 => ?_⟩
    simp only [List.mem_singleton] at hb; subst hb
    have := h2.inj M.flat.1 hx; subst this
    exact hn a ha h1
  born e he := by
    rcases List.mem_append.1 he with he | he
    · exact Nat.lt_succ_of_lt (M.born e he)
    · simp only [List.mem_singleton] at he; subst he; exact Nat.lt_succ_self _
  bdist := by
    rw [List.pairwise_append]
    refine ⟨M.bdist, List.pairwise_singleton _ _, fun a ha b hb => ?_⟩
    simp only [List.mem_singleton] at hb; subst hb
    exact Nat.ne_of_lt (M.born a ha)
  flat := M.flat
theorem ok_mapEntry {s1 s2 : Nat} {t : TypeId} {ex ek : Ent} {u v : Value} {r : Sigma fun (d : Nat) => Sigma fun (kt : Ty) => Sigma fun (vt : Ty) => List (kt.den × vt.den) × kt.den} (hT : TOK P T) (st : St n w0 W g get a w) (hd : n.has d) (clean : ∀ s, (get s).at d = false)
    (hx : EntR g w.heap s1 ex u) (hk : EntR g w.heap s2 ek v) (h : mapKey T t ex ek = some r) :
    ∃ g' z w', (Instr.mapEntry t u v).run P w = .ok z w' ∧ St n w0 W g' (upd get d (.ment r.1 r.2.1 r.2.2.1 r.2.2.2.2)) (a.put (some d) z) w' ∧ g'.al = g.al := by
  obtain ⟨kT, eT, es, c, hu, tk, te, rfl, hb, hkd, hmt, M, hv⟩ := map_look hT hx hk h
  rcases run_findKey' (w := w) hT M.flat.1 tk hv es.toList M.keys with ⟨h1, h2⟩ | ⟨j, e, h1, h2, h3⟩
  · have lt : g.bx r.1 < w.heap.size := by
      rcases Nat.lt_or_ge (g.bx r.1) w.heap.size with hlt | hge
      · exact hlt
      · rw [Array.getElem?_eq_none hge] at hb; cases hb
    have at' : (w.heap.setIfInBounds (g.bx r.1) (.map (es.push ⟨v, zv r.2.2.1, c⟩) (c + 1)))[g.bx r.1]? = some (.map (es.push ⟨v, zv r.2.2.1, c⟩) (c + 1)) := by
      rw [Array.getElem?_setIfInBounds, if_pos rfl, if_pos lt]
    refine ⟨g, .tuple #[zv r.2.2.1, goInt c], { w with heap := w.heap.setIfInBounds (g.bx r.1) (.map (es.push ⟨v, zv r.2.2.1, c⟩) (c + 1)) }, ?_, ?_, rfl⟩
    · simp only [Instr.mapEntry, Sem.run_bind, run_underlying hu, Result.andThen_ok, MapKept.run_getObj_map hb, run_check hT M.flat.1 tk hv, h1, run_zeroValue te, MapKept.run_setObj_map _ hb, Sem.run_pure]
    · refine st.put hd ⟨by simp, fun b hb' => ?_, fun _ _ => rfl, fun _ _ => rfl, fun _ _ => rfl, fun _ _ => rfl, fun _ _ => rfl⟩ (set_inv st.inv hb hkd) rfl ⟨rfl, Nat.le_refl _⟩ rfl (fun s _ => clean s) ?_
      · by_cases e : b = g.bx r.1
        · right
          refine ⟨r.1, by rw [e]; exact hkd, es, c, _, _, by rw [e]; exact hb, by rw [e]; exact at', ?_, fun x hx => by simp [hx]⟩
          rw [hmt]
          intro m' M'
          rw [Array.toList_push]
          exact M'.push hv h2
        · left; rw [Array.getElem?_setIfInBounds, if_neg (fun q => e q.symm)]
      · exact ⟨_, c, rfl, _, _, ⟨v, zv r.2.2.1, c⟩, at', hkd, hmt, by simp, rfl, hv⟩
  · have hm := List.mem_of_getElem? h2
    have hj : es[j]? = some e := by simpa using h2
    have hke : e.key = v := h3.det M.flat.1 hv
    refine ⟨g, .tuple #[e.val, goInt e.born], w, ?_, ?_, rfl⟩
    · have same : (es.modify j fun e' => { e' with key := v }) = es := modify_same fun e' he' => by
        rw [h2] at he'; injection he' with he'; subst he'; rw [← hke]
      simp only [Instr.mapEntry, Sem.run_bind, run_underlying hu, Result.andThen_ok, MapKept.run_getObj_map hb, run_check hT M.flat.1 tk hv, h1, hj, Option.map_some, Option.getD_some, hke, run_stays M.flat.1 hv, MapKept.run_setObj_map _ hb, same, set_same hb, Sem.run_pure]
    · exact st.put0 hd (fun s _ => clean s) ⟨_, e.born, rfl, es, c, e, hb, hkd, hmt, hm, rfl, h3⟩
theorem ment_extract {s d' : Nat} {kt vt : Ty} {k : kt.den} {v : Value} (h : EntR g w.heap s (.ment d' kt vt k) v) : ∃ z, (Instr.extract v 1).run P w = .ok z w ∧ ∀ s', EntR g w.heap s' (.stamp d' kt vt k) z := by
  obtain ⟨x, m, rfl, h2⟩ := h
  exact ⟨.int .i64 m, rfl, fun _ => ⟨m, rfl, h2⟩⟩
end
section
variable {P : Program} {T : TTab} {K : CTab} {n : NS} {w0 w : World} {W : Nat → Prop} {g : Gh} {get : Nat → Ent} {a : Act} {d : Nat}
theorem isNil_eq {x : Operand} (h : isNil x = true) : x = .const (.slice none 0 0) := by
  unfold isNil at h; split at h
  · rfl
  · cases h
theorem capsOf_val : ∀ {xs : List Operand} {cs : List Nat}, (∀ s, EntR g w.heap s (get s) (a.tmps.getD s undef)) → evOp.capsOf get xs = some cs → xs.map a.eval = cs.map (fun s => Value.pointer (some ⟨g.bx s, 0, none⟩)) := by
  intro xs
  induction xs with
  | nil => intro cs _ h; simp only [evOp.capsOf, Option.some.injEq] at h; subst h; rfl
  | cons x xs ih =>
    intro cs hg h
    cases x with
    | tmp s =>
      simp only [evOp.capsOf] at h
      cases hb : isBox (get s) with
      | false => rw [hb] at h; cases h
      | true =>
        rw [hb] at h; simp only [cond_true] at h
        split at h
        · rename_i l hl
          injection h with h; subst h
          have := hg s
          cases he : get s with
          | box ro ls =>
            rw [he] at this
            obtain ⟨b, c, e, fr, bs, h1, h2, h3, h4, _⟩ := this
            simp only [List.map_cons, ih hg hl]
            congr 1
            show a.tmps.getD s undef = _
            rw [h1, h4]
          | _ => rw [he] at hb; cases hb
        · cases h
    | _ => simp [evOp.capsOf] at h
theorem caps_ER : ∀ {cs : List Nat}, (∀ s, EntR g w.heap s (get s) (a.tmps.getD s undef)) → ER g w.heap (cs.map get) (cs.map fun s => a.tmps.getD s undef)
  | [], _ => rfl
  | s :: r, hg => ⟨_, _, s, rfl, hg s, caps_ER hg⟩
theorem ok1_eq {dst : Option Nat} {c : Bool} {e : Ent} {r : OpRes} {ups : List (Nat × Ent)} (h : ok1 dst c e = some r) (hr : r.get = some ups) : ∃ d, dst = some d ∧ c = true ∧ ups = [(d, e)] := by
  unfold ok1 at h
  cases dst with
  | none => cases h
  | some d =>
    injection h with h; subst h
    unfold OpRes.get at hr
    cases c with
    | false => cases hr
    | true => injection hr with hr; exact ⟨d, rfl, rfl, hr.symm⟩
theorem callE_form {dst : Option Nat} {f : Nat} {es : List Ent} {r : OpRes} {ups : List (Nat × Ent)} (he : callE K dst f es = some r) (hr : r.get = some ups) :
    ∃ rs x mk y, r = .callr rs x mk ∧ x = some y ∧ ups = mk y := by
  unfold callE at he
  split at he
  · cases he
  · split at he
    · cases he
    · rename_i C hC _ ar har
      cases hq : (Nat.beq C.inp 0 && tagRoom C.rs && (C.fresh || C.rs.all Ty.flat || es.all frozenE)) with
      | false => rw [hq] at he; cases he
      | true =>
        rw [hq] at he; simp only [cond_true, Option.some.injEq] at he; subst he
        simp only [OpRes.get] at hr
        split at hr
        · rename_i y hy
          injection hr with hr
          exact ⟨_, _, _, y, rfl, hy, hr.symm⟩
        · cases hr
set_option maxHeartbeats 4000000 in
theorem evOp_sound {o : Oper} {r : OpRes} {ups : List (Nat × Ent)} {Q : Exit → Act → World → Prop} (hT : TOK P T) (hK : KOK P K) (st : St n w0 W g get a w) (he : evOp T K get o = some r) (hr : r.get = some ups)
    (hd : ∀ d, o.dst = some d → n.has d) (clean : creates o = true → ∀ d, o.dst = some d → ∀ s, (get s).at d = false) :
    Oper.wp P o a w (fun a' w' => ∃ g', g'.al = g.al ∧ St n w0 W g' (upds get ups) a' w') Q := by
  have hg := st.ent
  -- an operation that only looks
  have look : ∀ {c : Bool} {e : Ent} {v : Value}, ok1 o.dst c e = some r → (execOp a.eval o).run P w = .ok (.value v) w → (c = true → ∀ s, EntR g w.heap s e v) → Oper.wp P o a w (fun a' w' => ∃ g', g'.al = g.al ∧ St n w0 W g' (upds get ups) a' w') Q := by
    intro c e v h1 h2 h3
    obtain ⟨d, q1, q2, q3⟩ := ok1_eq h1 hr
    refine upon_val h2 ⟨g, rfl, ?_⟩
    rw [q1, q3]
    exact st.putA (hd d q1) (h3 q2 d)
  -- an operation that makes something
  have make : ∀ {d : Nat} {e : Ent} {S : Sem Value}, o.dst = some d → r = .ok true [(d, e)] → execOp a.eval o = (do pure (Next.value (← S))) →
      (∃ g' v w', S.run P w = .ok v w' ∧ St n w0 W g' (upd get d e) (a.put (some d) v) w' ∧ g'.al = g.al) → Oper.wp P o a w (fun a' w' => ∃ g', g'.al = g.al ∧ St n w0 W g' (upds get ups) a' w') Q := by
    rintro d e S h1 h2 h3 ⟨g', v, w', q1, q2, q3⟩
    subst h2
    injection hr with hr; subst hr
    refine upon_val (v := v) (w' := w') (by rw [h3]; simp only [Sem.run_bind, q1, Result.andThen_ok, Sem.run_pure]) ⟨g', q3, ?_⟩
    rw [h1]; exact q2
  have one : ∀ {S : Sem Value} {v : Value} {w' : World}, execOp a.eval o = (do pure (Next.value (← S))) → S.run P w = .ok v w' → (execOp a.eval o).run P w = .ok (.value v) w' := by
    intro S v w' h1 h2; rw [h1]; simp only [Sem.run_bind, h2, Result.andThen_ok, Sem.run_pure]
  cases hop : o.op with
  | move x =>
    simp only [evOp, hop] at he
    have hx : execOp a.eval o = pure (.value (a.eval x)) := by simp only [execOp, hop]
    cases hn : isNil x with
    | true =>
      rw [hn] at he; simp only [cond_true] at he
      split at he
      · rename_i d e u h1 h2
        injection he with he; subst he; injection hr with hr; subst hr
        refine upon_val (v := .slice none 0 0) (w' := w) (by rw [hx, isNil_eq hn]; rfl) ⟨g.head d (fun _ => nilv), rfl, ?_⟩
        rw [h1]
        exact ok_nil (t := 0) st (hd d h1) (clean (by simp [creates, hop, hn]) d h1)
      · cases he
    | false =>
      rw [hn] at he; simp only [cond_false] at he
      split at he
      · rename_i e hxe
        cases hm : e.movable with
        | false => rw [hm] at he; cases he
        | true =>
          rw [hm] at he; simp only [cond_true] at he
          obtain ⟨s0, h1, _⟩ := opE_sound hg hxe
          exact look he (by rw [hx]; rfl) (fun _ s => h1.move hm)
      · cases he
  | assign x =>
    simp only [evOp, hop] at he
    have hx : execOp a.eval o = pure (.value (a.eval x)) := by simp only [execOp, hop]
    cases hn : isNil x with
    | true =>
      rw [hn] at he; simp only [cond_true] at he
      split at he
      · rename_i d e u h1 h2
        injection he with he; subst he; injection hr with hr; subst hr
        refine upon_val (v := .slice none 0 0) (w' := w) (by rw [hx, isNil_eq hn]; rfl) ⟨g.head d (fun _ => nilv), rfl, ?_⟩
        rw [h1]
        exact ok_nil (t := 0) st (hd d h1) (clean (by simp [creates, hop, hn]) d h1)
      · cases he
    | false =>
      rw [hn] at he; simp only [cond_false] at he
      split at he
      · rename_i e hxe
        cases hm : e.movable with
        | false => rw [hm] at he; cases he
        | true =>
          rw [hm] at he; simp only [cond_true] at he
          obtain ⟨s0, h1, _⟩ := opE_sound hg hxe
          exact look he (by rw [hx]; rfl) (fun _ s => h1.move hm)
      · cases he
  | pick c x y =>
    simp only [evOp, hop] at he
    split at he
    · rename_i c' x' y' h1 h2 h3
      split at he
      · rename_i cc e hp
        obtain ⟨d, q1, q2, q3⟩ := ok1_eq he hr
        obtain ⟨s1, r1, _⟩ := opE_sound hg h1
        obtain ⟨s2, r2, _⟩ := opE_sound hg h2
        obtain ⟨s3, r3, _⟩ := opE_sound hg h3
        obtain ⟨b, hb, hv⟩ := pick_sound r1 r2 r3 hp q2
        refine look he (v := if b then a.eval x else a.eval y) ?_ (fun _ s => hv s)
        simp only [execOp, hop, hb, asBool, Sem.run_bind, Sem.run_pure, Result.andThen_ok]
      · cases he
    · cases he
  | alloc t =>
    simp only [evOp, hop] at he
    split at he
    · rename_i d ty h1 h2
      cases hq : tagRoom [ty] with
      | false => rw [hq] at he; cases he
      | true =>
        rw [hq] at he; simp only [cond_true] at he
        split at he
        · rename_i ls hls
          injection he with he
          exact make h1 he.symm (S := Instr.alloc t true (.tuple #[])) (by simp only [execOp, hop]) (ok_alloc st (hd d h1) (clean (by simp [creates, hop]) d h1) (hT _ _ h2) hq hls)
        · cases he
    · cases he
  | box t x =>
    simp only [evOp, hop] at he
    split at he
    · rename_i d ty agg ls h1 h2 h3
      split at he
      · rename_i ls' hls
        injection he with he
        exact make h1 he.symm (S := Instr.box t (a.eval x)) (by simp only [execOp, hop]) (ok_box st (hd d h1) (clean (by simp [creates, hop]) d h1) h3 hls)
      · cases he
    · cases he
  | build t ps =>
    simp only [evOp, hop] at he
    split at he
    · rename_i d ty es h1 h2 h3
      cases hq : tagRoom [ty] with
      | false => rw [hq] at he; cases he
      | true =>
        rw [hq] at he; simp only [cond_true] at he
        split at he
        · rename_i e hls
          injection he with he
          exact make h1 he.symm (S := Instr.build t (ps.map fun (i, x) => (i, a.eval x))) (by simp only [execOp, hop]) (ok_build st (hd d h1) (clean (by simp [creates, hop]) d h1) hT (hT _ _ h2) hq h3 hls)
        · cases he
    · cases he
  | buildSlice t len ps =>
    simp only [evOp, hop] at he
    split at he
    · rename_i d ty es h1 h2 h3
      split at he
      · rename_i e hls
        injection he with he
        exact make h1 he.symm (S := Instr.buildSlice t len (ps.map fun (i, x) => (i, a.eval x))) (by simp only [execOp, hop]) (ok_buildSlice st (hd d h1) (clean (by simp [creates, hop]) d h1) hT (hT _ _ h2) h3 hls)
      · cases he
    · cases he
  | load t x =>
    simp only [evOp, hop] at he
    split at he
    · rename_i ty e h1 h2
      split at he
      · rename_i r' hr'
        obtain ⟨v, q1, q2⟩ := load_sound (P := P) (hT _ _ h1) hg h2 hr'
        exact look he (one (by simp only [execOp, hop]) q1) (fun _ => q2)
      · cases he
    · cases he
  | fieldAddr t x f =>
    simp only [evOp, hop] at he
    split at he
    · rename_i ty e h1 h2
      split at he
      · rename_i r' hr'
        obtain ⟨v, q1, q2⟩ := field_sound (P := P) hT (hT _ _ h1) hg h2 hr'
        exact look he (one (by simp only [execOp, hop]) q1) (fun _ => q2)
      · cases he
    · cases he
  | field t x f =>
    simp only [evOp, hop] at he
    split at he
    · rename_i ty e h1 h2
      split at he
      · rename_i r' hr'
        obtain ⟨v, q1, q2⟩ := fieldV_sound (P := P) hT (hT _ _ h1) hg h2 hr'
        exact look he (one (by simp only [execOp, hop]) q1) (fun _ => q2)
      · cases he
    · cases he
  | indexAddr t x ix =>
    simp only [evOp, hop] at he
    split at he
    · rename_i ty e ie h1 h2 h3
      split at he
      · rename_i k i hi
        split at he
        · rename_i c r' hr'
          obtain ⟨d, p1, p2, p3⟩ := ok1_eq he hr
          obtain ⟨s3, r3, _⟩ := opE_sound hg h3
          obtain ⟨v, q1, q2⟩ := index_sound (P := P) (kk := k) hT (hT _ _ h1) hg h2 hr' p2
          exact look he (one (S := Instr.indexAt t (a.eval x) (a.eval ix)) (by simp only [execOp, hop]) (by rw [(asI_inv r3 hi).1]; exact q1)) (fun _ => q2)
        · cases he
      · cases he
    · cases he
  | binOp op t x y yt =>
    simp only [evOp, hop] at he
    have hx : execOp a.eval o = (do pure (Next.value (← (do eqGuard op t x y (a.eval x) (a.eval y); binOp op t (a.eval x) (a.eval y) : Sem Value)))) := by simp only [execOp, hop]
    cases hn : isNil y with
    | true =>
      rw [hn] at he; simp only [cond_true] at he
      split at he
      · rename_i e el u h1 h2
        split at he
        · rename_i r' hr'
          obtain ⟨s1, r1, _⟩ := opE_sound hg h1
          obtain ⟨v, q1, q2⟩ := nil_sound (P := P) (X := x) (Y := y) (hT _ _ h2).und.1 r1 hr'
          refine look he (one hx ?_) (fun _ => q2)
          have : a.eval y = .slice none 0 0 := by rw [isNil_eq hn]; rfl
          rw [this]; exact q1
        · cases he
      · cases he
    | false =>
      rw [hn] at he; simp only [cond_false] at he
      split at he
      · rename_i e1 e2 h1 h2
        split at he
        · rename_i c r' hr'
          obtain ⟨d, p1, p2, p3⟩ := ok1_eq he hr
          obtain ⟨s1, r1, _⟩ := opE_sound hg h1
          obtain ⟨s2, r2, _⟩ := opE_sound hg h2
          obtain ⟨v, q1, q2⟩ := bin_sound (P := P) (X := x) (Y := y) hT r1 r2 hr' p2
          exact look he (one hx q1) (fun _ => q2)
        · cases he
      · cases he
  | unOp op t x =>
    simp only [evOp, hop] at he
    split at he
    · rename_i e h1
      split at he
      · rename_i r' hr'
        obtain ⟨s1, r1, _⟩ := opE_sound hg h1
        obtain ⟨v, q1, q2⟩ := un_sound (P := P) r1 hr'
        exact look he (one (by simp only [execOp, hop]) q1) (fun _ => q2)
      · cases he
    · cases he
  | convert sT dT x =>
    simp only [evOp, hop] at he
    split at he
    · rename_i k k' e h1 h2 h3
      split at he
      · rename_i k2 m hm
        obtain ⟨s1, r1, _⟩ := opE_sound hg h3
        have hv := (asI_inv r1 hm).1
        have u1 : P.underlying sT = some (.int k) := (hT _ _ h1).und
        have u2 : P.underlying dT = some (.int k') := (hT _ _ h2).und
        refine look he (v := .int k' (k'.wrap m)) (one (S := convert sT dT (a.eval x)) (by simp only [execOp, hop]) ?_) (fun _ s => intE_sound (wrap_wf _ _))
        rw [hv]
        simp only [convert, Sem.run_bind, run_underlying u1, run_underlying u2, Result.andThen_ok, Conv.intToInt, Sem.run_pure]
      · cases he
    · cases he
  | extract x i =>
    simp only [evOp, hop] at he
    split at he
    · rename_i dd kt vt kk h1
      cases hi : Nat.beq i 1 with
      | false => rw [hi] at he; cases he
      | true =>
        rw [hi] at he; simp only [cond_true] at he
        have hi := Nat.eq_of_beq_eq_true hi; subst hi
        obtain ⟨s1, r1, _⟩ := opE_sound hg h1
        obtain ⟨v, q1, q2⟩ := ment_extract (P := P) r1
        exact look he (one (by simp only [execOp, hop]) q1) (fun _ => q2)
    · rename_i ls h1
      split at he
      · rename_i agg l hl
        obtain ⟨s1, r1, _⟩ := opE_sound hg h1
        obtain ⟨v, q1, q2⟩ := extract_sound (P := P) r1 hl
        exact look he (one (by simp only [execOp, hop]) q1) (fun _ => q2)
      · cases he
    · cases he
  | makeMap t rs =>
    cases rs with
    | some y => simp [evOp, hop] at he
    | none =>
      simp only [evOp, hop] at he
      split at he
      · rename_i d kT eT h1 h2
        split at he
        · rename_i kt vt h3 h4
          cases hq : (keyT kt && elT vt) with
          | false => rw [hq] at he; cases he
          | true =>
            rw [hq] at he; simp only [cond_true, Option.some.injEq] at he
            simp only [Bool.and_eq_true] at hq
            exact make h1 he.symm (S := Instr.makeMap t none) (by simp only [execOp, hop, Option.map_none]) (ok_makeMap st (hd d h1) (clean (by simp [creates, hop]) d h1) hq.1 hq.2)
        · cases he
      · cases he
  | lookup t x y ok =>
    cases ok with
    | true => simp [evOp, hop] at he
    | false =>
      simp only [evOp, hop] at he
      split at he
      · rename_i e ek h1 h2
        split at he
        · rename_i dd kt vt m kv hm
          obtain ⟨s1, r1, _⟩ := opE_sound hg h1
          obtain ⟨s2, r2, _⟩ := opE_sound hg h2
          obtain ⟨v, q1, q2⟩ := lookup_sound (P := P) hT r1 r2 hm
          exact look he (one (by simp only [execOp, hop]) q1) (fun _ => q2)
        · cases he
      · cases he
  | mapEntry t x y =>
    simp only [evOp, hop] at he
    split at he
    · rename_i d e ek h1 h2 h3
      split at he
      · rename_i dd kt vt m kv hm
        injection he with he
        obtain ⟨s1, r1, _⟩ := opE_sound hg h2
        obtain ⟨s2, r2, _⟩ := opE_sound hg h3
        exact make h1 he.symm (S := Instr.mapEntry t (a.eval x) (a.eval y)) (by simp only [execOp, hop]) (ok_mapEntry hT st (hd d h1) (clean (by simp [creates, hop]) d h1) r1 r2 hm)
      · cases he
    · cases he
  | slice t x lo hi mx =>
    simp only [evOp, hop] at he
    split at he
    · rename_i e' u e l h h1 h2 h3 h4
      split at he
      · rename_i c r' hr'
        obtain ⟨d, p1, p2, p3⟩ := ok1_eq he hr
        obtain ⟨v, q1, q2⟩ := slice_sound (P := P) hT (hT _ _ h1) hg h2 h3 h4 hr' p2
        exact look he (one (by simp only [execOp, hop, Option.map_none]) q1) (fun _ => q2)
      · cases he
    · cases he
  | makeSlice t l c =>
    simp only [evOp, hop] at he
    split at he
    · rename_i d e u le ce h1 h2 h3 h4
      split at he
      · rename_i kl m kc m' i1 i2
        injection he with he
        obtain ⟨s1, r1, _⟩ := opE_sound hg h3
        obtain ⟨s2, r2, _⟩ := opE_sound hg h4
        subst he
        simp only [OpRes.get] at hr
        cases hq : (decide (0 ≤ m) && decide (m ≤ 1099511627776) && decide (m = m')) with
        | false => rw [hq] at hr; cases hr
        | true =>
          rw [hq] at hr; simp only [cond_true, Option.some.injEq] at hr; subst hr
          simp only [Bool.and_eq_true, decide_eq_true_eq] at hq
          obtain ⟨⟨c1, c2⟩, c3⟩ := hq
          subst c3
          obtain ⟨g', v, w', q1, q2, q3⟩ := ok_makeSlice (P := P) (kl := kl) (kc := kc) st (hd d h1) (clean (by simp [creates, hop]) d h1) hT (hT _ _ h2) c1 c2
          refine upon_val (v := v) (w' := w') (one (S := Instr.makeSlice t (a.eval l) (a.eval c)) (by simp only [execOp, hop]) ?_) ⟨g', q3, ?_⟩
          · rw [(asI_inv r1 i1).1, (asI_inv r2 i2).1]; exact q1
          · rw [h1]; exact q2
      · cases he
    · cases he
  | makeFunc fn fi ca =>
    cases fn with
    | func f =>
      simp only [evOp, hop] at he
      cases hz : Nat.beq fi.size 0 with
      | false => rw [hz] at he; cases he
      | true =>
        rw [hz] at he; simp only [cond_true] at he
        split at he
        · rename_i cs hcs
          have hfi : fi = #[] := Array.eq_empty_of_size_eq_zero (Nat.eq_of_beq_eq_true hz)
          have := capsOf_val hg hcs
          refine look he (v := .func (.func f) #[] (ca.map a.eval)) (one (S := Instr.makeFunc (.func f) (fi.map a.eval) (ca.map a.eval)) (by simp only [execOp, hop]) (by rw [hfi]; simp [Instr.makeFunc])) (fun _ s => ?_)
          show _ = _
          rw [← this]; congr 1; apply Array.ext'; simp
        · cases he
    | _ => simp [evOp, hop] at he
  | call c =>
    simp only [evOp, hop] at he
    split at he
    · -- len
      rename_i hcal
      split at he
      · rename_i t l hty hl
        split at he
        · rename_i el u m h1 h2
          obtain ⟨d, p1, p2, p3⟩ := ok1_eq he hr
          have her := operEs_ER hg hl
          obtain ⟨v, vs', s, e1, e2, e3⟩ := her
          have e3 : vs' = [] := e3
          subst e3
          have hargs : c.args.map a.eval = #[v] := by apply Array.ext'; simpa using e1
          have hats : c.argTypes = #[t] := by apply Array.ext'; simpa using hty
          refine look he (v := goInt m) ?_ (fun _ s => intE_sound ?_)
          · simp only [execOp, hop, resolve, hcal, invoke, builtin, Sem.run_bind, Sem.run_pure, Result.andThen_ok, hargs, hats, len_sound (P := P) (hT _ _ h1).und.1 e2 h2]
          · simp only [decide_eq_true_eq] at p2
            simp [Lit.wf, IntKind.min, IntKind.max, IntKind.bits, IntKind.signed]; omega
        · cases he
      · cases he
    · rename_i hcal
      split at he
      · rename_i x y hl
        split at he
        · rename_i r' hr'
          obtain ⟨v, vs', s, e1, e2, v2, vs2, s2, f1, f2, f3⟩ := operEs_ER hg hl
          have f3 : vs2 = [] := f3
          subst f3; subst f1
          have hargs : c.args.map a.eval = #[v, v2] := by apply Array.ext'; simpa using e1
          obtain ⟨z, z1, z2⟩ := (minmax_sound (P := P) e2 f2 hr').1 rfl
          refine look he (v := z) ?_ (fun _ s => z2 s)
          simp only [execOp, hop, resolve, hcal, invoke, builtin, Sem.run_bind, Sem.run_pure, Result.andThen_ok, hargs, z1]
        · cases he
      · cases he
    · rename_i hcal
      split at he
      · rename_i x y hl
        split at he
        · rename_i r' hr'
          obtain ⟨v, vs', s, e1, e2, v2, vs2, s2, f1, f2, f3⟩ := operEs_ER hg hl
          have f3 : vs2 = [] := f3
          subst f3; subst f1
          have hargs : c.args.map a.eval = #[v, v2] := by apply Array.ext'; simpa using e1
          obtain ⟨z, z1, z2⟩ := (minmax_sound (P := P) e2 f2 hr').2 rfl
          refine look he (v := z) ?_ (fun _ s => z2 s)
          simp only [execOp, hop, resolve, hcal, invoke, builtin, Sem.run_bind, Sem.run_pure, Result.andThen_ok, hargs, z1]
        · cases he
      · cases he
    · rename_i f hcal
      split at he
      · rename_i fid caps es h1 h2
        obtain ⟨s1, r1, _⟩ := opE_sound hg h1
        have hf : a.eval f = .func (.func fid) #[] (caps.map fun s => Value.pointer (some ⟨g.bx s, 0, none⟩)).toArray := r1
        have her := operEs_ER hg h2
        cases hbx : (caps.all fun s => isBox (get s)) with
        | false => rw [hbx] at he; cases he
        | true =>
          rw [hbx] at he; simp only [cond_true] at he
          obtain ⟨rs, x, mk, y, q1, q2, q3⟩ := callE_form he hr
          subst q1
          have hcv : (caps.map fun s => a.tmps.getD s undef) = caps.map fun s => Value.pointer (some ⟨g.bx s, 0, none⟩) := by
            apply List.map_congr_left
            intro s hs
            have hb := List.all_eq_true.1 hbx s hs
            have := hg s
            cases hgs : get s with
            | box ro ls =>
              rw [hgs] at this
              obtain ⟨b, c, e, fr, bs, h1, h2, h3, h4, _⟩ := this
              rw [h1, h4]
            | _ => rw [hgs] at hb; cases hb
          obtain ⟨⟨fn, f1, f2, f3⟩, hcalls⟩ := ok_call hK st hd (clean (by simp [creates, hop, hcal])) (her.append (caps_ER hg)) he q2
          unfold Oper.wp
          have run : (execOp a.eval o).run P w = .ok (.enter fid (c.args.map a.eval ++ (caps.map fun s => Value.pointer (some ⟨g.bx s, 0, none⟩)).toArray)) w := by
            simp only [execOp, hop, resolve, hcal, hf, Deferred.ofValue, invoke, callFunc, Sem.run_bind, Sem.run_pure, Result.andThen_ok, run_program, f1]
            rw [if_neg (by simpa using f2), if_neg (by simp [f3])]
            simp
          rw [run]
          simp only [Oper.upon]
          have e : (c.args.map a.eval ++ (caps.map fun s => Value.pointer (some ⟨g.bx s, 0, none⟩)).toArray) = (c.args.toList.map a.eval ++ caps.map fun s => a.tmps.getD s undef).toArray := by
            rw [hcv]; apply Array.ext'; simp
          rw [e]
          refine hcalls.mono ?_
          rintro e w' ⟨v, rfl, g', k1, k2⟩
          exact ⟨g', k1, by rw [q3]; exact k2⟩
      · cases he
    · cases he
  | store t x y =>
    simp only [evOp, hop] at he
    split at he
    · rename_i ty s agg xs h1 h3 h4
      split at he
      · rename_i ups' hst
        injection he with he; subst he
        injection hr with hr; subst hr
        obtain ⟨w', q1, q2⟩ := ok_store (P := P) hT (hT _ _ h1) st h3 hst
        refine upon_skip (w' := w') ?_ ⟨g, rfl, ?_⟩
        · simp only [execOp, hop, Sem.run_bind, Sem.run_pure]
          rw [show a.eval (.tmp s) = a.tmps.getD s undef from rfl, q1]; rfl
        · rw [h4]; exact q2
      · cases he
    · cases he
  | _ => simp [evOp, hop] at he
end
def Ent.mapL (f : Leaf → Leaf) : Ent → Ent
  | .dead => .dead
  | .val a ls => .val a (ls.map f)
  | .lit e t pp => .lit e t (pp.map fun ls => ls.map f)
  | .box ro ls => .box ro (ls.map f)
  | .ref s b t p => .ref s b t p
  | .eref l i p => .eref (f l) i p
  | .fn f' c => .fn f' c
  | .tup ls => .tup (ls.map fun p => (p.1, p.2.map f))
  | .mp d kt vt m => .mp d kt vt m
  | .ment d kt vt k => .ment d kt vt k
  | .stamp d kt vt k => .stamp d kt vt k
  | .it b o => .it b o
def Leaf.absorb (m k : Nat) : Leaf → Leaf
  | .fz t reg lin v => bif Nat.beq reg m then .fz t k lin v else .fz t reg lin v
  | .rt e t tag sub lin st v => bif Nat.beq tag m then .fz (.slice e t) (bif lin then k else 0) lin v else .rt e t tag sub lin st v
def Leaf.name (m k : Nat) : Leaf → Leaf
  | .fz t reg lin v => bif Nat.beq reg m then .fz t k lin v else .fz t reg lin v
  | .rt e t tag sub lin st v => bif Nat.beq tag m then .rt e t k sub lin st v else .rt e t tag sub lin st v
def Ent.any (p : Leaf → Bool) : Ent → Bool
  | .dead => false
  | .val _ ls => ls.any p
  | .lit _ _ pp => pp.any fun ls => ls.any p
  | .box _ ls => ls.any p
  | .ref _ _ _ _ => false
  | .eref l _ _ => p l
  | .fn _ _ => false
  | .tup ls => ls.any fun q => q.2.any p
  | .mp _ _ _ _ | .ment _ _ _ _ | .stamp _ _ _ _ | .it _ _ => false
def Leaf.isRt (k : Nat) : Leaf → Bool
  | .rt _ _ tag _ _ _ _ => Nat.beq tag k
  | _ => false
def Leaf.inReg (k : Nat) : Leaf → Bool
  | .rt _ _ tag _ _ _ _ => Nat.beq tag k
  | .fz _ reg _ _ => Nat.beq reg k
def Leaf.bad (u : Ty) (k : Nat) : Leaf → Bool
  | .rt _ u' tag sub _ _ _ => Nat.beq tag k && (sub || !(u'.eqb u))
  | _ => false
def Leaf.old (k : Nat) : Leaf → Leaf
  | .rt e t tag sub lin st v => bif Nat.beq tag k then .rt e t tag true lin false v else .rt e t tag sub lin st v
  | l => l
def killIf (p : Leaf → Bool) (e : Ent) : Ent := bif e.any p then .dead else e
def oldE (u : Ty) (k : Nat) (e : Ent) : Ent :=
  match e with
  | .box false ls => bif ls.any (Leaf.bad u k) then .dead else .box false (ls.map (Leaf.old k))
  | e => killIf (Leaf.isRt k) e
def killAt (d : Nat) (e : Ent) : Ent := bif e.at d then .dead else e
def litTag (m : Nat) : Env → Bool
  | [] => false
  | (s, e) :: r => (match e with | .lit _ _ _ => Nat.beq (s * 16 + 1) m | _ => false) || litTag m r
def takeIn (k : Nat) : List Leaf → List Nat → Bool → Option (List Nat × Bool)
  | [], acc, ok => some (acc, ok)
  | .fz t reg lin _ :: r, acc, ok => bif t.flat then takeIn k r acc ok else
      bif lin && !(Nat.beq reg 0) && !(Nat.beq reg k) && !(memN acc reg) then takeIn k r (reg :: acc) ok else takeIn k r acc false
  | .rt _ _ m _ lin _ _ :: r, acc, ok => bif Nat.beq m k then none else bif memN acc m then takeIn k r acc false else takeIn k r (m :: acc) (ok && lin)
def absorbAll (k : Nat) : List Nat → Env → Env
  | [], env => env
  | m :: r, env => absorbAll k r (env.map (Ent.mapL (Leaf.absorb m k)))
def okTags (k : Nat) (ms : List Nat) (env : Env) : Bool := !(Nat.beq k 0) && !(litTag k env) && ms.all fun m => !(Nat.beq m 0) && !(Nat.beq m k) && !(litTag m env)
def growOk (a b : Nat) : Bool := decide (a + b ≤ 1099511627776)
def srcOf (e : TypeId) (u : Ty) (x : Ent) : Option (List Leaf × List u.den) :=
  match x with
  | .lit e2 u2 pp => bif (Ty.slice e2 u2).eqb (.slice e u) then (match argE.litVal u pp with | some w => some (pp.flatten, w) | none => none) else none
  | .val false [l] => bif l.ty.eqb (.slice e u) then (match Ty.cast (.slice e u) l.val with | some w => some ([l], w) | none => none) else none
  | _ => none
def appendE (e : TypeId) (u : Ty) (d : Nat) (s x : Ent) (env : Env) : Option (Bool × Env) :=
  match s with
  | .val false [l] => (match l with
    | .rt e' u' k false lin st v => bif (Ty.slice e' u').eqb (.slice e u) then (match Ty.cast (.slice e u) (Leaf.rt e' u' k false lin st v).val, srcOf e u x with
      | some v, some (ls, w) => (match (bif u.flat then some ([], true) else takeIn k ls [] true) with
        | some (ms, ok) => bif okTags k ms env then
            some (growOk (v : List u.den).length w.length, ((absorbAll k ms env).map (oldE u k)).put d (.val false [.rt e u k false (lin && ok) st ((v : List u.den) ++ w)])) else none
        | none => none)
      | _, _ => none) else none
    | _ => none)
  | _ => none
def appendME (e : TypeId) (u : Ty) (d : Nat) (s x : Ent) (env : Env) : Option (Bool × Env) :=
  match s with
  | .val false [l] => (match l with
    | .rt e' u' k false lin st v => bif (Ty.slice e' u').eqb (.slice e u) then (match Ty.cast (.slice e u) (Leaf.rt e' u' k false lin st v).val, asI x with
      | some v, some (_, n) => bif okTags k [] env then
          some (decide (0 ≤ n) && growOk (v : List u.den).length n.toNat, (env.map (oldE u k)).put d (.val false [.rt e u k false lin st ((v : List u.den) ++ List.replicate n.toNat u.dflt)])) else none
      | _, _ => none) else none
    | _ => none)
  | _ => none
theorem Env.get_map (f : Ent → Ent) (hf : f .dead = .dead) : ∀ (env : Env) (s : Nat), (env.map f).get s = f (env.get s)
  | [], s => hf.symm
  | (j, e) :: r, s => by
    simp only [Env.map, Env.get]
    cases Nat.beq j s with
    | true => rfl
    | false => exact Env.get_map f hf r s
def Gh.absorb (g : Gh) (m k : Nat) : Gh where
  kd b := match g.kd b with | .mu t => if t = m then .fz else .mu t | x => x
  own b := if g.own b = m then k else g.own b
  H := g.H
  bx := g.bx
  al := g.al
  mt := g.mt
theorem absorb_fz {g : Gh} {m k b : Nat} (h : g.kd b = .fz) : (g.absorb m k).kd b = .fz := by simp [Gh.absorb, h]
theorem absorb_mu {g : Gh} {m k b t : Nat} (h : g.kd b = .mu t) (ht : t ≠ m) : (g.absorb m k).kd b = .mu t := by simp [Gh.absorb, h, ht]
theorem absorb_in {g : Gh} {m k b : Nat} (h : g.kd b = .mu m) : (g.absorb m k).kd b = .fz := by simp [Gh.absorb, h]
section
variable {n : NS} {w0 w : World} {W : Nat → Prop} {g : Gh} {get : Nat → Ent} {a : Act} {d : Nat}
theorem LeafB.absorb {h : Mem} {l : Leaf} {cs : List Value} {bs : List Nat} {m k : Nat} (hm : m ≠ 0) (hk : k ≠ 0) (hl : LeafB g h l cs bs) : LeafB (g.absorb m k) h (l.absorb m k) cs bs := by
  cases l with
  | fz t reg lin v =>
    obtain ⟨h1, h2, h3, h4⟩ := hl
    simp only [Leaf.absorb]
    cases hq : Nat.beq reg m with
    | true =>
      have := Nat.eq_of_beq_eq_true hq; subst this
      exact ⟨h1, fun b hb => absorb_fz (h2 b hb), fun _ b hb => by simp [Gh.absorb, h3 hm b hb], fun q => LinOk.of hk ((h4 q).1 hm)⟩
    | false =>
      have hne := nbeq_ne hq
      exact ⟨h1, fun b hb => absorb_fz (h2 b hb), fun r b hb => by simp [Gh.absorb, h3 r b hb, hne], fun q => ⟨(h4 q).1, fun z b hb => by
        show (if g.own b = m then k else g.own b) = 0
        rw [(h4 q).2 z b hb, if_neg (fun e => hm e.symm)]⟩⟩
  | rt e t tag sub lin st v =>
    obtain ⟨hd, blk, bs', rfl, rfl, h1, h2, h3, h4, h5, h6⟩ := hl
    simp only [Leaf.absorb]
    cases hq : Nat.beq tag m with
    | true =>
      have := Nat.eq_of_beq_eq_true hq; subst this
      refine ⟨⟨hd, blk, bs', rfl, h3, rfl⟩, fun b hb => ?_, fun r b hb => ?_, fun hlin => ?_⟩
      · rcases List.mem_append.1 hb with hb | hb
        · exact absorb_in (h5 b (by simpa using hb)).1
        · exact absorb_fz (h4 b hb)
      · cases lin with
        | false => exact absurd rfl r
        | true =>
          show (if g.own b = tag then k else g.own b) = k
          rcases List.mem_append.1 hb with hb | hb
          · rw [if_pos (h5 b (by simpa using hb)).2.1]
          · rw [if_pos ((h6 rfl).1 b hb)]
      · subst hlin
        refine LinOk.of hk (List.nodup_append.2 ⟨by cases blk <;> simp, (h6 rfl).2, fun x hx y hy e => ?_⟩)
        subst e
        have := (h5 x (by simpa using hx)).1
        rw [h4 x hy] at this; cases this
    | false =>
      have hne := nbeq_ne hq
      refine ⟨hd, blk, bs', rfl, rfl, h1, h2, h3, fun b hb => absorb_fz (h4 b hb), fun b hb => ?_, fun hlin => ⟨fun b hb => ?_, (h6 hlin).2⟩⟩
      · obtain ⟨q1, q2, q3⟩ := h5 b hb
        exact ⟨absorb_mu q1 hne, by simp [Gh.absorb, q2, hne], q3⟩
      · simp [Gh.absorb, (h6 hlin).1 b hb, hne]
theorem absorb_ty (m k : Nat) (l : Leaf) : (l.absorb m k).ty = l.ty := by
  cases l <;> simp only [Leaf.absorb] <;> (cases Nat.beq _ m <;> rfl)
structure Re (f : Leaf → Leaf) (g g' : Gh) (h : Mem) : Prop where
  ty : ∀ l, (f l).ty = l.ty
  leaf : ∀ l cs bs, LeafB g h l cs bs → LeafB g' h (f l) cs bs
  bx : g'.bx = g.bx
  mt : g'.mt = g.mt
  len : ∀ l n, lenL l = some n → lenL (f l) = some n
theorem LeavesB.re {f : Leaf → Leaf} {g' : Gh} {h : Mem} (r : Re f g g' h) : ∀ {ls : List Leaf} {cs : List Value} {bs : List Nat}, LeavesB g h ls cs bs → LeavesB g' h (ls.map f) cs bs
  | [], _, _, hl => hl
  | l :: rr, cs, bs, ⟨b1, b2, h1, h2, h3⟩ => ⟨b1, b2, by rw [r.ty]; exact r.leaf _ _ _ h1, by rw [r.ty]; exact LeavesB.re r h2, h3⟩
theorem PartsB.re {f : Leaf → Leaf} {g' : Gh} {h : Mem} (r : Re f g g' h) {m : Nat} : ∀ {pp : List (List Leaf)} {cs : List Value} {bs : List Nat}, PartsB g h m pp cs bs → PartsB g' h m (pp.map fun ls => ls.map f) cs bs
  | [], _, _, hl => hl
  | l :: rr, cs, bs, ⟨b1, b2, h1, h2, h3⟩ => ⟨b1, b2, h1.re r, PartsB.re r h2, h3⟩
theorem ValR.re {f : Leaf → Leaf} {g' : Gh} {h : Mem} (r : Re f g g' h) {agg : Bool} {ls : List Leaf} {v : Value} (hv : ValR g h agg ls v) : ValR g' h agg (ls.map f) v := by
  obtain ⟨cs, bs, h1, h2, h3⟩ := hv; exact ⟨cs, bs, h1, h2, h3.re r⟩
theorem ValsR.re {f : Leaf → Leaf} {g' : Gh} {h : Mem} (r : Re f g g' h) : ∀ {ls : List (Bool × List Leaf)} {vs : List Value}, ValsR g h ls vs → ValsR g' h (ls.map fun p => (p.1, p.2.map f)) vs
  | [], _, hl => hl
  | (agg, ls) :: rr, vs, ⟨v, vs', h1, h2, h3⟩ => ⟨v, vs', h1, h2.re r, ValsR.re r h3⟩
theorem elemTy_re {f : Leaf → Leaf} {l : Leaf} {n : Nat} (ht : (f l).ty = l.ty) (hn : lenL l = some n) : elemTy (f l) = elemTy l := by
  have : ∃ e, l.ty = .slice e (elemTy l) := by
    cases l with
    | fz t reg lin v => cases t with | slice e t => exact ⟨e, rfl⟩ | _ => cases hn
    | rt e t tag sub lin st v => exact ⟨e, rfl⟩
  obtain ⟨e, h⟩ := this
  exact elemTy_of (by rw [ht]; exact h)
theorem EntR.re {f : Leaf → Leaf} {g' : Gh} {h : Mem} (r : Re f g g' h) {s : Nat} {e : Ent} {v : Value} (hlit : ∀ t u pp, e = .lit t u pp → ∀ b, g.kd b = .mu (s * 16 + 1) → g.own b = s * 16 + 1 → g'.kd b = .mu (s * 16 + 1) ∧ g'.own b = s * 16 + 1)
    (hbx : ∀ b, (∀ s, g.kd b = .bx s → g'.kd b = .bx s) ∧ (g.kd b = .fz → g'.kd b = .fz) ∧ (g.kd b = .no → g'.kd b = .no)) (ho : ∀ b, g.own b = 0 → g'.own b = 0) (he : EntR g h s e v) : EntR g' h s (e.mapL f) v := by
  cases e with
  | dead => trivial
  | val agg ls => exact ValR.re r he
  | lit t u pp =>
    obtain ⟨b, c, bs, h1, h2, h3, h4, h5, h6, h7⟩ := he
    obtain ⟨q1, q2⟩ := hlit t u pp rfl b h4 h5
    exact ⟨b, c, bs, by simpa using h1, h2, by simpa using h3, q1, q2, h6.re r, by simpa using h7⟩
  | box ro ls =>
    obtain ⟨b, c, e, fr, bs, h1, h2, h3, h4, h5, h6⟩ := he
    exact ⟨b, c, e, fr, bs, h1, h2, h3.re r, by rw [r.bx]; exact h4, fun q => ⟨(hbx b).1 _ (h5 q).1, (h5 q).2⟩, fun q => (h6 q).imp (hbx b).2.1 (hbx b).2.2⟩
  | ref s' base t p => obtain ⟨h1, h2⟩ := he; exact ⟨h1, by rw [r.bx]; exact h2⟩
  | eref l i p =>
    obtain ⟨bs, b, o, m, cap, h1, h2, h3, h4, h5⟩ := he
    have et := elemTy_re (r.ty l) h2
    exact ⟨bs, b, o, m, cap, r.leaf _ _ _ h1, r.len _ _ h2, h3, by rw [et]; exact h4, by rw [et]; exact h5⟩
  | fn f' caps => show v = _; rw [show v = _ from he, r.bx]
  | tup ls => obtain ⟨vs, h1, h2⟩ := he; exact ⟨vs, h1, h2.re r⟩
  | mp d kt vt m =>
    obtain ⟨h0, es, c, h1, h2, h3, h4⟩ := he
    exact ⟨by rw [r.bx]; exact h0, es, c, by rw [r.bx]; exact h1, by rw [r.bx]; exact (hbx _).1 _ h2, by rw [r.mt]; exact h3, h4⟩
  | ment d kt vt k =>
    obtain ⟨z, n, h0, es, c, e, h1, h2, h3, h4⟩ := he
    exact ⟨z, n, h0, es, c, e, by rw [r.bx]; exact h1, by rw [r.bx]; exact (hbx _).1 _ h2, by rw [r.mt]; exact h3, h4⟩
  | stamp d kt vt k =>
    obtain ⟨n, h0, es, c, e, h1, h2, h3, h4⟩ := he
    exact ⟨n, h0, es, c, e, by rw [r.bx]; exact h1, by rw [r.bx]; exact (hbx _).1 _ h2, by rw [r.mt]; exact h3, h4⟩
  | it b o => obtain ⟨h0, h1, h2, h3, h4⟩ := he; exact ⟨h0, h1, h2, (hbx b).2.1 h3, ho b h4⟩
theorem litTag_get {m : Nat} : ∀ {env : Env} {s : Nat} {t : TypeId} {u : Ty} {pp : List (List Leaf)}, litTag m env = false → env.get s = .lit t u pp → s * 16 + 1 ≠ m
  | [], s, t, u, pp, _, h => by cases h
  | (j, e) :: r, s, t, u, pp, hl, h => by
    simp only [litTag, Bool.or_eq_false_iff] at hl
    simp only [Env.get] at h
    cases hq : Nat.beq j s with
    | true =>
      rw [hq] at h; simp only [cond_true] at h
      have := Nat.eq_of_beq_eq_true hq; subst this
      subst h
      exact nbeq_ne hl.1
    | false => rw [hq] at h; exact litTag_get hl.2 h
theorem absorb_re {h : Mem} {m k : Nat} (hm : m ≠ 0) (hk : k ≠ 0) : Re (Leaf.absorb m k) g (g.absorb m k) h where
  ty := absorb_ty m k
  leaf l cs bs hl := hl.absorb hm hk
  bx := rfl
  mt := rfl
  len l q hl := by
    cases l with
    | fz t reg lin v =>
      cases t with
      | slice e t => simp only [Leaf.absorb]; cases Nat.beq reg m <;> exact hl
      | _ => cases hl
    | rt e t tag sub lin st v => simp only [Leaf.absorb]; cases Nat.beq tag m <;> exact hl
theorem St.absorb {env : Env} {m k : Nat} (st : St n w0 W g env.get a w) (hwal : ∀ b, W b → g.al b) (hm : m ≠ 0) (hk : k ≠ 0) (hl : litTag m env = false) :
    St n w0 W (g.absorb m k) (env.map (Ent.mapL (Leaf.absorb m k))).get a w where
  inv := by
    refine ⟨st.inv.size, st.inv.old, fun b => ?_, fun b hb => ?_, fun b hb => ?_, fun b hb => ?_, fun b hb => ?_⟩
    · rcases st.inv.kd b with q | q | q
      · exact .inl (absorb_fz q)
      · exact .inr (.inl (by simp [Gh.absorb, q]))
      · exact .inr (.inr q)
    · cases hq : g.kd b with
      | no => exact st.inv.no b hq
      | fz => rw [absorb_fz hq] at hb; cases hb
      | mu t => simp only [Gh.absorb, hq] at hb; split at hb <;> cases hb
      | bx s => simp only [Gh.absorb, hq] at hb; cases hb
    · cases hq : g.kd b with
      | no => simp only [Gh.absorb, hq] at hb; cases hb
      | fz => exact st.inv.al b hq
      | mu t =>
        rcases st.inv.kd b with q | q | q
        · rw [hq] at q; cases q
        · rw [hq] at q; cases q
        · rcases q.2 with r | r
          · exact .inl r
          · exact .inr (hwal b r)
      | bx s => simp only [Gh.absorb, hq] at hb; cases hb
    · have : g.own b ≠ 0 := by intro q; simp only [Gh.absorb, q] at hb; rw [if_neg (by omega)] at hb; exact hb rfl
      exact st.inv.own b this
    · have : g.own b ≠ 0 := by intro q; simp only [Gh.absorb, q] at hb; rw [if_neg (by omega)] at hb; exact hb rfl
      exact st.inv.wr b this
  ent s := by
    rw [Env.get_map _ rfl]
    refine (st.ent s).re (absorb_re hm hk) (fun t u pp he b h1 h2 => ?_) (fun b => ⟨fun s q => by simp [Gh.absorb, q], fun q => absorb_fz q, fun q => by simp [Gh.absorb, q]⟩) (fun b q => by show (if g.own b = m then k else g.own b) = 0; rw [q, if_neg (fun e => hm e.symm)])
    have := litTag_get hl he
    exact ⟨absorb_mu h1 this, by simp [Gh.absorb, h2, this]⟩
  sz := st.sz
  df := st.df
  os := st.os
  tape := st.tape
  output := st.output
theorem St.kill {env : Nat → Ent} {env' : Nat → Ent} (st : St n w0 W g env a w) (h : ∀ s, env' s = env s ∨ env' s = .dead) : St n w0 W g env' a w where
  inv := st.inv
  ent s := by rcases h s with q | q <;> rw [q]; exact st.ent s; trivial
  sz := st.sz
  df := st.df
  os := st.os
  tape := st.tape
  output := st.output
def Gh.name (g : Gh) (m k : Nat) : Gh where
  kd b := match g.kd b with | .mu t => if t = m then .mu k else .mu t | x => x
  own b := if g.own b = m then k else g.own b
  H t := if t = k then g.H m else g.H t
  bx := g.bx
  al := g.al
  mt := g.mt
theorem LeafB.name {h : Mem} {l : Leaf} {cs : List Value} {bs : List Nat} {m k : Nat} (hm : m ≠ 0) (hk : k ≠ 0) (hmk : m ≠ k) (hn : l.inReg k = false) (hl : LeafB g h l cs bs) : LeafB (g.name m k) h (l.name m k) cs bs := by
  have kfz : ∀ {b}, g.kd b = .fz → (g.name m k).kd b = .fz := fun q => by simp [Gh.name, q]
  cases l with
  | fz t reg lin v =>
    obtain ⟨h1, h2, h3, h4⟩ := hl
    simp only [Leaf.name]
    cases hq : Nat.beq reg m with
    | true =>
      have := Nat.eq_of_beq_eq_true hq; subst this
      exact ⟨h1, fun b hb => kfz (h2 b hb), fun _ b hb => by simp [Gh.name, h3 hm b hb], fun q => LinOk.of hk ((h4 q).1 hm)⟩
    | false =>
      have hne := nbeq_ne hq
      exact ⟨h1, fun b hb => kfz (h2 b hb), fun r b hb => by simp [Gh.name, h3 r b hb, hne], fun q => ⟨(h4 q).1, fun z b hb => by
        show (if g.own b = m then k else g.own b) = 0
        rw [(h4 q).2 z b hb, if_neg (fun e => hm e.symm)]⟩⟩
  | rt e t tag sub lin st v =>
    obtain ⟨hd, blk, bs', rfl, rfl, h1, h2, h3, h4, h5, h6⟩ := hl
    simp only [Leaf.name]
    cases hq : Nat.beq tag m with
    | true =>
      have := Nat.eq_of_beq_eq_true hq; subst this
      refine ⟨hd, blk, bs', rfl, rfl, fun q => by simp [Gh.name, h1 q], h2, h3, fun b hb => kfz (h4 b hb), fun b hb => ?_, fun hlin => ⟨fun b hb => by simp [Gh.name, (h6 hlin).1 b hb], (h6 hlin).2⟩⟩
      obtain ⟨q1, q2, q3⟩ := h5 b hb
      exact ⟨by simp [Gh.name, q1], by simp [Gh.name, q2], q3⟩
    | false =>
      have hne := nbeq_ne hq
      have hnk : tag ≠ k := nbeq_ne hn
      refine ⟨hd, blk, bs', rfl, rfl, fun q => by simp [Gh.name, h1 q, hnk], h2, h3, fun b hb => kfz (h4 b hb), fun b hb => ?_, fun hlin => ⟨fun b hb => by simp [Gh.name, (h6 hlin).1 b hb, hne], (h6 hlin).2⟩⟩
      obtain ⟨q1, q2, q3⟩ := h5 b hb
      exact ⟨by simp [Gh.name, q1, hne], by simp [Gh.name, q2, hne], q3⟩
theorem name_ty (m k : Nat) (l : Leaf) : (l.name m k).ty = l.ty := by
  cases l <;> simp only [Leaf.name] <;> (cases Nat.beq _ m <;> rfl)
theorem lenL_name (m k : Nat) (l : Leaf) (q : Nat) (hl : lenL l = some q) : lenL (l.name m k) = some q := by
  cases l with
  | fz t reg lin v =>
    cases t with
    | slice e t => simp only [Leaf.name]; cases Nat.beq reg m <;> exact hl
    | _ => cases hl
  | rt e t tag sub lin st v => simp only [Leaf.name]; cases Nat.beq tag m <;> exact hl
theorem LeavesB.name {h : Mem} {m k : Nat} (hm : m ≠ 0) (hk : k ≠ 0) (hmk : m ≠ k) : ∀ {ls : List Leaf} {cs : List Value} {bs : List Nat}, ls.any (Leaf.inReg k) = false → LeavesB g h ls cs bs → LeavesB (g.name m k) h (ls.map (Leaf.name m k)) cs bs
  | [], _, _, _, hl => hl
  | l :: rr, cs, bs, hn, ⟨b1, b2, h1, h2, h3⟩ => by
    simp only [List.any_cons, Bool.or_eq_false_iff] at hn
    exact ⟨b1, b2, by rw [name_ty]; exact h1.name hm hk hmk hn.1, by rw [name_ty]; exact LeavesB.name hm hk hmk hn.2 h2, h3⟩
theorem ValR.name {h : Mem} {m k : Nat} (hm : m ≠ 0) (hk : k ≠ 0) (hmk : m ≠ k) {agg : Bool} {ls : List Leaf} {v : Value} (hn : ls.any (Leaf.inReg k) = false) (hv : ValR g h agg ls v) : ValR (g.name m k) h agg (ls.map (Leaf.name m k)) v := by
  obtain ⟨cs, bs, h1, h2, h3⟩ := hv; exact ⟨cs, bs, h1, h2, h3.name hm hk hmk hn⟩
theorem ValsR.name {h : Mem} {m k : Nat} (hm : m ≠ 0) (hk : k ≠ 0) (hmk : m ≠ k) : ∀ {ls : List (Bool × List Leaf)} {vs : List Value}, (ls.any fun q => q.2.any (Leaf.inReg k)) = false → ValsR g h ls vs → ValsR (g.name m k) h (ls.map fun p => (p.1, p.2.map (Leaf.name m k))) vs
  | [], _, _, hl => hl
  | (agg, ls) :: rr, vs, hn, ⟨v, vs', h1, h2, h3⟩ => by
    simp only [List.any_cons, Bool.or_eq_false_iff] at hn
    exact ⟨v, vs', h1, h2.name hm hk hmk hn.1, ValsR.name hm hk hmk hn.2 h3⟩
def nameE (m k : Nat) (e : Ent) : Ent :=
  match e with
  | .lit _ _ _ => .dead
  | e => e.mapL (Leaf.name m k)
theorem EntR.name {h : Mem} {m k s : Nat} (hm : m ≠ 0) (hk : k ≠ 0) (hmk : m ≠ k) {e : Ent} {v : Value} (hn : e.any (Leaf.inReg k) = false) (he : EntR g h s e v) : EntR (g.name m k) h s (nameE m k e) v := by
  cases e with
  | dead => trivial
  | val agg ls => exact ValR.name hm hk hmk hn he
  | lit t u pp => trivial
  | box ro ls =>
    obtain ⟨b, c, e, fr, bs, h1, h2, h3, h4, h5, h6⟩ := he
    exact ⟨b, c, e, fr, bs, h1, h2, h3.name hm hk hmk hn, h4, fun q => ⟨by simp [Gh.name, (h5 q).1], (h5 q).2⟩, fun q => (h6 q).imp (fun q => by simp [Gh.name, q]) (fun q => by simp [Gh.name, q])⟩
  | ref s' base t p => exact he
  | eref l i p =>
    obtain ⟨bs, b, o, q, cap, h1, h2, h3, h4, h5⟩ := he
    have et := elemTy_re (name_ty m k l) h2
    exact ⟨bs, b, o, q, cap, h1.name hm hk hmk hn, lenL_name m k l _ h2, h3, by rw [et]; exact h4, by rw [et]; exact h5⟩
  | fn f' caps => exact he
  | tup ls => obtain ⟨vs, h1, h2⟩ := he; exact ⟨vs, h1, h2.name hm hk hmk hn⟩
  | mp d kt vt m' =>
    obtain ⟨h0, es, c, h1, h2, h3⟩ := he
    exact ⟨h0, es, c, h1, by simp only [Gh.name]; rw [h2], h3⟩
  | ment d kt vt k' =>
    obtain ⟨z, n, h0, es, c, e, h1, h2, h3⟩ := he
    exact ⟨z, n, h0, es, c, e, h1, by simp only [Gh.name]; rw [h2], h3⟩
  | stamp d kt vt k' =>
    obtain ⟨n, h0, es, c, e, h1, h2, h3⟩ := he
    exact ⟨n, h0, es, c, e, h1, by simp only [Gh.name]; rw [h2], h3⟩
  | it b o =>
    obtain ⟨h0, h1, h2, h3, h4⟩ := he
    exact ⟨h0, h1, h2, by simp only [Gh.name]; rw [h3], by show (if g.own b = m then k else g.own b) = 0; rw [h4, if_neg (fun e => hm e.symm)]⟩
theorem St.name {env : Nat → Ent} {m k : Nat} (st : St n w0 W g env a w) (hm : m ≠ 0) (hk : k ≠ 0) (hmk : m ≠ k) (hn : ∀ s, (env s).any (Leaf.inReg k) = false) :
    St n w0 W (g.name m k) (fun s => nameE m k (env s)) a w where
  inv := by
    refine ⟨st.inv.size, st.inv.old, fun b => ?_, fun b hb => ?_, fun b hb => ?_, fun b hb => ?_, fun b hb => ?_⟩
    · rcases st.inv.kd b with q | q | q
      · exact .inl (by simp [Gh.name, q])
      · exact .inr (.inl (by simp [Gh.name, q]))
      · exact .inr (.inr q)
    · cases hq : g.kd b with
      | no => exact st.inv.no b hq
      | fz => simp only [Gh.name, hq] at hb; cases hb
      | mu t => simp only [Gh.name, hq] at hb; split at hb <;> cases hb
      | bx s => simp only [Gh.name, hq] at hb; cases hb
    · cases hq : g.kd b with
      | no => simp only [Gh.name, hq] at hb; cases hb
      | fz => exact st.inv.al b hq
      | mu t => simp only [Gh.name, hq] at hb; split at hb <;> cases hb
      | bx s => simp only [Gh.name, hq] at hb; cases hb
    · have : g.own b ≠ 0 := by intro q; simp only [Gh.name, q] at hb; rw [if_neg (by omega)] at hb; exact hb rfl
      exact st.inv.own b this
    · have : g.own b ≠ 0 := by intro q; simp only [Gh.name, q] at hb; rw [if_neg (by omega)] at hb; exact hb rfl
      exact st.inv.wr b this
  ent s := (st.ent s).name hm hk hmk (hn s)
  sz := st.sz
  df := st.df
  os := st.os
  tape := st.tape
  output := st.output
end
section
variable {P : Program} {T : TTab} {w : World} {g : Gh}
theorem first_of {h : Mem} {e : TypeId} {u : Ty} {l : List u.den} {hd : Value} {blk : Option Nat} {bs : List Nat} (hs : SlR h e u.size (Rd h u) l hd blk bs) :
    ∃ news : List Value, (∀ w : World, w.heap = h → (Builtin.lenOf hd).run P w = .ok l.length w ∧ (Builtin.firstCells u.size l.length hd).run P w = .ok news.toArray w) ∧ news.length = l.length * u.size ∧ RdL (Rd h u) u.size l news bs := by
  rcases hs with ⟨p, rfl, rfl, rfl, rfl⟩ | ⟨b, o, cap, c, fr, rfl, e2, ⟨e3, _⟩, ⟨e', e4⟩, e5, e6⟩
  · refine ⟨[], fun w _ => ⟨rfl, ?_⟩, by simp, rfl⟩
    cases p with
    | none => rfl
    | some a =>
      have := run_loadCells_list (P := P) w a [] (fun j v hj => by cases hj)
      simp only [Builtin.firstCells, List.length_nil, Nat.zero_mul]
      exact this
  · have hb : o + l.length * u.size ≤ c.size := by
      have : l.length * u.size ≤ cap * u.size := Nat.mul_le_mul_right _ e3
      omega
    have hlen : ((c.toList.drop o).take (l.length * u.size)).length = l.length * u.size := by simp; omega
    refine ⟨(c.toList.drop o).take (l.length * u.size), fun w hw => ⟨rfl, ?_⟩, hlen, e6.take fun j hj => by rw [List.getElem?_take_of_lt hj]⟩
    subst hw
    have hc : ∀ j v, ((c.toList.drop o).take (l.length * u.size))[j]? = some v → w.cell? ((⟨b, o, none⟩ : Addr).add j) = some v := by
      intro j v hj
      have hlt : j < l.length * u.size := by
        rcases Nat.lt_or_ge j (l.length * u.size) with h | h
        · exact h
        · rw [List.getElem?_eq_none (by omega)] at hj; cases hj
      rw [List.getElem?_take_of_lt hlt, List.getElem?_drop] at hj
      rw [addr_add, cell_of e4]; simpa using hj
    have := run_loadCells_list (P := P) w ⟨b, o, none⟩ _ hc
    rw [hlen] at this
    simp only [Builtin.firstCells]
    exact this
theorem app_pre {t ty el : TypeId} {u : Ty} (k : TyOK P T t (.slice el u)) (hT : TOK P T) : ∃ i, P.underlying t = some (.slice el) ∧ P.info? el = some i ∧ i.size = u.size ∧ i.zero = some (zv u) ∧ i.bytes ≤ 64 ∧ u.size ≠ 0 := by
  obtain ⟨hu, hte, hz⟩ := k.und
  obtain ⟨i, i1, i2, i3, i4⟩ := (hT _ _ hte).info
  exact ⟨i, hu, i1, i2, i3, i4, hz⟩
theorem run_append_fit {t ty el : TypeId} {u : Ty} (k : TyOK P T t (.slice el u)) (hT : TOK P T) {n m cap : Nat} {x : Value} {news : List Value} (hx : (Builtin.lenOf x).run P w = .ok m w)
    (hf : (Builtin.firstCells u.size m x).run P w = .ok news.toArray w) (hfit : n + m ≤ cap) {base : Option Addr} {w' : World}
    (hst : (match base with | some a => storeCells (a.add (n * u.size)) news | none => pure () : Sem Unit).run P w = .ok () w') :
    (Builtin.append_ #[t, t] ty #[.slice base n cap, x]).run P w = .ok (.slice base (n + m) cap) w' := by
  obtain ⟨i, hu, i1, i2, i3, i4, hz⟩ := app_pre (ty := ty) k hT
  unfold Builtin.append_
  simp only [List.getElem?_toArray, List.getElem?_cons_zero, List.getElem?_cons_succ, Sem.run_bind, run_underlying hu, Result.andThen_ok, run_sizeOf w i1, Sem.run_pure, hx]
  have hc : P.cellsOf el = u.size := by simp [Program.cellsOf, i1, i2]
  simp only [Bool.false_eq_true, if_false, hx, Result.andThen_ok, Sem.run_bind, hfit, if_true, hc, Bool.not_false, hf]
  cases base with
  | none => simp only [Sem.run_pure] at hst ⊢; injection hst with _ hst; subst hst; simp only [hf, Result.andThen_ok]
  | some a => simp only at hst ⊢; simp only [Sem.run_bind, hf, Result.andThen_ok, List.toList_toArray, hst, Sem.run_pure]
theorem run_append_grow {t ty el : TypeId} {u : Ty} (k : TyOK P T t (.slice el u)) (hT : TOK P T) {n m cap : Nat} {x : Value} {news old : List Value} (hx : (Builtin.lenOf x).run P w = .ok m w)
    (hf : ∀ w' : World, w'.heap = w.heap → (Builtin.firstCells u.size m x).run P w' = .ok news.toArray w') (hgr : ¬ n + m ≤ cap) {base : Option Addr} (ho : ∀ w' : World, w'.heap = w.heap → (Builtin.firstCells u.size n (.slice base n cap)).run P w' = .ok old.toArray w')
    (hb : n + m ≤ 1099511627776) :
    ∃ cap' rest w', (Builtin.append_ #[t, t] ty #[.slice base n cap, x]).run P w = .ok (.slice (some ⟨w.heap.size, 0, none⟩) (n + m) cap') w' ∧ w'.heap = w.heap.push (.cells (old ++ news ++ rest).toArray el) ∧
      w'.os = w.os ∧ Tp w' w ∧ w'.output = w.output ∧ n + m ≤ cap' ∧ rest.length = (cap' - (n + m)) * u.size := by
  obtain ⟨i, hu, i1, i2, i3, i4, hz⟩ := app_pre (ty := ty) k hT
  have hc : P.cellsOf el = u.size := by simp [Program.cellsOf, i1, i2]
  have hbytes : (n + m) * i.bytes ≤ 140737488355328 := by
    have : (n + m) * i.bytes ≤ 1099511627776 * 64 := Nat.mul_le_mul hb i4
    omega
  have hgs := growslice_fits (need := n + m) (old := cap) (bytes := i.bytes) (by omega) hbytes
  let w1 : World := w.drew
  let cap' := (Question.appendCap (n + m) cap el).cut (w.tape w.drawn (.appendCap (n + m) cap el))
  have hcap : n + m ≤ cap' := by show n + m ≤ (n + m) + _; omega
  refine ⟨cap', (Builtin.zeroCells (zv u).cells (cap' - (n + m))).toList, w1.alloc (.cells (old ++ news ++ (Builtin.zeroCells (zv u).cells (cap' - (n + m))).toList).toArray el), ?_, rfl, rfl, ⟨rfl, Nat.le_succ _⟩, rfl, hcap, ?_⟩
  · unfold Builtin.append_
    simp only [List.getElem?_toArray, List.getElem?_cons_zero, List.getElem?_cons_succ, Sem.run_bind, run_underlying hu, Result.andThen_ok, run_sizeOf w i1, Sem.run_pure, hx]
    simp only [Bool.false_eq_true, if_false, hx, Result.andThen_ok, Sem.run_bind, hgr, hc]
    have h63 : ¬ (((n + m : Nat) : Int) > IntKind.i64.max ∧ (False ∨ i.bytes = 0)) := by
      intro q
      have : IntKind.i64.max = 9223372036854775807 := by decide
      rw [this] at q; omega
    have h48 : ¬ (Builtin.nextslicecap (n + m) cap * i.bytes > 2 ^ 48) := by omega
    simp only [run_typeInfo w i1, Result.andThen_ok]
    rw [if_neg (by simpa using h63)]
    simp only [Sem.run_pure, Result.andThen_ok, Sem.run_bind, run_typeInfo w i1]
    rw [if_neg h48]
    simp only [Sem.run_pure, Result.andThen_ok, Sem.run_bind, run_typeInfo w i1]
    have hch : (choose (.appendCap (n + m) cap el)).run P w = .ok cap' w1 := by simp only [choose, Sem.run, Question.forced]; rfl
    have hask : ∀ w' : World, (askRoom (cap' * i.bytes)).run P w' = .ok () w' := by intro w'; unfold askRoom; split <;> rfl
    have hzv : (zeroValue el).run P w1 = .ok (zv u) w1 := by simp only [zeroValue, Sem.run_bind, run_typeInfo w1 i1, Result.andThen_ok, i3, Sem.run_pure]
    simp only [hch, Result.andThen_ok, Sem.run_bind, run_typeInfo w1 i1, hask, ho w1 rfl, Bool.not_false, if_true, hf w1 rfl, hzv, run_newRow, Sem.run_pure]
    have e : old.toArray ++ news.toArray ++ Builtin.zeroCells (zv u).cells (cap' - (n + m)) = (old ++ news ++ (Builtin.zeroCells (zv u).cells (cap' - (n + m))).toList).toArray := by simp
    rw [e]; rfl
  · simp [Builtin.zeroCells, zv_cells, zc_length]
theorem zeroCells_list {u : Ty} (hz : u.size ≠ 0) (m : Nat) : (Builtin.zeroCells (zv u).cells m).toList = (List.replicate m (zc u)).flatten := by
  have h : (zv u).cells.size ≠ 0 := by rw [zv_cells]; simp [zc_length, hz]
  have := range_mod (zv u).cells m h
  rw [show (zv u).cells.toList = zc u by rw [zv_cells]] at this
  exact this
theorem wrap_small {n : Int} (h0 : 0 ≤ n) (h : n ≤ 1099511627776) : IntKind.i64.wrap n = n := by
  have e : n % (2 ^ 64 : Int) = n := Int.emod_eq_of_lt h0 (by omega)
  simp only [IntKind.wrap, IntKind.bits, e]
  rw [if_neg]
  simp [IntKind.signed]; omega
theorem run_made {el : TypeId} {u : Ty} {i : TypeInfo} (i1 : P.info? el = some i) (i3 : i.zero = some (zv u)) (hz : u.size ≠ 0) (m : Nat) (w : World) :
    (if m * u.size = 0 then (pure #[] : Sem (Array Value)) else do pure (Builtin.zeroCells (← zeroValue el).cells m)).run P w = .ok ((List.replicate m (zc u)).flatten).toArray w := by
  have e : Builtin.zeroCells (zv u).cells m = ((List.replicate m (zc u)).flatten).toArray := by
    apply Array.ext'; rw [zeroCells_list hz]
  by_cases hm : m * u.size = 0
  · rw [if_pos hm]
    have : m = 0 := by
      rcases Nat.mul_eq_zero.1 hm with q | q
      · exact q
      · exact absurd q hz
    subst this; rfl
  · rw [if_neg hm]
    simp only [Sem.run_bind, zeroValue, run_typeInfo w i1, Result.andThen_ok, i3, Sem.run_pure, e]
theorem run_appendM_fit {t ty el ti : TypeId} {u : Ty} {kk : IntKind} (k : TyOK P T t (.slice el u)) (hti : P.underlying ti = some (.int kk)) (hT : TOK P T) {n m cap : Nat} (hm : m ≤ 1099511627776) (hfit : n + m ≤ cap) {base : Option Addr} {w' : World}
    (hst : (match base with | some a => storeCells (a.add (n * u.size)) (List.replicate m (zc u)).flatten | none => pure () : Sem Unit).run P w = .ok () w') {ik : IntKind} {l : Int} (hl : l = (m : Int)) :
    (Builtin.append_ #[t, ti] ty #[.slice base n cap, .int ik l]).run P w = .ok (.slice base (n + m) cap) w' := by
  obtain ⟨i, hu, i1, i2, i3, i4, hz⟩ := app_pre (ty := ty) k hT
  have h0 : 0 ≤ l := by omega
  have hw : IntKind.i64.wrap l = l := wrap_small h0 (by omega)
  have hai : (asInt (.int ik l)).run P w = .ok l w := rfl
  have hbytes : ¬ (l * (i.bytes : Int) > 2 ^ 48) := by
    have : m * i.bytes ≤ 1099511627776 * 64 := Nat.mul_le_mul hm i4
    rw [hl, ← Int.natCast_mul]; omega
  have hneg : ¬ (l < 0) := by omega
  have hmade := run_made i1 i3 hz m
  have hto : l.toNat = m := by omega
  unfold Builtin.append_
  simp only [List.getElem?_toArray, List.getElem?_cons_zero, List.getElem?_cons_succ, Sem.run_bind, run_underlying hu, run_underlying hti, Result.andThen_ok, run_sizeOf w i1, Sem.run_pure, hai]
  simp only [hw, if_true, Sem.run_bind, Sem.run_pure, Result.andThen_ok, run_typeInfo w i1, hai]
  have hc : P.cellsOf el = u.size := by simp [Program.cellsOf, i1, i2]
  rw [if_neg hneg]
  simp only [Sem.run_bind, run_typeInfo w i1, Result.andThen_ok]
  rw [if_neg hbytes]
  simp only [Sem.run_bind, Sem.run_pure, Result.andThen_ok, hto, hfit, if_true, hc, Bool.not_true, Bool.false_eq_true, if_false]
  have hm2 := hmade w
  cases base with
  | none => simp only [Sem.run_pure] at hst; injection hst with _ hst; subst hst; simp only [hm2, Result.andThen_ok, Sem.run_pure]
  | some a => simp only [hm2, Result.andThen_ok, List.toList_toArray, Sem.run_bind, hst, Sem.run_pure]
theorem run_appendM_grow {t ty el ti : TypeId} {u : Ty} {kk : IntKind} (k : TyOK P T t (.slice el u)) (hti : P.underlying ti = some (.int kk)) (hT : TOK P T) {n m cap : Nat} {old : List Value} (hm : m ≤ 1099511627776) (hgr : ¬ n + m ≤ cap) {base : Option Addr}
    (ho : ∀ w' : World, w'.heap = w.heap → (Builtin.firstCells u.size n (.slice base n cap)).run P w' = .ok old.toArray w') (hb : n + m ≤ 1099511627776) {ik : IntKind} {l : Int} (hl : l = (m : Int)) :
    ∃ cap' rest w', (Builtin.append_ #[t, ti] ty #[.slice base n cap, .int ik l]).run P w = .ok (.slice (some ⟨w.heap.size, 0, none⟩) (n + m) cap') w' ∧ w'.heap = w.heap.push (.cells (old ++ (List.replicate m (zc u)).flatten ++ rest).toArray el) ∧
      w'.os = w.os ∧ Tp w' w ∧ w'.output = w.output ∧ n + m ≤ cap' ∧ rest.length = (cap' - (n + m)) * u.size := by
  obtain ⟨i, hu, i1, i2, i3, i4, hz⟩ := app_pre (ty := ty) k hT
  have h0 : 0 ≤ l := by omega
  have hw : IntKind.i64.wrap l = l := wrap_small h0 (by omega)
  have hai : (asInt (.int ik l)).run P w = .ok l w := rfl
  have hbytes : ¬ (l * (i.bytes : Int) > 2 ^ 48) := by
    have : m * i.bytes ≤ 1099511627776 * 64 := Nat.mul_le_mul hm i4
    rw [hl, ← Int.natCast_mul]; omega
  have hneg : ¬ (l < 0) := by omega
  have hmade := run_made i1 i3 hz m
  have hto : l.toNat = m := by omega
  have hc : P.cellsOf el = u.size := by simp [Program.cellsOf, i1, i2]
  have hbytes2 : (n + m) * i.bytes ≤ 140737488355328 := by
    have : (n + m) * i.bytes ≤ 1099511627776 * 64 := Nat.mul_le_mul hb i4
    omega
  have hgs := growslice_fits (need := n + m) (old := cap) (bytes := i.bytes) (by omega) hbytes2
  let w1 : World := w.drew
  let cap' := (Question.appendCap (n + m) cap el).cut (w.tape w.drawn (.appendCap (n + m) cap el))
  have hcap : n + m ≤ cap' := by show n + m ≤ (n + m) + _; omega
  refine ⟨cap', (Builtin.zeroCells (zv u).cells (cap' - (n + m))).toList, w1.alloc (.cells (old ++ (List.replicate m (zc u)).flatten ++ (Builtin.zeroCells (zv u).cells (cap' - (n + m))).toList).toArray el), ?_, rfl, rfl, ⟨rfl, Nat.le_succ _⟩, rfl, hcap, ?_⟩
  · unfold Builtin.append_
    simp only [List.getElem?_toArray, List.getElem?_cons_zero, List.getElem?_cons_succ, Sem.run_bind, run_underlying hu, run_underlying hti, Result.andThen_ok, run_sizeOf w i1, Sem.run_pure, hai]
    simp only [hw, if_true, Sem.run_bind, Sem.run_pure, Result.andThen_ok, run_typeInfo w i1, hai]
    rw [if_neg hneg]
    simp only [Sem.run_bind, run_typeInfo w i1, Result.andThen_ok]
    rw [if_neg hbytes]
    simp only [Sem.run_bind, Sem.run_pure, Result.andThen_ok, hto, hgr, if_true, hc, Bool.not_true, Bool.false_eq_true, if_false]
    have h63 : ¬ (((n + m : Nat) : Int) > IntKind.i64.max ∧ (True ∨ i.bytes = 0)) := by
      intro q
      have : IntKind.i64.max = 9223372036854775807 := by decide
      rw [this] at q; omega
    have h48 : ¬ (Builtin.nextslicecap (n + m) cap * i.bytes > 2 ^ 48) := by omega
    simp only [run_typeInfo w i1, Result.andThen_ok, Sem.run_bind]
    rw [if_neg h63]
    simp only [Sem.run_pure, Result.andThen_ok, Sem.run_bind, run_typeInfo w i1]
    rw [if_neg h48]
    simp only [Sem.run_pure, Result.andThen_ok, Sem.run_bind, run_typeInfo w i1]
    have hch : (choose (.appendCap (n + m) cap el)).run P w = .ok cap' w1 := by simp only [choose, Sem.run, Question.forced]; rfl
    have hask : ∀ w' : World, (askRoom (cap' * i.bytes)).run P w' = .ok () w' := by intro w'; unfold askRoom; split <;> rfl
    have hzv : (zeroValue el).run P w1 = .ok (zv u) w1 := by simp only [zeroValue, Sem.run_bind, run_typeInfo w1 i1, Result.andThen_ok, i3, Sem.run_pure]
    simp only [hch, Result.andThen_ok, Sem.run_bind, run_typeInfo w1 i1, hask, ho w1 rfl, hmade w1, hzv, run_newRow, Sem.run_pure]
    have e : old.toArray ++ (List.replicate m (zc u)).flatten.toArray ++ Builtin.zeroCells (zv u).cells (cap' - (n + m)) = (old ++ (List.replicate m (zc u)).flatten ++ (Builtin.zeroCells (zv u).cells (cap' - (n + m))).toList).toArray := by simp
    rw [e]; rfl
  · simp [Builtin.zeroCells, zv_cells, zc_length]
end
section
variable {P : Program} {T : TTab} {n : NS} {w0 w : World} {W : Nat → Prop} {g : Gh} {get : Nat → Ent} {a : Act} {d : Nat}
structure ExtK (k : Nat) (g : Gh) (h : Mem) (g' : Gh) (h' : Mem) : Prop where
  size : h.size ≤ h'.size
  blk : ∀ b, b < h.size → g.kd b ≠ .mu k → h'[b]? = h[b]?
  kd : ∀ b, b < h.size → g'.kd b = g.kd b
  own : ∀ b, b < h.size → g'.own b = g.own b
  H : ∀ t, t ≠ k → g'.H t = g.H t
  bx : g'.bx = g.bx
  mt : g'.mt = g.mt
theorem LeafB.extK {k : Nat} {g' : Gh} {h h' : Mem} (x : ExtK k g h g' h') {l : Leaf} {cs : List Value} {bs : List Nat} (hl : LeafB g h l cs bs) (hd : l.isRt k = false) : LeafB g' h' l cs bs := by
  have hne : ∀ b ∈ bs, g.kd b ≠ .mu k := by
    cases l with
    | fz t reg lin v => intro b hb q; rw [hl.2.1 b hb] at q; cases q
    | rt e t tag sub lin st v =>
      have ht : tag ≠ k := nbeq_ne hd
      obtain ⟨hd', blk, bs', rfl, rfl, _, _, _, h4, h5, _⟩ := hl
      intro b hb q
      rcases List.mem_append.1 hb with hb | hb
      · rw [(h5 b (by simpa using hb)).1] at q; injection q with q; exact ht q
      · rw [h4 b hb] at q; cases q
  refine hl.same (fun b m => x.blk b (hl.lt b m) (hne b m)) (fun b m => x.kd b (hl.lt b m)) (fun b m => x.own b (hl.lt b m)) (fun e t tag sub lin st v he _ => ?_)
  subst he; exact x.H _ (nbeq_ne hd)
theorem LeavesB.extK {k : Nat} {g' : Gh} {h h' : Mem} (x : ExtK k g h g' h') : ∀ {ls : List Leaf} {cs : List Value} {bs : List Nat}, LeavesB g h ls cs bs → ls.any (Leaf.isRt k) = false → LeavesB g' h' ls cs bs
  | [], _, _, hl, _ => hl
  | l :: r, cs, bs, ⟨b1, b2, h1, h2, h3⟩, hd => by
    simp only [List.any_cons, Bool.or_eq_false_iff] at hd
    exact ⟨b1, b2, h1.extK x hd.1, LeavesB.extK x h2 hd.2, h3⟩
theorem PartsB.extK {k : Nat} {g' : Gh} {h h' : Mem} (x : ExtK k g h g' h') {m : Nat} : ∀ {ls : List (List Leaf)} {cs : List Value} {bs : List Nat}, PartsB g h m ls cs bs → (ls.any fun l => l.any (Leaf.isRt k)) = false → PartsB g' h' m ls cs bs
  | [], _, _, hl, _ => hl
  | l :: r, cs, bs, ⟨b1, b2, h1, h2, h3⟩, hd => by
    simp only [List.any_cons, Bool.or_eq_false_iff] at hd
    exact ⟨b1, b2, h1.extK x hd.1, PartsB.extK x h2 hd.2, h3⟩
theorem ValR.extK {k : Nat} {g' : Gh} {h h' : Mem} (x : ExtK k g h g' h') {agg : Bool} {ls : List Leaf} {v : Value} (hv : ValR g h agg ls v) (hd : ls.any (Leaf.isRt k) = false) : ValR g' h' agg ls v := by
  obtain ⟨cs, bs, h1, h2, h3⟩ := hv; exact ⟨cs, bs, h1, h2, h3.extK x hd⟩
theorem ValsR.extK {k : Nat} {g' : Gh} {h h' : Mem} (x : ExtK k g h g' h') : ∀ {ls : List (Bool × List Leaf)} {vs : List Value}, ValsR g h ls vs → (ls.any fun p => p.2.any (Leaf.isRt k)) = false → ValsR g' h' ls vs
  | [], _, hl, _ => hl
  | (agg, ls) :: r, vs, ⟨v, vs', h1, h2, h3⟩, hd => by
    simp only [List.any_cons, Bool.or_eq_false_iff] at hd
    exact ⟨v, vs', h1, h2.extK x hd.1, ValsR.extK x h3 hd.2⟩
theorem EntR.extK {k : Nat} {g' : Gh} {h h' : Mem} (x : ExtK k g h g' h') {s : Nat} {e : Ent} {v : Value} (he : EntR g h s e v) (hd : e.any (Leaf.isRt k) = false) (hl : ∀ t u pp, e = .lit t u pp → s * 16 + 1 ≠ k) : EntR g' h' s e v := by
  have lt : ∀ {b : Nat} {o : Obj}, h[b]? = some o → b < h.size := fun {b o} hb => by
    rcases Nat.lt_or_ge b h.size with hlt | hge
    · exact hlt
    · rw [Array.getElem?_eq_none hge] at hb; cases hb
  cases e with
  | dead => trivial
  | val agg ls => exact ValR.extK x he hd
  | lit t u pp =>
    have hk := hl t u pp rfl
    obtain ⟨b, c, bs, h1, h2, h3, h4, h5, h6, h7⟩ := he
    exact ⟨b, c, bs, h1, by rw [x.blk b (lt h2) (by rw [h4]; intro q; injection q with q; exact hk q)]; exact h2, h3, by rw [x.kd b (lt h2)]; exact h4, by rw [x.own b (lt h2)]; exact h5, h6.extK x hd, h7⟩
  | box ro ls =>
    obtain ⟨b, c, e, fr, bs, h1, h2, h3, h4, h5, h6⟩ := he
    have hne : g.kd b ≠ .mu k := by
      cases ro with
      | false => rw [(h5 rfl).1]; intro q; cases q
      | true => rcases h6 rfl with q | q <;> (rw [q]; intro q'; cases q')
    exact ⟨b, c, e, fr, bs, h1, by rw [x.blk b (lt h2) hne]; exact h2, h3.extK x hd, by rw [x.bx]; exact h4, by rw [x.kd b (lt h2)]; exact h5, by rw [x.kd b (lt h2)]; exact h6⟩
  | ref s' base t p => obtain ⟨h1, h2⟩ := he; exact ⟨h1, by rw [x.bx]; exact h2⟩
  | eref l i p => obtain ⟨bs, b, o, m, cap, h1, h2⟩ := he; exact ⟨bs, b, o, m, cap, h1.extK x hd, h2⟩
  | fn f caps => show v = _; rw [show v = _ from he, x.bx]
  | tup ls => obtain ⟨vs, h1, h2⟩ := he; exact ⟨vs, h1, h2.extK x hd⟩
  | mp d kt vt m =>
    obtain ⟨h0, es, c, h1, h2, h3⟩ := he
    exact ⟨by rw [x.bx]; exact h0, es, c, by rw [x.bx, x.blk _ (lt h1) (by rw [h2]; intro q; cases q)]; exact h1, by rw [x.bx, x.kd _ (lt h1)]; exact h2, by rw [x.mt]; exact h3⟩
  | ment d kt vt k' =>
    obtain ⟨z, n, h0, es, c, e, h1, h2, h3⟩ := he
    exact ⟨z, n, h0, es, c, e, by rw [x.bx, x.blk _ (lt h1) (by rw [h2]; intro q; cases q)]; exact h1, by rw [x.bx, x.kd _ (lt h1)]; exact h2, by rw [x.mt]; exact h3⟩
  | stamp d kt vt k' =>
    obtain ⟨n, h0, es, c, e, h1, h2, h3⟩ := he
    exact ⟨n, h0, es, c, e, by rw [x.bx, x.blk _ (lt h1) (by rw [h2]; intro q; cases q)]; exact h1, by rw [x.bx, x.kd _ (lt h1)]; exact h2, by rw [x.mt]; exact h3⟩
  | it b o =>
    obtain ⟨h0, h1, h2, h3, h4⟩ := he
    exact ⟨h0, by rw [x.blk _ (lt h1) (by rw [h3]; intro q; cases q)]; exact h1, h2, by rw [x.kd _ (lt h1)]; exact h3, by rw [x.own _ (lt h1)]; exact h4⟩
structure AbsR (k : Nat) (ms : List Nat) (g g1 : Gh) : Prop where
  H : g1.H = g.H
  bx : g1.bx = g.bx
  al : g1.al = g.al
  mt : g1.mt = g.mt
  fz : ∀ b, g.kd b = .fz → g1.kd b = .fz
  mu : ∀ b t, g.kd b = .mu t → t ∉ ms → g1.kd b = .mu t
  inn : ∀ b t, g.kd b = .mu t → t ∈ ms → g1.kd b = .fz
  own : ∀ b, g.own b ∈ ms → g1.own b = k
  own' : ∀ b, g.own b ∉ ms → g1.own b = g.own b
  bxk : ∀ b s, g.kd b = .bx s → g1.kd b = .bx s
  no : ∀ b, g.kd b = .no → g1.kd b = .no
theorem litTag_map {m : Nat} (f : Leaf → Leaf) : ∀ (env : Env), litTag m (env.map (Ent.mapL f)) = litTag m env
  | [] => rfl
  | (s, e) :: r => by
    simp only [Env.map, litTag, litTag_map f r]
    cases e <;> rfl
def Gh.absorbs (k : Nat) : List Nat → Gh → Gh
  | [], g => g
  | m :: r, g => Gh.absorbs k r (g.absorb m k)
theorem absorbAll_sound {k : Nat} (hk : k ≠ 0) : ∀ {ms : List Nat} {env : Env} {g : Gh}, (∀ b, W b → g.al b) → St n w0 W g env.get a w → (∀ m ∈ ms, m ≠ 0 ∧ m ≠ k ∧ litTag m env = false) →
    St n w0 W (Gh.absorbs k ms g) (absorbAll k ms env).get a w ∧ AbsR k ms g (Gh.absorbs k ms g)
  | [], env, g, hw, st, _ => ⟨st, rfl, rfl, rfl, rfl, fun _ h => h, fun _ _ h _ => h, fun _ _ _ h => (by cases h), fun _ h => (by cases h), fun _ _ => rfl, fun _ _ h => h, fun _ h => h⟩
  | m :: ms, env, g, hw, st, hm => by
    obtain ⟨q1, q2, q3⟩ := hm m (by simp)
    have st' := st.absorb hw q1 hk q3
    obtain ⟨s1, r⟩ := absorbAll_sound hk (ms := ms) (env := env.map (Ent.mapL (Leaf.absorb m k))) (g := g.absorb m k) hw st' (fun m' hm' => by
      have := hm m' (by simp [hm']); exact ⟨this.1, this.2.1, by rw [litTag_map]; exact this.2.2⟩)
    refine ⟨s1, r.H, r.bx, r.al, r.mt, fun b hb => r.fz b (absorb_fz hb), fun b t hb ht => ?_, fun b t hb ht => ?_, fun b hb => ?_, fun b hb => ?_, fun b s hb => r.bxk b s (by simp [Gh.absorb, hb]), fun b hb => r.no b (by simp [Gh.absorb, hb])⟩
    · exact r.mu b t (absorb_mu hb (fun q => ht (by simp [q]))) (fun q => ht (by simp [q]))
    · by_cases q : t = m
      · subst q; exact r.fz b (absorb_in hb)
      · exact r.inn b t (absorb_mu hb q) (by simpa [q] using ht)
    · by_cases q : g.own b = m
      · have e : (g.absorb m k).own b = k := by simp [Gh.absorb, q]
        have : k ∉ ms := fun hk' => (hm k (by simp [hk'])).2.1 rfl
        show (Gh.absorbs k ms (g.absorb m k)).own b = k; rw [r.own' b (by rw [e]; exact this), e]
      · have e : (g.absorb m k).own b = g.own b := by simp [Gh.absorb, q]
        exact r.own b (by rw [e]; simpa [q] using hb)
    · have q : g.own b ≠ m := fun q => hb (by simp [q])
      have e : (g.absorb m k).own b = g.own b := by simp [Gh.absorb, q]
      show (Gh.absorbs k ms (g.absorb m k)).own b = g.own b
      rw [r.own' b (by rw [e]; exact fun q => hb (by simp [q])), e]
theorem memN_iff {l : List Nat} {i : Nat} : memN l i = true ↔ i ∈ l := by
  induction l with
  | nil => simp [memN]
  | cons x r ih =>
    simp only [memN, Bool.or_eq_true, ih, List.mem_cons]
    constructor
    · rintro (h | h)
      · exact .inl (Nat.eq_of_beq_eq_true h).symm
      · exact .inr h
    · rintro (h | h)
      · subst h; exact .inl (Nat.beq_refl i)
      · exact .inr h
theorem takeIn_mono {k : Nat} : ∀ {ls : List Leaf} {acc : List Nat} {ok0 : Bool} {ms : List Nat} {ok : Bool}, takeIn k ls acc ok0 = some (ms, ok) → (∀ m ∈ acc, m ∈ ms) ∧ (ok = true → ok0 = true)
  | [], acc, ok0, ms, ok, h => by simp only [takeIn, Option.some.injEq, Prod.mk.injEq] at h; obtain ⟨rfl, rfl⟩ := h; exact ⟨fun _ h => h, fun h => h⟩
  | .fz t reg lin v :: r, acc, ok0, ms, ok, h => by
    simp only [takeIn] at h
    cases hf : t.flat with
    | true => rw [hf] at h; exact takeIn_mono h
    | false =>
      rw [hf] at h; simp only [cond_false] at h
      cases hq : (lin && !(Nat.beq reg 0) && !(Nat.beq reg k) && !(memN acc reg)) with
      | true => rw [hq] at h; obtain ⟨q1, q2⟩ := takeIn_mono h; exact ⟨fun m hm => q1 m (by simp [hm]), q2⟩
      | false => rw [hq] at h; obtain ⟨q1, q2⟩ := takeIn_mono h; exact ⟨q1, fun hh => by have := q2 hh; cases this⟩
  | .rt e t m sub lin st v :: r, acc, ok0, ms, ok, h => by
    simp only [takeIn] at h
    cases hk : Nat.beq m k with
    | true => rw [hk] at h; cases h
    | false =>
      rw [hk] at h; simp only [cond_false] at h
      cases hq : memN acc m with
      | true => rw [hq] at h; obtain ⟨q1, q2⟩ := takeIn_mono h; exact ⟨q1, fun hh => by have := q2 hh; cases this⟩
      | false =>
        rw [hq] at h; obtain ⟨q1, q2⟩ := takeIn_mono h
        exact ⟨fun x hx => q1 x (by simp [hx]), fun hh => by have := q2 hh; simp at this; exact this.1⟩
theorem takeIn_sound {h : Mem} {k : Nat} : ∀ {ls : List Leaf} {acc : List Nat} {ok0 : Bool} {ms : List Nat} {ok : Bool} {cs : List Value} {bs : List Nat}, LeavesB g h ls cs bs → takeIn k ls acc ok0 = some (ms, ok) →
    (∀ b ∈ bs, g.kd b = .fz ∨ ∃ m ∈ ms, g.kd b = .mu m) ∧ (ok = true → bs.Nodup ∧ ∀ b ∈ bs, g.own b ∈ ms ∧ g.own b ∉ acc)
  | [], acc, ok0, ms, ok, cs, bs, ⟨_, h2⟩, _ => by subst h2; exact ⟨by simp, fun _ => ⟨by simp, by simp⟩⟩
  | .fz t reg lin v :: r, acc, ok0, ms, ok, cs, bs, ⟨b1, b2, h1, h2, h3⟩, ht => by
    subst h3
    simp only [takeIn] at ht
    cases hf : t.flat with
    | true =>
      rw [hf] at ht
      have : b1 = [] := h1.1.flat hf
      subst this
      exact takeIn_sound h2 ht
    | false =>
      rw [hf] at ht; simp only [cond_false] at ht
      cases hq : (lin && !(Nat.beq reg 0) && !(Nat.beq reg k) && !(memN acc reg)) with
      | true =>
        rw [hq] at ht; simp only [cond_true] at ht
        simp only [Bool.and_eq_true, Bool.not_eq_true'] at hq
        obtain ⟨⟨⟨c1, c2⟩, c3⟩, c4⟩ := hq
        obtain ⟨q1, q2⟩ := takeIn_sound h2 ht
        have hr : reg ≠ 0 := nbeq_ne c2
        refine ⟨fun b hb => ?_, fun hok => ?_⟩
        · rcases List.mem_append.1 hb with hb | hb
          · exact .inl (h1.2.1 b hb)
          · exact q1 b hb
        · obtain ⟨p1, p2⟩ := q2 hok
          have own1 := h1.2.2.1 hr
          refine ⟨List.nodup_append.2 ⟨(h1.2.2.2 c1).1 hr, p1, fun x hx y hy e => ?_⟩, fun b hb => ?_⟩
          · subst e
            have := (p2 x hy).2
            rw [own1 x hx] at this; exact this (by simp)
          · rcases List.mem_append.1 hb with hb | hb
            · rw [own1 b hb]
              refine ⟨(takeIn_mono ht).1 reg (by simp), fun q => ?_⟩
              rw [memN_iff.2 q] at c4; cases c4
            · obtain ⟨z1, z2⟩ := p2 b hb; exact ⟨z1, fun q => z2 (by simp [q])⟩
      | false =>
        rw [hq] at ht; simp only [cond_false] at ht
        obtain ⟨q1, q2⟩ := takeIn_sound h2 ht
        refine ⟨fun b hb => ?_, fun hok => ?_⟩
        · rcases List.mem_append.1 hb with hb | hb
          · exact .inl (h1.2.1 b hb)
          · exact q1 b hb
        · have := (takeIn_mono ht).2 hok; cases this
  | .rt e t m sub lin st v :: r, acc, ok0, ms, ok, cs, bs, ⟨b1, b2, h1, h2, h3⟩, ht => by
    subst h3
    simp only [takeIn] at ht
    obtain ⟨hd, blk, bs', _, e1, e2, e3, e4, e5, e6, e7⟩ := h1
    subst e1
    cases hk : Nat.beq m k with
    | true => rw [hk] at ht; cases ht
    | false =>
      rw [hk] at ht; simp only [cond_false] at ht
      have mine : m ∈ ms → ∀ b ∈ blk.toList ++ bs', g.kd b = .fz ∨ ∃ m ∈ ms, g.kd b = .mu m := by
        intro hm b hb
        rcases List.mem_append.1 hb with hb | hb
        · exact .inr ⟨m, hm, (e6 b (by simpa using hb)).1⟩
        · exact .inl (e5 b hb)
      cases hq : memN acc m with
      | true =>
        rw [hq] at ht; simp only [cond_true] at ht
        obtain ⟨q1, q2⟩ := takeIn_sound h2 ht
        refine ⟨fun b hb => ?_, fun hok => ?_⟩
        · rcases List.mem_append.1 hb with hb | hb
          · exact mine ((takeIn_mono ht).1 m (memN_iff.1 hq)) b hb
          · exact q1 b hb
        · have := (takeIn_mono ht).2 hok; cases this
      | false =>
        rw [hq] at ht; simp only [cond_false] at ht
        obtain ⟨q1, q2⟩ := takeIn_sound h2 ht
        have hm : m ∈ ms := (takeIn_mono ht).1 m (by simp)
        refine ⟨fun b hb => ?_, fun hok => ?_⟩
        · rcases List.mem_append.1 hb with hb | hb
          · exact mine hm b hb
          · exact q1 b hb
        · obtain ⟨p1, p2⟩ := q2 hok
          have hlin : lin = true := by have := (takeIn_mono ht).2 hok; simp at this; exact this.2
          obtain ⟨z1, z2⟩ := e7 hlin
          have own1 : ∀ b ∈ blk.toList ++ bs', g.own b = m := by
            intro b hb
            rcases List.mem_append.1 hb with hb | hb
            · exact (e6 b (by simpa using hb)).2.1
            · exact z1 b hb
          have nd1 : (blk.toList ++ bs').Nodup := by
            refine List.nodup_append.2 ⟨by cases blk <;> simp, z2, fun x hx y hy e => ?_⟩
            subst e
            have := (e6 x (by simpa using hx)).1
            rw [e5 x hy] at this; cases this
          refine ⟨List.nodup_append.2 ⟨nd1, p1, fun x hx y hy e => ?_⟩, fun b hb => ?_⟩
          · subst e
            have := (p2 x hy).2
            rw [own1 x hx] at this; exact this (by simp)
          · rcases List.mem_append.1 hb with hb | hb
            · rw [own1 b hb]
              exact ⟨hm, fun q => by rw [memN_iff.2 q] at hq; cases hq⟩
            · obtain ⟨y1, y2⟩ := p2 b hb; exact ⟨y1, fun q => y2 (by simp [q])⟩
theorem parts_flat {h : Mem} {m : Nat} : ∀ {pp : List (List Leaf)} {cs : List Value} {bs : List Nat}, (∀ ls ∈ pp, sizes ls = m) → PartsB g h m pp cs bs → LeavesB g h pp.flatten cs bs
  | [], _, _, _, hp => hp
  | ls :: r, cs, bs, hz, ⟨b1, b2, h1, h2, h3⟩ => by
    subst h3
    have ih := parts_flat (fun l hl => hz l (by simp [hl])) h2
    have hm := hz ls (by simp)
    simp only [List.flatten_cons]
    have app : ∀ {ls rest : List Leaf} {cs : List Value} {b1 b2 : List Nat}, LeavesB g h ls (cs.take (sizes ls)) b1 → LeavesB g h rest (cs.drop (sizes ls)) b2 → LeavesB g h (ls ++ rest) cs (b1 ++ b2) := by
      intro ls
      induction ls with
      | nil => rintro rest cs b1 b2 ⟨_, rfl⟩ h; simpa [sizes] using h
      | cons l ls ih =>
        rintro rest cs b1 b2 ⟨c1, c2, k1, k2, rfl⟩ k3
        have hl : ((cs.take (sizes (l :: ls))).take l.ty.size) = cs.take l.ty.size := by rw [List.take_take]; congr 1; simp [sizes]
        rw [hl] at k1
        rw [List.append_assoc]
        refine ⟨c1, c2 ++ b2, k1, ih ?_ ?_, rfl⟩
        · rw [List.drop_take] at k2; simpa [sizes] using k2
        · rw [List.drop_drop]; exact k3
    exact app (by rw [hm]; exact h1) (by rw [hm]; exact ih)
end
section
variable {P : Program} {T : TTab} {n : NS} {w0 w : World} {W : Nat → Prop} {g : Gh} {get : Nat → Ent} {a : Act} {d : Nat}
theorem St.putK {env : Env} {k : Nat} {g' : Gh} {w' : World} {e : Ent} {v : Value} (st : St n w0 W g env.get a w) (hd : n.has d) (x : ExtK k g w.heap g' w'.heap) (inv : Inv g' w0.heap w'.heap W)
    (os : w'.os = w.os) (tape : Tp w' w) (output : w'.output = w.output) (hl : litTag k env = false) (he : EntR g' w'.heap d e v) :
    St n w0 W g' ((env.map (killIf (Leaf.isRt k))).put d e).get (a.put (some d) v) w' where
  inv := inv
  ent s := by
    rw [put_getD (by rw [st.sz.1]; exact hd.1), Env.get_put]
    by_cases h : s = d
    · subst h; simp only [if_true]; exact he
    · simp only [if_neg h]
      rw [Env.get_map _ rfl]
      unfold killIf
      cases hq : (env.get s).any (Leaf.isRt k) with
      | true => trivial
      | false => exact (st.ent s).extK x hq fun t u pp h => litTag_get hl h
  sz := st.szPut hd
  df := by simp [Act.put, st.df]
  os := os.trans st.os
  tape := tape.trans st.tape
  output := output.trans st.output
theorem old_ty (k : Nat) (l : Leaf) : (l.old k).ty = l.ty := by
  cases l with
  | fz t reg lin v => rfl
  | rt e t tag sub lin st v => simp only [Leaf.old]; cases Nat.beq tag k <;> rfl
theorem LeafB.old {u : Ty} {k : Nat} {g' : Gh} {h h' : Mem} (x : ExtK k g h g' h') (f0 : ∀ e lin st v cs bs, LeafB g h (.rt e u k false lin st v) cs bs → LeafB g' h' (.rt e u k true lin false v) cs bs) {l : Leaf} {cs : List Value} {bs : List Nat} (hl : LeafB g h l cs bs) (hb : l.bad u k = false) : LeafB g' h' (l.old k) cs bs := by
  cases l with
  | fz t reg lin v => exact hl.extK x rfl
  | rt e t tag sub lin st v =>
    cases hq : Nat.beq tag k with
    | false => simp only [Leaf.old, hq, cond_false]; exact hl.extK x hq
    | true =>
      simp only [Leaf.old, hq, cond_true]
      simp only [Leaf.bad, hq, Bool.true_and, Bool.or_eq_false_iff, Bool.not_eq_false'] at hb
      have e1 := eqb_eq hb.2
      have e2 := Nat.eq_of_beq_eq_true hq
      have e3 := hb.1
      subst e1; subst e2; subst e3
      exact f0 _ _ _ _ _ _ hl
theorem LeavesB.old {u : Ty} {k : Nat} {g' : Gh} {h h' : Mem} (x : ExtK k g h g' h') (f0 : ∀ e lin st v cs bs, LeafB g h (.rt e u k false lin st v) cs bs → LeafB g' h' (.rt e u k true lin false v) cs bs) : ∀ {ls : List Leaf} {cs : List Value} {bs : List Nat}, LeavesB g h ls cs bs → ls.any (Leaf.bad u k) = false → LeavesB g' h' (ls.map (Leaf.old k)) cs bs
  | [], _, _, hl, _ => hl
  | l :: r, cs, bs, ⟨b1, b2, h1, h2, h3⟩, hd => by
    simp only [List.any_cons, Bool.or_eq_false_iff] at hd
    exact ⟨b1, b2, by rw [old_ty]; exact h1.old x f0 hd.1, by rw [old_ty]; exact LeavesB.old x f0 h2 hd.2, h3⟩
theorem oldE_other {u : Ty} {k : Nat} {e : Ent} (h : ∀ ls, e ≠ .box false ls) : oldE u k e = killIf (Leaf.isRt k) e := by
  cases e with
  | box ro ls =>
    cases ro with
    | false => exact absurd rfl (h ls)
    | true => rfl
  | _ => rfl
theorem St.putO {u : Ty} {env : Env} {k : Nat} {g' : Gh} {w' : World} {e : Ent} {v : Value} (st : St n w0 W g env.get a w) (hd : n.has d) (x : ExtK k g w.heap g' w'.heap) (f0 : ∀ e lin st v cs bs, LeafB g w.heap (.rt e u k false lin st v) cs bs → LeafB g' w'.heap (.rt e u k true lin false v) cs bs) (inv : Inv g' w0.heap w'.heap W)
    (os : w'.os = w.os) (tape : Tp w' w) (output : w'.output = w.output) (hl : litTag k env = false) (he : EntR g' w'.heap d e v) :
    St n w0 W g' ((env.map (oldE u k)).put d e).get (a.put (some d) v) w' where
  inv := inv
  ent s := by
    rw [put_getD (by rw [st.sz.1]; exact hd.1), Env.get_put]
    by_cases h : s = d
    · subst h; simp only [if_true]; exact he
    · simp only [if_neg h]
      rw [Env.get_map _ rfl]
      have hs := st.ent s
      by_cases hb : ∃ ls, env.get s = .box false ls
      · obtain ⟨ls, hb⟩ := hb
        rw [hb] at hs ⊢
        simp only [oldE]
        cases hq : ls.any (Leaf.bad u k) with
        | true => trivial
        | false =>
          simp only [cond_false]
          obtain ⟨b, c, e1, fr, bs, h1, h2, h3, h4, h5, h6⟩ := hs
          have lt : b < w.heap.size := by
            rcases Nat.lt_or_ge b w.heap.size with hlt | hge
            · exact hlt
            · rw [Array.getElem?_eq_none hge] at h2; cases h2
          exact ⟨b, c, e1, fr, bs, h1, by rw [x.blk b lt (by rw [(h5 rfl).1]; intro q; cases q)]; exact h2, h3.old x f0 hq, by rw [x.bx]; exact h4, fun _ => by rw [x.kd b lt]; exact h5 rfl, fun q => (by cases q)⟩
      · rw [oldE_other (fun ls q => hb ⟨ls, q⟩)]
        unfold killIf
        cases hq : (env.get s).any (Leaf.isRt k) with
        | true => trivial
        | false => exact hs.extK x hq fun t u pp h => litTag_get hl h
  sz := st.szPut hd
  df := by simp [Act.put, st.df]
  os := os.trans st.os
  tape := tape.trans st.tape
  output := output.trans st.output
theorem litTag_all {m k : Nat} : ∀ {ms : List Nat} {env : Env}, litTag m (absorbAll k ms env) = litTag m env
  | [], env => rfl
  | x :: r, env => by show litTag m (absorbAll k r _) = _; rw [litTag_all, litTag_map]
theorem src_sound {el : TypeId} {u : Ty} {s : Nat} {x : Ent} {ls : List Leaf} {v : Value} {y : List u.den} (he : EntR g w.heap s x v) (hs : srcOf el u x = some (ls, y)) :
    ∃ cs bs blk bs', LeavesB g w.heap ls cs bs ∧ SlR w.heap el u.size (Rd w.heap u) y v blk bs' ∧ bs'.Sublist bs := by
  unfold srcOf at hs
  split at hs
  · rename_i e2 u2 pp
    cases hq : (Ty.slice e2 u2).eqb (.slice el u) with
    | false => rw [hq] at hs; cases hs
    | true =>
      rw [hq] at hs; simp only [cond_true] at hs
      have hq := eqb_eq hq
      injection hq with q1 q2; subst q1; subst q2
      split at hs
      · rename_i w1 hw1
        injection hs with hs; injection hs with h1 h2; subst h1; subst h2
        obtain ⟨b, c, bs, h1, h2, h3, h4, h5, h6, h7⟩ := he
        obtain ⟨r1, r2⟩ := lit_rd h6 hw1
        have hz : ∀ (pp : List (List Leaf)) (cs : List Value) (bs : List Nat), PartsB g w.heap u2.size pp cs bs → cs.length = pp.length * u2.size → ∀ ls ∈ pp, sizes ls = u2.size := by
          intro pp
          induction pp with
          | nil => intro cs bs _ _ ls hls; cases hls
          | cons x r ih =>
            rintro cs bs ⟨b1, b2, k1, k2, k3⟩ hl ls hls
            simp only [List.length_cons, Nat.succ_mul] at hl
            rcases List.mem_cons.1 hls with rfl | hls
            · have := k1.length; rw [← this]; simp; omega
            · exact ih _ _ k2 (by simp; omega) ls hls
        obtain ⟨blk, hsl, _⟩ := SlR.mk (e := e2) (n := u2.size) (R := Rd w.heap u2) (l := w1) (hd := v) (b := b) (o := 0) (c := c) (cap := pp.length) (by rw [r2]; exact h1) (by rw [r2]; exact Nat.le_refl _) h2 (by omega) (by simpa using r1)
        exact ⟨c.toList, bs, blk, bs, parts_flat (hz _ _ _ h6 (by simpa using h3)) h6, hsl, List.Sublist.refl _⟩
      · cases hs
  · rename_i l
    cases hq : l.ty.eqb (.slice el u) with
    | false => rw [hq] at hs; cases hs
    | true =>
      rw [hq] at hs; simp only [cond_true] at hs
      have hq := eqb_eq hq
      split at hs
      · rename_i w1 hw1
        injection hs with hs; injection hs with h1 h2; subst h1; subst h2
        obtain ⟨bs, hl, hc⟩ := val1 he
        have hr := hl.rd
        obtain ⟨hd, blk, bs', h1, h2, h3⟩ := cast_rd hw1 hr
        injection h1 with h1 _
        subst h1; subst h3
        exact ⟨[v], _, blk, bs', hl.many, h2, List.sublist_append_right _ _⟩
      · cases hs
  · cases hs
theorem join_rd {h h' : Mem} {u : Ty} {v y : List u.den} {old news X : List Value} {b1 b2 : List Nat} (h1 : RdL (Rd h u) u.size v old b1) (h2 : RdL (Rd h u) u.size y news b2)
    (hl : old.length = v.length * u.size) (hX : ∀ j, j < (v.length + y.length) * u.size → X[j]? = (old ++ news)[j]?) (hb : ∀ b, b ∈ b1 ∨ b ∈ b2 → h'[b]? = h[b]?) :
    RdL (Rd h' u) u.size (v ++ y) X (b1 ++ b2) := by
  have := (h1.append hl h2).take (cs' := X) (fun j hj => hX j (by simpa using hj))
  exact this.mono fun x cs b hm hx => hx.frame fun z hz => hb z (List.mem_append.1 (hm z hz))
theorem append_core {ats : Array TypeId} {ty e' : TypeId} {u' : Ty} {k s1 : Nat} {ms : List Nat} {lin ok strict : Bool} {v0 y : List u'.den} {va vx : Value} {env : Env} {news : List Value} {bsw : List Nat} (hwal : ∀ b, W b → g.al b) (st : St n w0 W g env.get a w) (hd : n.has d)
    (he1 : EntR g w.heap s1 (.val false [.rt e' u' k false lin strict v0]) va) (hok : okTags k ms env = true) (take1 : ∀ b ∈ bsw, g.kd b = .fz ∨ ∃ m ∈ ms, g.kd b = .mu m) (take2 : ok = true → bsw.Nodup ∧ ∀ b ∈ bsw, g.own b ∈ ms)
    (hltw : ∀ b ∈ bsw, b < w.heap.size) (n2 : news.length = y.length * u'.size) (n3 : RdL (Rd w.heap u') u'.size y news bsw)
    (rfit : ∀ (base : Option Addr) (cap : Nat) (w' : World), va = .slice base v0.length cap → v0.length + y.length ≤ cap → (match base with | some a => storeCells (a.add (v0.length * u'.size)) news | none => pure () : Sem Unit).run P w = .ok () w' →
      (Builtin.append_ ats ty #[va, vx]).run P w = .ok (.slice base (v0.length + y.length) cap) w')
    (rgrow : ∀ (base : Option Addr) (cap : Nat) (old : List Value), va = .slice base v0.length cap → ¬ v0.length + y.length ≤ cap → (∀ w' : World, w'.heap = w.heap → (Builtin.firstCells u'.size v0.length (.slice base v0.length cap)).run P w' = .ok old.toArray w') →
      ∃ cap' rest w', (Builtin.append_ ats ty #[va, vx]).run P w = .ok (.slice (some ⟨w.heap.size, 0, none⟩) (v0.length + y.length) cap') w' ∧ w'.heap = w.heap.push (.cells (old ++ news ++ rest).toArray e') ∧
        w'.os = w.os ∧ Tp w' w ∧ w'.output = w.output ∧ v0.length + y.length ≤ cap' ∧ rest.length = (cap' - (v0.length + y.length)) * u'.size) :
    ∃ g' v w', (Builtin.append_ ats ty #[va, vx]).run P w = .ok v w' ∧ g'.al = g.al ∧ St n w0 W g' (((absorbAll k ms env).map (oldE u' k)).put d (.val false [.rt e' u' k false (lin && ok) strict (v0 ++ y)])).get (a.put (some d) v) w' := by
  simp only [okTags, Bool.and_eq_true, List.all_eq_true, Bool.not_eq_true'] at hok
  obtain ⟨⟨hk0, hkl⟩, hms⟩ := hok
  have hk0 := nbeq_ne hk0
  obtain ⟨st1, ar⟩ := absorbAll_sound hk0 hwal st (fun m hm => by have := hms m hm; exact ⟨nbeq_ne this.1.1, nbeq_ne this.1.2, this.2⟩)
  generalize Gh.absorbs k ms g = g1 at st1 ar
  have hkms : k ∉ ms := fun hk => nbeq_ne (hms k hk).1.2 rfl
  obtain ⟨bsl, hl, hc⟩ := val1 he1
  obtain ⟨hd', blk, bs', c0, c0', c1, c2, c3, c4, c5, c6⟩ := hl
  injection c0 with c0 _
  have hlt := c3.lt
  subst c0
  have fzs : ∀ b, b ∈ bs' ∨ b ∈ bsw → g1.kd b = .fz := by
    rintro b (hb | hb)
    · exact ar.fz b (c4 b hb)
    · rcases take1 b hb with q | ⟨m, q1, q2⟩
      · exact ar.fz b q
      · exact ar.inn b m q2 q1
  have nd : (lin && ok) = true → (∀ b ∈ bs' ++ bsw, g1.own b = k) ∧ (bs' ++ bsw).Nodup := by
    intro hlo
    simp only [Bool.and_eq_true] at hlo
    obtain ⟨d1, d2⟩ := c6 hlo.1
    obtain ⟨d3, d4⟩ := take2 hlo.2
    refine ⟨fun b hb => ?_, List.nodup_append.2 ⟨d2, d3, fun p hp q hq e => ?_⟩⟩
    · rcases List.mem_append.1 hb with hb | hb
      · rw [ar.own' b (by rw [d1 b hb]; exact hkms)]; exact d1 b hb
      · exact ar.own b (d4 b hb)
    · subst e
      have := d4 p hq
      rw [d1 p hp] at this; exact hkms this
  have hlk : litTag k (absorbAll k ms env) = false := by rw [litTag_all]; exact hkl
  -- the finish
  have fin : ∀ (g2 : Gh) (hd2 : Value) (w' : World) (b2 : Option Nat), ExtK k g1 w.heap g2 w'.heap → (∀ e lin st v cs bs, LeafB g1 w.heap (.rt e u' k false lin st v) cs bs → LeafB g2 w'.heap (.rt e u' k true lin false v) cs bs) → Inv g2 w0.heap w'.heap W → w'.os = w.os → Tp w' w → w'.output = w.output → g2.al = g1.al →
      hd2 = g2.H k → (strict = true → (hd2 = .slice none 0 0 ↔ v0 ++ y = [])) → SlR w'.heap e' u'.size (Rd w'.heap u') (v0 ++ y) hd2 b2 (bs' ++ bsw) →
      (∀ b, b2 = some b → g2.kd b = .mu k ∧ g2.own b = k ∧ ∃ c e3, w'.heap[b]? = some (.cells c e3 (0, 0))) → hd2.cells = #[hd2] →
      (Builtin.append_ ats ty #[va, vx]).run P w = .ok hd2 w' →
      ∃ g' v w', (Builtin.append_ ats ty #[va, vx]).run P w = .ok v w' ∧ g'.al = g.al ∧ St n w0 W g' (((absorbAll k ms env).map (oldE u' k)).put d (.val false [.rt e' u' k false (lin && ok) strict (v0 ++ y)])).get (a.put (some d) v) w' := by
    intro g2 hd2 w' b2 f1 f0 f2 f3 f4 f5 f6 f7 f8 f9 f10 f11 f12
    refine ⟨g2, hd2, w', f12, f6.trans ar.al, ?_⟩
    refine st1.putO hd f1 f0 f2 f3 f4 f5 hlk (LeafB.val1 (bs := b2.toList ++ (bs' ++ bsw)) ?_ f11 d)
    refine ⟨hd2, b2, bs' ++ bsw, rfl, rfl, fun _ => f7, f8, f9, fun b hb => ?_, f10, fun hlo => ⟨fun b hb => ?_, (nd hlo).2⟩⟩
    · have hbl : b < w.heap.size := by
        rcases List.mem_append.1 hb with q | q
        · exact hlt.2 b q
        · exact hltw b q
      rw [f1.kd b hbl]; exact fzs b (List.mem_append.1 hb)
    · have hbl : b < w.heap.size := by
        rcases List.mem_append.1 hb with q | q
        · exact hlt.2 b q
        · exact hltw b q
      rw [f1.own b hbl]; exact (nd hlo).1 b hb
  -- room or not
  have shape : ∃ base cap, va = .slice base v0.length cap ∧ (base = none → v0.length = 0 ∧ cap = 0) := by
    rcases c3 with ⟨p, q1, q2, _⟩ | ⟨b, o, cap, c, fr, q, _⟩
    · exact ⟨p, 0, by rw [q1, q2]; rfl, fun _ => ⟨by rw [q2]; rfl, rfl⟩⟩
    · exact ⟨_, cap, q, fun h => by cases h⟩
  obtain ⟨base, cap, hva2, hbase⟩ := shape
  by_cases hfit : v0.length + y.length ≤ cap
  · -- it fits
    let g2 : Gh := { g1 with H := fun t => if t = k then .slice base (v0.length + y.length) cap else g1.H t }
    have e2 : ∀ w' : World, w.heap.size ≤ w'.heap.size → (∀ b, b < w.heap.size → g1.kd b ≠ .mu k → w'.heap[b]? = w.heap[b]?) → ExtK k g1 w.heap g2 w'.heap := fun w' q1 q2 =>
      ⟨q1, q2, fun _ _ => rfl, fun _ _ => rfl, fun t ht => if_neg ht, rfl, rfl⟩
    by_cases hc0 : cap = 0
    · have z2 : cap = 0 := hc0
      have z3 : y = [] := List.eq_nil_of_length_eq_zero (by omega)
      have z4 : v0 = [] := List.eq_nil_of_length_eq_zero (by omega)
      have hb1 : bs' = [] := by
        rcases c3 with ⟨_, _, _, _, q⟩ | ⟨b, o, cap, c, fr, q, q2, q3, q4, q5, q6⟩
        · exact q
        · rw [z4] at q6; exact q6
      refine fin g2 (.slice base (v0.length + y.length) cap) w none (e2 w (Nat.le_refl _) fun _ _ _ => rfl) (fun e lin st v cs bs hl => by obtain ⟨h1, h2, h3, h4, h5, h6, h7, h8, h9⟩ := hl; exact ⟨h1, h2, h3, h4, h5, fun q => (by cases q), fun q => (by cases q), h8, h9⟩) ⟨st1.inv.size, st1.inv.old, st1.inv.kd, st1.inv.no, st1.inv.al, st1.inv.own, st1.inv.wr⟩ rfl ⟨rfl, Nat.le_refl _⟩ rfl rfl
        (by simp [g2]) (fun hst => ?_) ?_ (fun _ h => by cases h) rfl ?_
      · have := (c2 hst).2 z4
        rw [hva2] at this
        injection this with this
        subst this; subst z3; subst z4; subst z2; simp
      · subst z3; subst z4; subst z2
        have hb2 : bsw = [] := n3
        subst hb1; subst hb2
        exact .inl ⟨base, rfl, rfl, rfl, rfl⟩
      · subst z3
        refine rfit base cap w hva2 hfit ?_
        cases base with
        | none => rfl
        | some ad =>
          have hnews : news = [] := List.eq_nil_of_length_eq_zero (by simpa using n2)
          rw [hnews]; rfl
    cases base with
    | none => exact absurd (hbase rfl).2 hc0
    | some ad =>
      rcases c3 with ⟨_, q1, _⟩ | ⟨b, o, cap2, c, fr, q1, q2, q3, ⟨e4', q4⟩, q5, q6⟩
      · rw [hva2] at q1; injection q1 with _ _ q1; exact absurd q1 hc0
      · rw [hva2] at q1
        injection q1 with q1a q1b q1c
        injection q1a with q1a
        subst q1a; subst q1c; subst q2
        obtain ⟨m1, m2, c', e5', m3⟩ := c5 b rfl
        rw [q4] at m3; injection m3 with m3
        have hfr : fr = (0, 0) := by injection m3
        have hcc : c' = c := by injection m3 with m3; exact m3.symm
        subst hfr
        have m1' : g1.kd b = .mu k := ar.mu b k m1 hkms
        have m2' : g1.own b = k := by rw [ar.own' b (by rw [m2]; exact hkms)]; exact m2
        have hcap : (v0.length + y.length) * u'.size ≤ cap * u'.size := Nat.mul_le_mul_right _ hfit
        rw [Nat.add_mul] at hcap
        have hroom : o + v0.length * u'.size + news.length ≤ c.size := by omega
        have ones : ∀ z ∈ news, z.oneCell' = true := n3.cells1 (fun x cs b hx => hx.cells1) n2
        have hrun := run_storeCells_at (P := P) b (o + v0.length * u'.size) e4' news 0 c w q4 (by omega) ones
        simp only [Nat.add_zero] at hrun
        let X := (c.toList.take (o + v0.length * u'.size) ++ news ++ c.toList.drop (o + v0.length * u'.size + news.length)).toArray
        have hX : X = (splice c.toList (o + v0.length * u'.size) news).toArray := rfl
        have hXs : X.size = c.size := by rw [hX]; have := splice_length c.toList (o + v0.length * u'.size) news (by simpa using hroom); simpa using this
        have hb' : (w.setRow b X).heap[b]? = some (.cells X e4' (0, 0)) := setRow_heap w b c X e4' (0, 0) q4
        have hoth : ∀ z, z ≠ b → (w.setRow b X).heap[z]? = w.heap[z]? := fun z hz => setRow_other w b z X hz
        have hsz : (w.setRow b X).heap.size = w.heap.size := by simp [World.setRow]
        have hin : b < w.heap.size ∧ (w0.heap.size ≤ b ∨ W b) := by
          rcases st1.inv.kd b with q | q | q
          · rw [m1'] at q; cases q
          · rw [m1'] at q; cases q
          · exact q
        have fitOld : ∀ {e : TypeId} {lin st : Bool} {v : List u'.den} {cs : List Value} {bs : List Nat}, LeafB g1 w.heap (.rt e u' k false lin st v) cs bs → LeafB g2 (w.setRow b X).heap (.rt e u' k true lin false v) cs bs := by
          rintro e lin st v cs bs ⟨hd, blk, bs2, rfl, rfl, j1, _, j3, j4, j5, j6⟩
          have j1 := j1 rfl
          rw [ar.H, ← c1 rfl, hva2] at j1
          refine ⟨hd, blk, bs2, rfl, rfl, fun q => (by cases q), fun q => (by cases q), ?_, fun z hz => j4 z hz, fun z hz => ?_, j6⟩
          · rcases j3 with ⟨_, q, _⟩ | ⟨b3, o3, cap3, c3, fr3, r1, r2, r3, ⟨r4e, r4⟩, r5, r6⟩
            · rw [j1] at q; injection q with _ _ q; exact absurd q hc0
            · rw [j1] at r1; injection r1 with r1a r1b r1c
              injection r1a with r1a; injection r1a with r1a r1o
              subst r1a; subst r1o; subst r1c
              rw [q4] at r4
              injection r4 with r4; injection r4 with r4a r4b r4c
              subst r4a; subst r4b
              refine .inr ⟨b, o, cap, X, (0, 0), by rw [j1, r1b], r2, r3, ⟨_, hb'⟩, by rw [hXs]; exact r5, ?_⟩
              have := r6.take (cs' := X.toList.drop o) (fun j hj => by
                rw [hX, List.toList_toArray, List.getElem?_drop, splice_get _ _ _ (by simpa using hroom), if_neg (by rw [← r1b] at hj; omega), List.getElem?_drop])
              exact this.mono fun x cs bb hm hx => hx.frame fun z hz => hoth z (fun e => by subst e; have := j4 z (hm z hz); rw [m1'] at this; cases this)
          · obtain ⟨z1, z2, cz, ez, z3⟩ := j5 z hz
            have hzb : z = b := by
              rcases j3 with ⟨_, _, _, q, _⟩ | ⟨b3, o3, cap3, c3, fr3, r1, r2, _⟩
              · rw [hz] at q; cases q
              · rw [j1] at r1; injection r1 with r1a; injection r1a with r1a; injection r1a with r1a
                rw [hz] at r2; injection r2 with r2; rw [r2, r1a]
            subst hzb
            rw [q4] at z3; injection z3 with z3; injection z3 with z3a z3b
            exact ⟨z1, z2, X, _, hb'⟩
        refine fin g2 (.slice (some ⟨b, o, none⟩) (v0.length + y.length) cap) (w.setRow b X) (some b)
          (e2 _ (by rw [hsz]; exact Nat.le_refl _) fun z _ hz => hoth z (fun e => by subst e; exact hz m1')) (fun e lin st v cs bs hl => fitOld hl) ⟨by rw [hsz]; exact st1.inv.size, fun z hz hw => ?_, fun z => by rw [hsz]; exact st1.inv.kd z, st1.inv.no, st1.inv.al, fun z hz => by rw [hsz]; exact st1.inv.own z hz, fun z hz => ?_⟩ rfl ⟨rfl, Nat.le_refl _⟩ rfl rfl
          (by simp [g2]) (fun hst => ?_) ?_ (fun z hz => ?_) rfl ?_
        · have : z ≠ b := by
            intro q; subst q
            rcases hin.2 with q | q
            · omega
            · exact hw q
          rw [hoth z this]; exact st1.inv.old z hz hw
        · by_cases q : z = b
          · subst q; exact ⟨X, _, hb'⟩
          · rw [hoth z q]; exact st1.inv.wr z hz
        · constructor
          · intro q; cases q
          · intro q
            have := (c2 hst).2 (List.append_eq_nil_iff.1 q).1
            rw [hva2] at this; cases this
        · refine .inr ⟨b, o, cap, X, (0, 0), by simp, rfl, ⟨by simpa using hfit, by omega⟩, ⟨_, hb'⟩, by rw [hXs]; exact q5, ?_⟩
          have old : RdL (Rd w.heap u') u'.size v0 ((c.toList.drop o).take (v0.length * u'.size)) bs' := q6.take fun j hj => by rw [List.getElem?_take_of_lt hj]
          have olen : ((c.toList.drop o).take (v0.length * u'.size)).length = v0.length * u'.size := by simp; omega
          refine join_rd old n3 olen (fun j hj => ?_) (fun z hz => hoth z (fun e => by subst e; rw [fzs z hz] at m1'; cases m1'))
          rw [Nat.add_mul] at hj
          rw [hX, List.toList_toArray, List.getElem?_drop, splice_get _ _ _ (by simpa using hroom)]
          by_cases hjj : j < v0.length * u'.size
          · rw [if_neg (by omega), List.getElem?_append_left (by omega), List.getElem?_take_of_lt hjj, List.getElem?_drop]
          · rw [if_pos (by omega), List.getElem?_append_right (by omega), olen]
            congr 1; omega
        · injection hz with hz; subst hz
          exact ⟨m1', m2', X, _, hb'⟩
        · exact rfit _ _ _ hva2 hfit (by show (storeCells ((⟨b, o, none⟩ : Addr).add (v0.length * u'.size)) news).run P w = _; rw [addr_add]; exact hrun)
  · -- it grows
    obtain ⟨old, o1, o2, o3⟩ := first_of (P := P) c3
    rw [hva2] at o1
    obtain ⟨cap', rest, w', r1, r2, r3, r4, r5, r6, r7⟩ := rgrow base cap old hva2 hfit (fun w' hw' => (o1 w' hw').2)
    let g2 : Gh := { g1 with kd := fun b => if b = w.heap.size then .mu k else g1.kd b, own := fun b => if b = w.heap.size then k else g1.own b, H := fun t => if t = k then .slice (some ⟨w.heap.size, 0, none⟩) (v0.length + y.length) cap' else g1.H t }
    have hnew : w'.heap[w.heap.size]? = some (.cells (old ++ news ++ rest).toArray e' (0, 0)) := by rw [r2]; simp
    have hold : ∀ b, b < w.heap.size → w'.heap[b]? = w.heap[b]? := fun b hb => by rw [r2, Array.getElem?_push, if_neg (by omega)]
    have hsz : w'.heap.size = w.heap.size + 1 := by rw [r2]; simp
    have growOld : ∀ {e : TypeId} {lin st : Bool} {v : List u'.den} {cs : List Value} {bs : List Nat}, LeafB g1 w.heap (.rt e u' k false lin st v) cs bs → LeafB g2 w'.heap (.rt e u' k true lin false v) cs bs := by
      intro e lin st v cs bs hl
      have hlt := hl.lt
      obtain ⟨hd, blk, bs2, rfl, rfl, _, _, j3, j4, j5, j6⟩ := hl
      have lt1 : ∀ z, blk = some z → z < w.heap.size := fun z hz => hlt z (by simp [hz])
      have lt2 : ∀ z ∈ bs2, z < w.heap.size := fun z hz => hlt z (List.mem_append_right _ hz)
      refine ⟨hd, blk, bs2, rfl, rfl, fun q => (by cases q), fun q => (by cases q), j3.frame (fun z hz => hold z (lt2 z hz)) (fun z hz => hold z (lt1 z hz)), fun z hz => ?_, fun z hz => ?_, fun q => ⟨fun z hz => ?_, (j6 q).2⟩⟩
      · show (if z = w.heap.size then _ else _) = _
        rw [if_neg (by have := lt2 z hz; omega)]; exact j4 z hz
      · obtain ⟨z1, z2, cz, ez, z3⟩ := j5 z hz
        have := lt1 z hz
        exact ⟨by show (if z = w.heap.size then _ else _) = _; rw [if_neg (by omega)]; exact z1, by show (if z = w.heap.size then _ else _) = _; rw [if_neg (by omega)]; exact z2, cz, ez, by rw [hold z this]; exact z3⟩
      · show (if z = w.heap.size then _ else _) = _
        rw [if_neg (by have := lt2 z hz; omega)]; exact (j6 q).1 z hz
    refine fin g2 (.slice (some ⟨w.heap.size, 0, none⟩) (v0.length + y.length) cap') w' (some w.heap.size)
      ⟨by omega, fun b hb _ => hold b hb, fun b hb => if_neg (by omega), fun b hb => if_neg (by omega), fun t ht => if_neg ht, rfl, rfl⟩ (fun e lin st v cs bs hl => growOld hl)
      ⟨by have := st1.inv.size; omega, fun b hb hw => by rw [hold b (by have := st1.inv.size; omega)]; exact st1.inv.old b hb hw, fun b => ?_, fun b hb => ?_, fun b hb => ?_, fun b hb => ?_, fun b hb => ?_⟩ r3 r4 r5 rfl
      (by simp [g2]) (fun _ => ⟨fun q => (by cases q), fun q => ?_⟩) (.inr ⟨w.heap.size, 0, cap', (old ++ news ++ rest).toArray, (0, 0), by simp, rfl, ⟨by simpa using r6, by omega⟩, ⟨_, hnew⟩, ?_, ?_⟩) (fun b hb => ?_) rfl r1
    · by_cases e : b = w.heap.size
      · subst e; exact .inr (.inr ⟨by omega, .inl st1.inv.size⟩)
      · simp only [g2, if_neg e]
        rcases st1.inv.kd b with q | q | q
        · exact .inl q
        · exact .inr (.inl q)
        · exact .inr (.inr ⟨by omega, q.2⟩)
    · by_cases e : b = w.heap.size
      · subst e; simp [g2] at hb
      · simp only [g2, if_neg e] at hb; exact st1.inv.no b hb
    · by_cases e : b = w.heap.size
      · subst e; simp [g2] at hb
      · simp only [g2, if_neg e] at hb; exact st1.inv.al b hb
    · by_cases e : b = w.heap.size
      · subst e; exact ⟨by omega, .inl st1.inv.size⟩
      · simp only [g2, if_neg e] at hb; have := st1.inv.own b hb; exact ⟨by omega, this.2⟩
    · by_cases e : b = w.heap.size
      · subst e; exact ⟨_, _, hnew⟩
      · simp only [g2, if_neg e] at hb
        have hlt := (st1.inv.own b hb).1
        rw [hold b hlt]; exact st1.inv.wr b hb
    · have : v0.length + y.length = 0 := by rw [← List.length_append, q]; rfl
      omega
    · have e1 : (old ++ news ++ rest).toArray.size = cap' * u'.size := by
        simp only [List.size_toArray, List.length_append, o2, n2, r7]
        rw [← Nat.add_mul, ← Nat.add_mul]; congr 1; omega
      omega
    · refine join_rd o3 n3 o2 (fun j hj => ?_) (fun z hz => hold z (by rcases hz with q | q; exact hlt.2 z q; exact hltw z q))
      simp only [List.drop_zero]
      rw [List.getElem?_append_left (by rw [Nat.add_mul] at hj; simp only [List.length_append]; omega)]
    · injection hb with hb; subst hb
      exact ⟨if_pos rfl, if_pos rfl, _, _, hnew⟩
theorem append_sound {t ty el : TypeId} {u : Ty} {s x : Operand} {es ex : Ent} {env env' : Env} (hT : TOK P T) (k0 : TyOK P T t (.slice el u)) (hwal : ∀ b, W b → g.al b) (st : St n w0 W g env.get a w) (hd : n.has d)
    (hs : opE env.get s = some es) (hx : opE env.get x = some ex) (h : appendE el u d es ex env = some (true, env')) :
    ∃ g' v w', (Builtin.append_ #[t, t] ty #[a.eval s, a.eval x]).run P w = .ok v w' ∧ g'.al = g.al ∧ St n w0 W g' env'.get (a.put (some d) v) w' := by
  obtain ⟨s1, he1, _⟩ := opE_sound st.ent hs
  obtain ⟨s2, he2, _⟩ := opE_sound st.ent hx
  unfold appendE at h
  split at h
  · rename_i l
    split at h
    · rename_i e' u' k lin strict v0
      cases hq : (Ty.slice e' u').eqb (.slice el u) with
      | false => rw [hq] at h; cases h
      | true =>
        rw [hq] at h; simp only [cond_true] at h
        have hq := eqb_eq hq
        injection hq with q1 q2; subst q1; subst q2
        split at h
        · rename_i v ls y hv hsrc
          obtain ⟨ee, hv⟩ := Ty.cast_eq hv
          have hv : v0 = v := hv
          subst hv
          split at h
          · rename_i ms ok htake
            cases hok : okTags k ms env with
            | false => rw [hok] at h; cases h
            | true =>
              rw [hok] at h; simp only [cond_true, Option.some.injEq, Prod.mk.injEq] at h
              obtain ⟨hgrow, henv⟩ := h
              obtain ⟨cs, bsx, blkx, bsw, x1, x2, x3⟩ := src_sound he2 hsrc
              -- what the new elements lead to
              have take : (∀ b ∈ bsw, g.kd b = .fz ∨ ∃ m ∈ ms, g.kd b = .mu m) ∧ (ok = true → bsw.Nodup ∧ ∀ b ∈ bsw, g.own b ∈ ms) := by
                cases hf : u'.flat with
                | true =>
                  rw [hf] at htake; simp only [cond_true, Option.some.injEq, Prod.mk.injEq] at htake
                  have : bsw = [] := by
                    rcases x2 with ⟨_, _, _, _, q⟩ | ⟨_, _, _, _, _, _, _, _, _, _, q⟩
                    · exact q
                    · exact q.flat fun x cs b hx => hx.flat hf
                  subst this; exact ⟨by simp, fun _ => ⟨by simp, by simp⟩⟩
                | false =>
                  rw [hf] at htake
                  obtain ⟨q1, q2⟩ := takeIn_sound x1 htake
                  exact ⟨fun b hb => q1 b (x3.subset hb), fun hh => ⟨(q2 hh).1.sublist x3, fun b hb => ((q2 hh).2 b (x3.subset hb)).1⟩⟩
              obtain ⟨take1, take2⟩ := take
              have hgr : v0.length + y.length ≤ 1099511627776 := by simpa [growOk] using hgrow
              generalize a.eval x = vx at x2 ⊢
              obtain ⟨news, n1, n2, n3⟩ := first_of (P := P) x2
              rw [← henv]
              refine append_core (P := P) (ty := ty) hwal st hd he1 hok take1 take2 x2.lt.2 n2 n3 (fun base cap w' hva hfit hst => ?_) (fun base cap old hva hfit ho => ?_)
              · rw [hva]
                exact run_append_fit (w := w) k0 hT (n1 w rfl).1 (n1 w rfl).2 hfit hst
              · rw [hva]
                exact run_append_grow (w := w) (ty := ty) k0 hT (n1 w rfl).1 (fun w' hw' => (n1 w' hw').2) hfit ho hgr
          · cases h
        · cases h
    · cases h
  · cases h
theorem appendM_sound {t ty ti el : TypeId} {u : Ty} {kk : IntKind} {s x : Operand} {es ex : Ent} {env env' : Env} (hT : TOK P T) (k0 : TyOK P T t (.slice el u)) (hti : P.underlying ti = some (.int kk)) (hwal : ∀ b, W b → g.al b) (st : St n w0 W g env.get a w) (hd : n.has d)
    (hs : opE env.get s = some es) (hx : opE env.get x = some ex) (h : appendME el u d es ex env = some (true, env')) :
    ∃ g' v w', (Builtin.append_ #[t, ti] ty #[a.eval s, a.eval x]).run P w = .ok v w' ∧ g'.al = g.al ∧ St n w0 W g' env'.get (a.put (some d) v) w' := by
  obtain ⟨s1, he1, -⟩ := opE_sound st.ent hs
  obtain ⟨s2, he2, -⟩ := opE_sound st.ent hx
  unfold appendME at h
  split at h
  · rename_i l
    split at h
    · rename_i e' u' k lin strict v0
      cases hq : (Ty.slice e' u').eqb (.slice el u) with
      | false => rw [hq] at h; cases h
      | true =>
        rw [hq] at h; simp only [cond_true] at h
        have hq := eqb_eq hq
        injection hq with q1 q2; subst q1; subst q2
        split at h
        · rename_i v ik m hv hm
          obtain ⟨ee, hv⟩ := Ty.cast_eq hv
          have hv : v0 = v := hv
          subst hv
          cases hok : okTags k [] env with
          | false => rw [hok] at h; cases h
          | true =>
            rw [hok] at h; simp only [cond_true, Option.some.injEq, Prod.mk.injEq, Bool.and_eq_true, decide_eq_true_eq] at h
            obtain ⟨⟨h0, hgrow⟩, henv⟩ := h
            have hgr : v0.length + m.toNat ≤ 1099511627776 := by simpa [growOk] using hgrow
            have hxv := (asI_inv he2 hm).1
            have hz : u'.size ≠ 0 := k0.und.2.2
            have hfl : ∀ (c : Nat), (List.replicate c (zc u')).flatten.length = c * u'.size := by
              intro c
              induction c with
              | zero => simp
              | succ c ih => simp [List.replicate_succ, zc_length, Nat.succ_mul]; simp at ih; omega
            have n3 : RdL (Rd w.heap u') u'.size (List.replicate m.toNat u'.dflt) (List.replicate m.toNat (zc u')).flatten [] := by
              have := RdL.replicate (zc_length u') (zero_rd w.heap u') m.toNat []
              simpa using this
            have key := append_core (P := P) (ty := ty) (ats := #[t, ti]) (vx := a.eval x) (ok := true) (ms := []) hwal st hd he1 hok (fun b hb => by cases hb) (fun _ => ⟨by simp, fun b hb => by cases hb⟩) (fun b hb => by cases hb)
              (by rw [hfl]; simp) n3 (fun base cap w' hva hfit hst => by
                rw [hva, hxv]
                simp only [List.length_replicate] at hfit hst ⊢
                exact run_appendM_fit (w := w) k0 hti hT (by omega) hfit hst (by omega)) (fun base cap old hva hfit ho => by
                rw [hva, hxv]
                simp only [List.length_replicate] at hfit ⊢
                exact run_appendM_grow (w := w) (ty := ty) k0 hti hT (by omega) hfit ho hgr (by omega))
            rw [← henv]
            simpa [absorbAll] using key
        · cases h
    · cases h
  · cases h
end
end Go.Proofs.YtmdpmnjnpnjppaaEv
