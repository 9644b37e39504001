/- laws.markPolyS: every polynomial is written, one behind the other. By hand. -/
import Derived.Test.YtkoifikjfnbcpaaEvNestC
import Derived.Test.YtkoifikjfnbcpaaEvSl
set_option linter.unusedVariables false
set_option linter.unusedSimpArgs false
namespace Go.Proofs.YtkoifikjfnbcpaaEv
open Go Go.RowKit Go.Proofs

abbrev polys : Ty := .slice 58 poly
abbrev R27h : Type := Ress [polys, i64]
abbrev G27h : Type := Args [.v polys, .v i64] → Option R27h
abbrev G70h : Type := Args [.v (.slice 135 term), .v i64] → Option (Ress [.slice 135 term, i64])
noncomputable def o27 (i : Nat) : Array Oper := match opsIn i (bodyOf Try.f27) with | some x => x | none => #[]
noncomputable def in27 : Code := .seq (.region 4 (o27 4) false) (.seq (.region 5 (o27 5) false) (.seq (.region 6 (o27 6) false) (.seq (.region 7 (o27 7) false) (.region 8 (o27 8) false))))
noncomputable def loop27 : Code := .seq (.seq (.region 2 (o27 2) false) (.cond (.tmp 9) .skip (.exit 0))) (.seq (.block 1 in27) (.region 3 (o27 3) false))
theorem sk27 : Try.f27.body = some (.seq (.region 0 (o27 0) false) (.seq (.seq (.region 1 (o27 1) false) (.block 0 (.loop loop27))) (.seq (.region 9 (o27 9) false) .ret))) := by kernel_rfl
theorem nt27 : Try.f27.ntmps = 34 := by kernel_rfl
theorem rs27 : Try.f27.results.toList = [.tmp 4] := by kernel_rfl
def wr1 (k : Int) : Int := IntKind.i64.wrap (k + 1)

def E27 (L : polys.den) (k : Int) (i : Int) : Env := [(0, .val false [.fz polys 0 true L]), (1, intE .i64 k), (5, intE .i64 i)]
theorem e27a (L : polys.den) (k : Int) : evL TT [] [] [] (.region 0 (o27 0) false) (initEnv 0 [.v polys, .v i64] (L, k, ())) (fun e => some (keepK [0, 1] e)) (fun _ _ => none) (fun _ => none) =
    some [(0, .val false [.fz polys 0 true L]), (1, intE .i64 k)] := by kernel_rfl
theorem e27b (L : polys.den) (k : Int) : evL TT [] [] [] (.region 1 (o27 1) false) [(0, .val false [.fz polys 0 true L]), (1, intE .i64 k)] (fun e => some (keepK [0, 1, 5] e)) (fun _ _ => none) (fun _ => none) =
    some (E27 L k 0) := by kernel_rfl
theorem e27c (L : polys.den) (k i : Int) : evL TT [] [] [] (.region 2 (o27 2) false) (E27 L k i) (fun e => some (keepK [0, 1, 5, 9] e)) (fun _ _ => none) (fun _ => none) =
    bif decide (L.length ≤ 9223372036854775807) then some (E27 L k i ++ [(9, boolE (decide (i < Int.ofNat L.length)))]) else none := by kernel_rfl
theorem e27d (L : polys.den) (k i : Int) : evL TT [] [] [] (.region 3 (o27 3) false) (E27 L k i) (fun e => some (keepK [0, 1, 5] e)) (fun _ _ => none) (fun _ => none) =
    some (E27 L k (IntKind.i64.wrap (i + 1))) := by kernel_rfl
theorem e27f (L : polys.den) (k i : Int) : evL TT [] [] [] (.region 5 (o27 5) false) (E27 L k i) (fun e => some (keepK [0, 1, 5] e)) (fun _ _ => none) (fun _ => none) =
    some (E27 L (wr1 k) i) := by kernel_rfl
theorem e27g (L : polys.den) (k i : Int) : evL TT [] [] [] (.region 7 (o27 7) false) (E27 L k i) (fun e => some (keepK [0, 1, 5] e)) (fun _ _ => none) (fun _ => none) =
    some (E27 L (wr1 k) i) := by kernel_rfl
theorem e27e (L : polys.den) (k i : Int) : evL TT [] [] [] (.region 9 (o27 9) false) (E27 L k i) (fun e => some (keepK [0, 1, 4] e)) (fun _ _ => none) (fun _ => none) =
    some [(0, .val false [.fz polys 0 true L]), (1, intE .i64 k), (4, intE .i64 k)] := by kernel_rfl
theorem oc27 (i : Nat) (hi : i = 0 ∨ i = 1 ∨ i = 2 ∨ i = 3 ∨ i = 5 ∨ i = 7 ∨ i = 9) (v0 : Value) : okCode ⟨34, true, v0⟩ (.region i (o27 i) false) = true := by
  rcases hi with rfl | rfl | rfl | rfl | rfl | rfl | rfl <;> kernel_rfl
theorem rg27_4 : List.range (o27 4).size = [0, 1, 2, 3, 4, 5] := by kernel_rfl
theorem q27_4_0 : ∃ o, (o27 4)[0]? = some o ∧ o.op = .move (.tmp 0) ∧ o.dst = some 12 ∧ o.guard = none := ⟨((o27 4)[0]?).get (by kernel_rfl), (Option.some_get _).symm, by kernel_rfl, by kernel_rfl, by kernel_rfl⟩
theorem q27_4_1 : ∃ o, (o27 4)[1]? = some o ∧ o.op = .move (.tmp 5) ∧ o.dst = some 13 ∧ o.guard = none := ⟨((o27 4)[1]?).get (by kernel_rfl), (Option.some_get _).symm, by kernel_rfl, by kernel_rfl, by kernel_rfl⟩
theorem q27_4_2 : ∃ o, (o27 4)[2]? = some o ∧ o.op = .move (.tmp 1) ∧ o.dst = some 14 ∧ o.guard = none := ⟨((o27 4)[2]?).get (by kernel_rfl), (Option.some_get _).symm, by kernel_rfl, by kernel_rfl, by kernel_rfl⟩
theorem q27_4_3 : ∃ o, (o27 4)[3]? = some o ∧ o.op = .indexAddr 37 (.tmp 12) (.tmp 13) ∧ o.dst = some 15 ∧ o.guard = none := ⟨((o27 4)[3]?).get (by kernel_rfl), (Option.some_get _).symm, by kernel_rfl, by kernel_rfl, by kernel_rfl⟩
theorem q27_4_4 : ∃ o, (o27 4)[4]? = some o ∧ o.op = .fieldAddr 58 (.tmp 15) 0 ∧ o.dst = some 16 ∧ o.guard = none := ⟨((o27 4)[4]?).get (by kernel_rfl), (Option.some_get _).symm, by kernel_rfl, by kernel_rfl, by kernel_rfl⟩
theorem q27_4_5 : ∃ o, (o27 4)[5]? = some o ∧ o.op = .store 2 (.tmp 16) (.tmp 14) ∧ o.dst = none ∧ o.guard = none := ⟨((o27 4)[5]?).get (by kernel_rfl), (Option.some_get _).symm, by kernel_rfl, by kernel_rfl, by kernel_rfl⟩
theorem rg27_6 : List.range (o27 6).size = [0, 1, 2, 3, 4, 5] := by kernel_rfl
theorem q27_6_0 : ∃ o, (o27 6)[0]? = some o ∧ o.op = .move (.tmp 0) ∧ o.dst = some 19 ∧ o.guard = none := ⟨((o27 6)[0]?).get (by kernel_rfl), (Option.some_get _).symm, by kernel_rfl, by kernel_rfl, by kernel_rfl⟩
theorem q27_6_1 : ∃ o, (o27 6)[1]? = some o ∧ o.op = .move (.tmp 5) ∧ o.dst = some 20 ∧ o.guard = none := ⟨((o27 6)[1]?).get (by kernel_rfl), (Option.some_get _).symm, by kernel_rfl, by kernel_rfl, by kernel_rfl⟩
theorem q27_6_2 : ∃ o, (o27 6)[2]? = some o ∧ o.op = .move (.tmp 1) ∧ o.dst = some 21 ∧ o.guard = none := ⟨((o27 6)[2]?).get (by kernel_rfl), (Option.some_get _).symm, by kernel_rfl, by kernel_rfl, by kernel_rfl⟩
theorem q27_6_3 : ∃ o, (o27 6)[3]? = some o ∧ o.op = .indexAddr 37 (.tmp 19) (.tmp 20) ∧ o.dst = some 22 ∧ o.guard = none := ⟨((o27 6)[3]?).get (by kernel_rfl), (Option.some_get _).symm, by kernel_rfl, by kernel_rfl, by kernel_rfl⟩
theorem q27_6_4 : ∃ o, (o27 6)[4]? = some o ∧ o.op = .fieldAddr 58 (.tmp 22) 1 ∧ o.dst = some 23 ∧ o.guard = none := ⟨((o27 6)[4]?).get (by kernel_rfl), (Option.some_get _).symm, by kernel_rfl, by kernel_rfl, by kernel_rfl⟩
theorem q27_6_5 : ∃ o, (o27 6)[5]? = some o ∧ o.op = .store 2 (.tmp 23) (.tmp 21) ∧ o.dst = none ∧ o.guard = none := ⟨((o27 6)[5]?).get (by kernel_rfl), (Option.some_get _).symm, by kernel_rfl, by kernel_rfl, by kernel_rfl⟩
theorem rg27_8 : List.range (o27 8).size = [0, 1, 2, 3, 4, 5, 6, 7] := by kernel_rfl
theorem q27_8_0 : ∃ o, (o27 8)[0]? = some o ∧ o.op = .move (.tmp 0) ∧ o.dst = some 26 ∧ o.guard = none := ⟨((o27 8)[0]?).get (by kernel_rfl), (Option.some_get _).symm, by kernel_rfl, by kernel_rfl, by kernel_rfl⟩
theorem q27_8_1 : ∃ o, (o27 8)[1]? = some o ∧ o.op = .move (.tmp 5) ∧ o.dst = some 27 ∧ o.guard = none := ⟨((o27 8)[1]?).get (by kernel_rfl), (Option.some_get _).symm, by kernel_rfl, by kernel_rfl, by kernel_rfl⟩
theorem q27_8_2 : ∃ o, (o27 8)[2]? = some o ∧ o.op = .indexAddr 37 (.tmp 26) (.tmp 27) ∧ o.dst = some 28 ∧ o.guard = none := ⟨((o27 8)[2]?).get (by kernel_rfl), (Option.some_get _).symm, by kernel_rfl, by kernel_rfl, by kernel_rfl⟩
theorem q27_8_3 : ∃ o, (o27 8)[3]? = some o ∧ o.op = .fieldAddr 58 (.tmp 28) 2 ∧ o.dst = some 29 ∧ o.guard = none := ⟨((o27 8)[3]?).get (by kernel_rfl), (Option.some_get _).symm, by kernel_rfl, by kernel_rfl, by kernel_rfl⟩
theorem q27_8_4 : ∃ o, (o27 8)[4]? = some o ∧ o.op = .load 56 (.tmp 29) ∧ o.dst = some 30 ∧ o.guard = none := ⟨((o27 8)[4]?).get (by kernel_rfl), (Option.some_get _).symm, by kernel_rfl, by kernel_rfl, by kernel_rfl⟩
theorem q27_8_5 : ∃ o, (o27 8)[5]? = some o ∧ o.op = .move (.tmp 1) ∧ o.dst = some 31 ∧ o.guard = none := ⟨((o27 8)[5]?).get (by kernel_rfl), (Option.some_get _).symm, by kernel_rfl, by kernel_rfl, by kernel_rfl⟩
theorem q27_8_7 : ∃ o, (o27 8)[7]? = some o ∧ o.op = .assign (.tmp 32) ∧ o.dst = some 1 ∧ o.guard = none := ⟨((o27 8)[7]?).get (by kernel_rfl), (Option.some_get _).symm, by kernel_rfl, by kernel_rfl, by kernel_rfl⟩
noncomputable def o27_6 : Oper := ((o27 8)[6]?).get (by kernel_rfl)
noncomputable def c27_6 : Call := (callOf o27_6).get (by kernel_rfl)
noncomputable def z27_6 : Operand := (valOf c27_6.callee).get (by kernel_rfl)
theorem q27_8_6 : ∃ o c z, (o27 8)[6]? = some o ∧ o.op = .call c ∧ c.callee = .value z ∧ isF 70 z = true ∧ c.args.toList = [.tmp 30, .tmp 31] ∧ o.dst = some 32 ∧ o.guard = none :=
  ⟨o27_6, c27_6, z27_6, (Option.some_get _).symm, by kernel_rfl, by kernel_rfl, by kernel_rfl, by kernel_rfl, by kernel_rfl, by kernel_rfl⟩

/-- A polynomial's cells. -/
theorem rdPoly {h : Mem} {x : poly.den} {cs : List Value} {be : List Nat} : Rd h poly x cs be ↔ ∃ hdT, cs = [.int .i64 x.1, .int .i64 x.2.1, hdT] ∧ (Lit.int .i64 x.1).wf = true ∧ (Lit.int .i64 x.2.1).wf = true ∧ Rd h (.slice 135 term) x.2.2.1 [hdT] be := by
  constructor
  · intro hr
    have hl : cs.length = 3 := hr.length
    match cs, hl, hr with
    | [a, b, c], _, hr =>
      obtain ⟨b1, b2, ⟨p1, p2, p3⟩, ⟨b3, b4, ⟨q1, q2, q3⟩, ⟨b5, b6, r1, ⟨r2, r3⟩, r4⟩, q4⟩, p4⟩ := hr
      subst p3; subst q3; subst r3; subst r4; subst q4; subst p4
      have p1 : [a] = [Value.int .i64 x.1] := p1
      have q1 : [b] = [Value.int .i64 x.2.1] := q1
      injection p1 with p1 _
      injection q1 with q1 _
      refine ⟨c, by rw [p1, q1], p2, q2, ?_⟩
      simp only [List.nil_append, List.append_nil]
      exact r1
  · rintro ⟨c, rfl, h1, h2, h3⟩
    exact ⟨[], be, ⟨rfl, h1, rfl⟩, ⟨[], be, ⟨rfl, h2, rfl⟩, ⟨be, [], h3, ⟨rfl, rfl⟩, by simp⟩, rfl⟩, rfl⟩

def setF (j : Nat) (x : poly.den) (k : Int) : poly.den := if j = 0 then (k, x.2) else (x.1, k, x.2.2)

section
variable {w0 : World} {ba : List Nat} {hd : Value} {g : G70h} {N : Nat} {y : List poly.den × Int}

theorem Nst.wrInt {w : World} {pre suf : List poly.den} {x : poly.den} {k : Int} {j : Nat} (hj : j = 0 ∨ j = 1) (h : Nst w0 ba 58 poly hd (pre ++ x :: suf) w) (wk : (Lit.int .i64 k).wf = true) :
    ∃ b o cap c e', hd = .slice (some ⟨b, o, none⟩) (pre ++ x :: suf).length cap ∧ w.heap[b]? = some (.cells c e' (0, 0)) ∧ o + pre.length * 3 + 3 ≤ c.size ∧
      Nst w0 ba 58 poly hd (pre ++ setF j x k :: suf) (w.setRow b (splice c.toList (o + pre.length * 3 + j) [.int .i64 k]).toArray) := by
  obtain ⟨b, o, cap, c, e', be, r1, r2, r3, r4, r5, r6, r7, r8, fin⟩ := h.elem (by decide)
  have three : (poly).size = 3 := rfl
  rw [three] at r3 r4
  refine ⟨b, o, cap, c, e', r1, r2, r3, ?_⟩
  have hin : o + pre.length * 3 + j + [Value.int .i64 k].length ≤ c.toList.length := by simp; omega
  have hsl := splice_length c.toList (o + pre.length * 3 + j) [.int .i64 k] hin
  have hsg := splice_get c.toList (o + pre.length * 3 + j) [.int .i64 k] hin
  have hb' := setRow_heap w b c (splice c.toList (o + pre.length * 3 + j) [.int .i64 k]).toArray e' (0, 0) r2
  have hoth : ∀ z, z ≠ b → (w.setRow b (splice c.toList (o + pre.length * 3 + j) [.int .i64 k]).toArray).heap[z]? = w.heap[z]? := fun z hz => setRow_other w b z _ hz
  have ltb : ∀ z ∈ be, z ≠ b := fun z hz q => r7 (q ▸ hz)
  refine fin _ (setF j x k) _ be hb' (by simpa using hsl) (fun i hi => ?_) ?_ r5 (fun z hz => hz) rfl ⟨rfl, Nat.le_refl _⟩ rfl (by simp [World.setRow]) (fun z _ _ hz => hoth z hz) (fun z hz => by rw [hoth z (ltb z hz)]; exact h.wr z (r6 z hz))
  · rw [three] at hi
    rw [List.getElem?_toArray, hsg, if_neg (by simp; omega), Array.getElem?_toList]
  · rw [three]
    obtain ⟨hdT, c1, c2, c3, c4⟩ := rdPoly.1 r4
    have at_ : ∀ i, i < 3 → c[o + pre.length * 3 + i]? = ([Value.int .i64 x.1, Value.int .i64 x.2.1, hdT] : List Value)[i]? := fun i hi => by
      rw [← c1, List.getElem?_take_of_lt hi, List.getElem?_drop, Array.getElem?_toList]
    have c4' : Rd (w.setRow b (splice c.toList (o + pre.length * 3 + j) [.int .i64 k]).toArray).heap (.slice 135 term) x.2.2.1 [hdT] be := c4.frame fun z hz => hoth z (ltb z hz)
    have cells : ((splice c.toList (o + pre.length * 3 + j) [.int .i64 k]).toArray.toList.drop (o + pre.length * 3)).take 3 = [.int .i64 (setF j x k).1, .int .i64 (setF j x k).2.1, hdT] := by
      apply List.ext_getElem?
      intro i
      by_cases hi : i < 3
      · rw [List.getElem?_take_of_lt hi, List.getElem?_drop, List.toList_toArray, hsg]
        have a0 := at_ i hi
        rw [← Array.getElem?_toList] at a0
        rcases hj with rfl | rfl
        · match i, hi with
          | 0, _ => rw [if_pos (by simp only [List.length_singleton]; omega)]; simp [setF]
          | 1, _ => rw [if_neg (by simp only [List.length_singleton]; omega), a0]; simp [setF]
          | 2, _ => rw [if_neg (by simp only [List.length_singleton]; omega), a0]; simp [setF]
        · match i, hi with
          | 0, _ => rw [if_neg (by simp only [List.length_singleton]; omega), a0]; simp [setF]
          | 1, _ => rw [if_pos (by simp only [List.length_singleton]; omega)]; simp [setF]
          | 2, _ => rw [if_neg (by simp only [List.length_singleton]; omega), a0]; simp [setF]
      · rw [List.getElem?_eq_none (by simp; omega), List.getElem?_eq_none (by simp; omega)]
    refine rdPoly.2 ⟨hdT, cells, ?_, ?_, ?_⟩
    · rcases hj with rfl | rfl
      · exact wk
      · exact c2
    · rcases hj with rfl | rfl
      · exact c3
      · exact wk
    · rcases hj with rfl | rfl <;> exact c4'

theorem run_storeI {w : World} {b o : Nat} {c : Array Value} {e : TypeId} {k : Int} (hb : w.heap[b]? = some (.cells c e (0, 0))) (ho : o < c.size) :
    (Instr.storeAt 2 (.pointer (some ⟨b, o, none⟩)) (.int .i64 k)).run Try.prog w = .ok () (w.setRow b (splice c.toList o [.int .i64 k]).toArray) :=
  run_storeVar (tt_ok 2 i64 (by kernel_rfl)) hb rfl (fun u hu => by simp [Value.cells] at hu; subst hu; rfl) ho
theorem reg27_4 {a : Act} {w : World} {pre suf : List poly.den} {x : poly.den} {k : Int} {f : Nat → Value} {Q : Exit → Act → World → Prop} (hA : AtV 34 f a) (f0 : f 0 = hd) (f1 : f 1 = .int .i64 k) (f5 : f 5 = .int .i64 pre.length) (wk : (Lit.int .i64 k).wf = true)
    (h : Nst w0 ba 58 poly hd (pre ++ x :: suf) w) (hQ : ∀ a' w' f', AtV 34 f' a' → f' 0 = hd → f' 1 = .int .i64 k → f' 5 = .int .i64 pre.length → Nst w0 ba 58 poly hd (pre ++ setF 0 x k :: suf) w' → Q .normal a' w') : (Code.region 4 (o27 4) false).wp Try.prog Q a w := by
  obtain ⟨b, o, cap, c, e', r1, r2, r3, n2⟩ := h.wrInt (j := 0) (by simp) wk
  refine wp_region ?_
  rw [rg27_4]
  obtain ⟨o0, o0a, o0b, o0c, o0d⟩ := q27_4_0
  obtain ⟨o1, o1a, o1b, o1c, o1d⟩ := q27_4_1
  obtain ⟨o2, o2a, o2b, o2c, o2d⟩ := q27_4_2
  obtain ⟨o3, o3a, o3b, o3c, o3d⟩ := q27_4_3
  obtain ⟨o4, o4a, o4b, o4c, o4d⟩ := q27_4_4
  obtain ⟨o5, o5a, o5b, o5c, o5d⟩ := q27_4_5
  refine wpOps_cons o0a o0d (upon_val (v := hd) (w' := w) (by simp only [execOp, o0b, show a.eval (.tmp 0) = hd from hA.ev.trans f0, Sem.run_pure]) ?_)
  rw [o0c]
  have p1 := hA.put (d := 12) (by omega) hd
  generalize a.put (some 12) hd = a2 at p1 ⊢
  refine wpOps_cons o1a o1d (upon_val (v := .int .i64 pre.length) (w' := w) (by simp only [execOp, o1b, show a2.eval (.tmp 5) = .int .i64 pre.length from p1.ev.trans f5, Sem.run_pure]) ?_)
  rw [o1c]
  have p2 := p1.put (d := 13) (by omega) (.int .i64 pre.length)
  generalize a2.put (some 13) (.int .i64 pre.length) = a3 at p2 ⊢
  refine wpOps_cons o2a o2d (upon_val (v := .int .i64 k) (w' := w) (by simp only [execOp, o2b, show a3.eval (.tmp 1) = .int .i64 k from p2.ev.trans f1, Sem.run_pure]) ?_)
  rw [o2c]
  have p3 := p2.put (d := 14) (by omega) (.int .i64 k)
  generalize a3.put (some 14) (.int .i64 k) = a4 at p3 ⊢
  have ri := run_indexS (P := Try.prog) tt_ok (tt_ok 37 polys (by kernel_rfl)) (w := w) (b := b) (o := o) (m := (pre ++ x :: suf).length) (cap := cap) (kk := .i64) (i := pre.length) (by simp)
  rw [show (poly).size = 3 from rfl, ← r1] at ri
  refine wpOps_cons o3a o3d (upon_val (v := .pointer (some ⟨b, o + pre.length * 3, none⟩)) (w' := w) (by
    simp only [execOp, o3b, show a4.eval (.tmp 12) = hd from p3.ev, show a4.eval (.tmp 13) = .int .i64 pre.length from p3.ev, Sem.run_bind, ri, Result.andThen_ok, Sem.run_pure]) ?_)
  rw [o3c]
  have p4 := p3.put (d := 15) (by omega) (.pointer (some ⟨b, o + pre.length * 3, none⟩))
  generalize a4.put (some 15) (.pointer (some ⟨b, o + pre.length * 3, none⟩)) = a5 at p4 ⊢
  have rf := run_fieldAt (P := Try.prog) (w := w) (b := b) (o := o + pre.length * 3) (j := 0) (u := i64) tt_ok (tt_ok 58 poly (by kernel_rfl)) rfl rfl
  rw [show poff poly [.fld 0] = 0 from rfl] at rf
  refine wpOps_cons o4a o4d (upon_val (v := .pointer (some ⟨b, o + pre.length * 3 + 0, none⟩)) (w' := w) (by
    simp only [execOp, o4b, show a5.eval (.tmp 15) = .pointer (some ⟨b, o + pre.length * 3, none⟩) from p4.ev, Sem.run_bind, rf, Result.andThen_ok, Sem.run_pure]) ?_)
  rw [o4c]
  have p5 := p4.put (d := 16) (by omega) (.pointer (some ⟨b, o + pre.length * 3 + 0, none⟩))
  generalize a5.put (some 16) (.pointer (some ⟨b, o + pre.length * 3 + 0, none⟩)) = a6 at p5 ⊢
  have rs := run_storeI (w := w) (b := b) (o := o + pre.length * 3 + 0) (k := k) r2 (by omega)
  refine wpOps_cons o5a o5d (upon_skip (w' := w.setRow b (splice c.toList (o + pre.length * 3 + 0) [.int .i64 k]).toArray) (by
    simp only [execOp, o5b, show a6.eval (.tmp 16) = .pointer (some ⟨b, o + pre.length * 3 + 0, none⟩) from p5.ev, show a6.eval (.tmp 14) = .int .i64 k from p5.ev, Sem.run_bind, rs, Result.andThen_ok, Sem.run_pure]) ?_)
  rw [o5c]
  exact hQ a6 _ _ p5 (show _ = hd from f0) (show _ = Value.int .i64 k from f1) (show _ = Value.int .i64 (pre.length : Int) from f5) n2
theorem reg27_6 {a : Act} {w : World} {pre suf : List poly.den} {x : poly.den} {k : Int} {f : Nat → Value} {Q : Exit → Act → World → Prop} (hA : AtV 34 f a) (f0 : f 0 = hd) (f1 : f 1 = .int .i64 k) (f5 : f 5 = .int .i64 pre.length) (wk : (Lit.int .i64 k).wf = true)
    (h : Nst w0 ba 58 poly hd (pre ++ x :: suf) w) (hQ : ∀ a' w' f', AtV 34 f' a' → f' 0 = hd → f' 1 = .int .i64 k → f' 5 = .int .i64 pre.length → Nst w0 ba 58 poly hd (pre ++ setF 1 x k :: suf) w' → Q .normal a' w') : (Code.region 6 (o27 6) false).wp Try.prog Q a w := by
  obtain ⟨b, o, cap, c, e', r1, r2, r3, n2⟩ := h.wrInt (j := 1) (by simp) wk
  refine wp_region ?_
  rw [rg27_6]
  obtain ⟨o0, o0a, o0b, o0c, o0d⟩ := q27_6_0
  obtain ⟨o1, o1a, o1b, o1c, o1d⟩ := q27_6_1
  obtain ⟨o2, o2a, o2b, o2c, o2d⟩ := q27_6_2
  obtain ⟨o3, o3a, o3b, o3c, o3d⟩ := q27_6_3
  obtain ⟨o4, o4a, o4b, o4c, o4d⟩ := q27_6_4
  obtain ⟨o5, o5a, o5b, o5c, o5d⟩ := q27_6_5
  refine wpOps_cons o0a o0d (upon_val (v := hd) (w' := w) (by simp only [execOp, o0b, show a.eval (.tmp 0) = hd from hA.ev.trans f0, Sem.run_pure]) ?_)
  rw [o0c]
  have p1 := hA.put (d := 19) (by omega) hd
  generalize a.put (some 19) hd = a2 at p1 ⊢
  refine wpOps_cons o1a o1d (upon_val (v := .int .i64 pre.length) (w' := w) (by simp only [execOp, o1b, show a2.eval (.tmp 5) = .int .i64 pre.length from p1.ev.trans f5, Sem.run_pure]) ?_)
  rw [o1c]
  have p2 := p1.put (d := 20) (by omega) (.int .i64 pre.length)
  generalize a2.put (some 20) (.int .i64 pre.length) = a3 at p2 ⊢
  refine wpOps_cons o2a o2d (upon_val (v := .int .i64 k) (w' := w) (by simp only [execOp, o2b, show a3.eval (.tmp 1) = .int .i64 k from p2.ev.trans f1, Sem.run_pure]) ?_)
  rw [o2c]
  have p3 := p2.put (d := 21) (by omega) (.int .i64 k)
  generalize a3.put (some 21) (.int .i64 k) = a4 at p3 ⊢
  have ri := run_indexS (P := Try.prog) tt_ok (tt_ok 37 polys (by kernel_rfl)) (w := w) (b := b) (o := o) (m := (pre ++ x :: suf).length) (cap := cap) (kk := .i64) (i := pre.length) (by simp)
  rw [show (poly).size = 3 from rfl, ← r1] at ri
  refine wpOps_cons o3a o3d (upon_val (v := .pointer (some ⟨b, o + pre.length * 3, none⟩)) (w' := w) (by
    simp only [execOp, o3b, show a4.eval (.tmp 19) = hd from p3.ev, show a4.eval (.tmp 20) = .int .i64 pre.length from p3.ev, Sem.run_bind, ri, Result.andThen_ok, Sem.run_pure]) ?_)
  rw [o3c]
  have p4 := p3.put (d := 22) (by omega) (.pointer (some ⟨b, o + pre.length * 3, none⟩))
  generalize a4.put (some 22) (.pointer (some ⟨b, o + pre.length * 3, none⟩)) = a5 at p4 ⊢
  have rf := run_fieldAt (P := Try.prog) (w := w) (b := b) (o := o + pre.length * 3) (j := 1) (u := i64) tt_ok (tt_ok 58 poly (by kernel_rfl)) rfl rfl
  rw [show poff poly [.fld 1] = 1 from rfl] at rf
  refine wpOps_cons o4a o4d (upon_val (v := .pointer (some ⟨b, o + pre.length * 3 + 1, none⟩)) (w' := w) (by
    simp only [execOp, o4b, show a5.eval (.tmp 22) = .pointer (some ⟨b, o + pre.length * 3, none⟩) from p4.ev, Sem.run_bind, rf, Result.andThen_ok, Sem.run_pure]) ?_)
  rw [o4c]
  have p5 := p4.put (d := 23) (by omega) (.pointer (some ⟨b, o + pre.length * 3 + 1, none⟩))
  generalize a5.put (some 23) (.pointer (some ⟨b, o + pre.length * 3 + 1, none⟩)) = a6 at p5 ⊢
  have rs := run_storeI (w := w) (b := b) (o := o + pre.length * 3 + 1) (k := k) r2 (by omega)
  refine wpOps_cons o5a o5d (upon_skip (w' := w.setRow b (splice c.toList (o + pre.length * 3 + 1) [.int .i64 k]).toArray) (by
    simp only [execOp, o5b, show a6.eval (.tmp 23) = .pointer (some ⟨b, o + pre.length * 3 + 1, none⟩) from p5.ev, show a6.eval (.tmp 21) = .int .i64 k from p5.ev, Sem.run_bind, rs, Result.andThen_ok, Sem.run_pure]) ?_)
  rw [o5c]
  exact hQ a6 _ _ p5 (show _ = hd from f0) (show _ = Value.int .i64 k from f1) (show _ = Value.int .i64 (pre.length : Int) from f5) n2

end
end Go.Proofs.YtkoifikjfnbcpaaEv
