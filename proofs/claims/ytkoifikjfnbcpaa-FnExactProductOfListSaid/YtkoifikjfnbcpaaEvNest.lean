/- A slice of slices, or of structs with a slice, whose elements are written one by one: by hand. No condition. -/
import Derived.Test.YtkoifikjfnbcpaaEvMD
set_option linter.unusedVariables false
set_option linter.unusedSimpArgs false
namespace Go.Proofs.YtkoifikjfnbcpaaEv
open Go Go.RowKit

theorem RdL.app {α : Type} {R : α → List Value → List Nat → Prop} {n : Nat} : ∀ {l1 l2 : List α} {cs : List Value} {bs : List Nat}, RdL R n (l1 ++ l2) cs bs → ∃ b1 b2, RdL R n l1 cs b1 ∧ RdL R n l2 (cs.drop (l1.length * n)) b2 ∧ bs = b1 ++ b2
  | [], l2, cs, bs, h => ⟨[], bs, rfl, by simpa using h, rfl⟩
  | x :: l1, l2, cs, bs, ⟨b1, b2, h1, h2, h3⟩ => by
    obtain ⟨c1, c2, q1, q2, q3⟩ := RdL.app h2
    refine ⟨b1 ++ c1, c2, ⟨b1, c1, h1, q1, rfl⟩, ?_, by rw [h3, q3, List.append_assoc]⟩
    rw [List.drop_drop] at q2
    rw [List.length_cons, Nat.succ_mul, Nat.add_comm]; exact q2
theorem RdL.join {α : Type} {R : α → List Value → List Nat → Prop} {n : Nat} : ∀ {l1 l2 : List α} {cs : List Value} {b1 b2 : List Nat}, RdL R n l1 cs b1 → RdL R n l2 (cs.drop (l1.length * n)) b2 → RdL R n (l1 ++ l2) cs (b1 ++ b2)
  | [], l2, cs, b1, b2, h1, h2 => by have h1 : b1 = [] := h1; subst h1; simpa using h2
  | x :: l1, l2, cs, b1, b2, ⟨c1, c2, q1, q2, q3⟩, h2 => by
    rw [q3, List.append_assoc]
    refine ⟨c1, c2 ++ b2, q1, RdL.join q2 ?_, rfl⟩
    rw [List.drop_drop]
    rw [List.length_cons, Nat.succ_mul, Nat.add_comm] at h2; exact h2

section
variable {P : Program} {T : TTab} {K : CTab}

/-- A slice's data, in memory that may be written and that nothing else leads to; the rest of the world as it was. -/
structure Nst (w0 : World) (ba : List Nat) (e : TypeId) (u : Ty) (hd : Value) (L : List u.den) (w : World) : Prop where
  rd : ∃ blk bs, SlR w.heap e u.size (Rd w.heap u) L hd blk bs ∧ (blk.toList ++ bs).Nodup ∧ ∀ z ∈ blk.toList ++ bs, z ∈ ba
  os : w.os = w0.os
  tp : Tp w w0
  out : w.output = w0.output
  size : w0.heap.size ≤ w.heap.size
  old : ∀ b, b < w0.heap.size → b ∉ ba → w.heap[b]? = w0.heap[b]?
  wr : ∀ b ∈ ba, ∃ c e, w.heap[b]? = some (.cells c e (0, 0))
  lt : ∀ b ∈ ba, b < w0.heap.size

theorem Nst.ext {w0 w w' : World} {ba : List Nat} {e : TypeId} {u : Ty} {hd : Value} {L : List u.den} (h : Nst w0 ba e u hd L w) (os : w'.os = w.os) (tp : Tp w' w) (out : w'.output = w.output) (size : w.heap.size ≤ w'.heap.size)
    (old : ∀ b, b < w.heap.size → w'.heap[b]? = w.heap[b]?) : Nst w0 ba e u hd L w' where
  rd := by
    obtain ⟨blk, bs, h1, h2, h3⟩ := h.rd
    have lt : ∀ z ∈ blk.toList ++ bs, z < w.heap.size := fun z hz => Nat.lt_of_lt_of_le (h.lt z (h3 z hz)) h.size
    exact ⟨blk, bs, h1.frame (fun b hb => old b (lt b (List.mem_append_right _ hb))) (fun b hb => old b (lt b (by simp [hb]))), h2, h3⟩
  os := os.trans h.os
  tp := tp.trans h.tp
  out := out.trans h.out
  size := Nat.le_trans h.size size
  old := fun b hb hn => (old b (Nat.lt_of_lt_of_le hb h.size)).trans (h.old b hb hn)
  wr := fun b hb => by rw [old b (Nat.lt_of_lt_of_le (h.lt b hb) h.size)]; exact h.wr b hb
  lt := h.lt

/-- An element at hand: its cells; and what becomes of the slice when the element is written. -/
theorem Nst.elem {w0 w : World} {ba : List Nat} {e : TypeId} {u : Ty} {hd : Value} {pre suf : List u.den} {x : u.den} (h : Nst w0 ba e u hd (pre ++ x :: suf) w) (hu : u.size ≠ 0) :
    ∃ b o cap c e' be, hd = .slice (some ⟨b, o, none⟩) (pre ++ x :: suf).length cap ∧ w.heap[b]? = some (.cells c e' (0, 0)) ∧ o + pre.length * u.size + u.size ≤ c.size ∧
      Rd w.heap u x ((c.toList.drop (o + pre.length * u.size)).take u.size) be ∧ be.Nodup ∧ (∀ z ∈ be, z ∈ ba) ∧ b ∉ be ∧ b ∈ ba ∧
      ∀ (w' : World) (x' : u.den) (c' : Array Value) (bz : List Nat), w'.heap[b]? = some (.cells c' e' (0, 0)) → c'.size = c.size → (∀ j, j < o + pre.length * u.size ∨ o + pre.length * u.size + u.size ≤ j → c'[j]? = c[j]?) →
        Rd w'.heap u x' ((c'.toList.drop (o + pre.length * u.size)).take u.size) bz → bz.Nodup → (∀ z ∈ bz, z ∈ be) → w'.os = w.os → Tp w' w → w'.output = w.output → w.heap.size ≤ w'.heap.size →
        (∀ z, z < w.heap.size → z ∉ be → z ≠ b → w'.heap[z]? = w.heap[z]?) → (∀ z ∈ be, ∃ c e, w'.heap[z]? = some (.cells c e (0, 0))) → Nst w0 ba e u hd (pre ++ x' :: suf) w' := by
  obtain ⟨blk, bs, h1, h2, h3⟩ := h.rd
  rcases h1 with ⟨_, _, q, _⟩ | ⟨b, o, cap, c, fr, r1, r2, ⟨r3, r3'⟩, ⟨e', r4⟩, r5, r6⟩
  · cases pre <;> cases q
  · subst r2
    have hb : b ∈ ba := h3 b (by simp)
    have hfr : fr = (0, 0) := by
      obtain ⟨c1, e1, k⟩ := h.wr b hb
      rw [r4] at k; injection k with k; injection k with _ _ k
    subst hfr
    obtain ⟨b1, b2', s1, s2, s3⟩ := r6.app
    obtain ⟨be, b2, s4, s5, s6⟩ := s2
    rw [List.drop_drop] at s4
    rw [List.drop_drop, List.drop_drop] at s5
    subst s6; subst s3
    have nd := h2
    simp only [Option.toList_some, List.singleton_append, List.nodup_cons, List.mem_append, List.nodup_append, not_or] at nd
    obtain ⟨⟨n1, n2, n3⟩, n4, ⟨n5, n6, n7⟩, n8⟩ := nd
    have hlen : (pre ++ x :: suf).length = pre.length + 1 + suf.length := by simp; omega
    have hmul : (pre.length + 1) * u.size ≤ cap * u.size := Nat.mul_le_mul_right _ (by omega)
    have hsm : (pre.length + 1) * u.size = pre.length * u.size + u.size := Nat.succ_mul _ _
    refine ⟨b, o, cap, c, e', be, r1, r4, by omega, s4, n5, fun z hz => h3 z (by simp [hz]), n2, hb, ?_⟩
    intro w' x' c' bz t1 t2 t3 t4 t5 t6 t7 t8 t9 t10 t11 t12
    have ltA : ∀ z ∈ ba, z < w.heap.size := fun z hz => Nat.lt_of_lt_of_le (h.lt z hz) h.size
    have f1 : ∀ z ∈ b1, w'.heap[z]? = w.heap[z]? := fun z hz => t11 z (ltA z (h3 z (by simp [hz]))) (fun q => n8 z hz z (.inl q) rfl) (fun q => n1 (q ▸ hz))
    have f2 : ∀ z ∈ b2, w'.heap[z]? = w.heap[z]? := fun z hz => t11 z (ltA z (h3 z (by simp [hz]))) (fun q => n7 z q z hz rfl) (fun q => n3 (q ▸ hz))
    have g1 : RdL (Rd w'.heap u) u.size pre (c'.toList.drop o) b1 :=
      (s1.mono fun x cs b hm hr => hr.frame fun y hy => f1 y (hm y hy)).take fun j hj => by
        rw [List.getElem?_drop, List.getElem?_drop, Array.getElem?_toList, Array.getElem?_toList]; exact t3 _ (.inl (by omega))
    have g2 : RdL (Rd w'.heap u) u.size suf (c'.toList.drop (o + (pre.length * u.size + u.size))) b2 :=
      (s5.mono fun x cs b hm hr => hr.frame fun y hy => f2 y (hm y hy)).take fun j hj => by
        rw [List.getElem?_drop, List.getElem?_drop, Array.getElem?_toList, Array.getElem?_toList]; exact t3 _ (.inr (by omega))
    have g3 : RdL (Rd w'.heap u) u.size (pre ++ x' :: suf) (c'.toList.drop o) (b1 ++ (bz ++ b2)) := by
      refine RdL.join g1 ⟨bz, b2, ?_, ?_, rfl⟩
      · rw [List.drop_drop]; exact t4
      · rw [List.drop_drop, List.drop_drop]; exact g2
    refine ⟨⟨some b, b1 ++ (bz ++ b2), .inr ⟨b, o, cap, c', (0, 0), by rw [r1]; simp, rfl, ⟨by rw [hlen] at r3; simp; omega, r3'⟩, ⟨e', t1⟩, by omega, g3⟩, ?_, ?_⟩, t7.trans h.os, t8.trans h.tp, t9.trans h.out, Nat.le_trans h.size t10, ?_, ?_, h.lt⟩
    · simp only [Option.toList_some, List.singleton_append, List.nodup_cons, List.mem_append, List.nodup_append, not_or]
      refine ⟨⟨n1, fun q => n2 (t6 b q), n3⟩, n4, ⟨t5, n6, fun a ha b hb => n7 a (t6 a ha) b hb⟩, fun a ha b hb => ?_⟩
      rcases hb with q | q
      · exact n8 a ha b (.inl (t6 b q))
      · exact n8 a ha b (.inr q)
    · intro z hz
      simp only [Option.toList_some, List.singleton_append, List.mem_cons, List.mem_append] at hz
      rcases hz with rfl | q | q | q
      · exact hb
      · exact h3 z (by simp [q])
      · exact h3 z (by simp [t6 z q])
      · exact h3 z (by simp [q])
    · intro z hz hn
      rw [t11 z (Nat.lt_of_lt_of_le hz h.size) (fun q => hn (h3 z (by simp [q]))) (fun q => hn (q ▸ hb))]
      exact h.old z hz hn
    · intro z hz
      by_cases q1 : z ∈ be
      · exact t12 z q1
      · by_cases q2 : z = b
        · subst q2; exact ⟨_, _, t1⟩
        · rw [t11 z (ltA z hz) q1 q2]; exact h.wr z hz

/-- An activation's slots, by a function. -/
structure AtV (n : Nat) (f : Nat → Value) (a : Act) : Prop where
  sz : a.tmps.size = n
  df : a.defers = []
  at_ : ∀ s, a.tmps.getD s undef = f s
def updV (f : Nat → Value) (d : Nat) (v : Value) : Nat → Value := fun s => if s = d then v else f s
theorem AtV.put {n d : Nat} {f : Nat → Value} {a : Act} (h : AtV n f a) (hd : d < n) (v : Value) : AtV n (updV f d v) (a.put (some d) v) where
  sz := by simp [Act.put, h.sz]
  df := h.df
  at_ := fun s => by rw [put_getD (by rw [h.sz]; exact hd), h.at_]; rfl
theorem AtV.ev {n s : Nat} {f : Nat → Value} {a : Act} (h : AtV n f a) : a.eval (.tmp s) = f s := h.at_ s

theorem run_indexS {t e : TypeId} {u : Ty} (hT : TOK P T) (k : TyOK P T t (.slice e u)) {w : World} {b o m cap : Nat} {kk : IntKind} {i : Nat} (hi : i < m) :
    (Instr.indexAt t (.slice (some ⟨b, o, none⟩) m cap) (.int kk i)).run P w = .ok (.pointer (some ⟨b, o + i * u.size, none⟩)) w := by
  obtain ⟨u1, u2, _⟩ := k.und
  have asInt : (asIntOf (.int kk (i : Int))).run P w = .ok (kk, (i : Int)) w := rfl
  have hi' : 0 ≤ (i : Int) ∧ (i : Int) < m := by omega
  simp only [Instr.indexAt, Sem.run_bind, asInt, Result.andThen_ok, run_underlying u1, Sem.run_pure, sizeOf_of (hT _ _ u2), if_pos hi']
  rw [addr_add]; simp
theorem run_loadS {t e : TypeId} {u : Ty} (k : TyOK P T t (.slice e u)) {w : World} {b o : Nat} {c : Array Value} {e' : TypeId} {fr : Nat × Nat} {v : Value} (hb : w.heap[b]? = some (.cells c e' fr)) (hv : c[o]? = some v) :
    (Instr.loadAt t (.pointer (some ⟨b, o, none⟩))).run P w = .ok v w := by
  have ho : o < c.size := by
    rcases Nat.lt_or_ge o c.size with q | q
    · exact q
    · rw [Array.getElem?_eq_none q] at hv; cases hv
  have := run_loadVar k hb (show o + (Ty.slice e u).size ≤ c.size from ho)
  simp only [Instr.loadAt, Sem.run_bind, run_sureAddr, Result.andThen_ok]
  rw [this]
  show Result.ok (((c.toList.drop o).take 1).headD undef) w = _
  congr 1
  have : c.toList.drop o = v :: c.toList.drop (o + 1) := by
    rw [List.drop_eq_getElem_cons (by simpa using ho)]
    congr 1
    rw [Array.getElem?_eq_getElem ho] at hv
    injection hv with hv
  rw [this]; rfl

theorem run_enter2 {a : Act} {w : World} {o : Oper} {c : Call} {kf : Nat} {x y z : Operand} {fn : Func} (hop : o.op = .call c) (hcal : c.callee = .value z) (hz : a.eval z = .func (.func kf) #[] #[]) (hargs : c.args.toList = [x, y])
    (f1 : P.funcs[kf]? = some fn) (f2 : fn.name ≠ "runtime.NumGoroutine") (f3 : fn.body.isNone = false) : (execOp a.eval o).run P w = .ok (.enter kf #[a.eval x, a.eval y]) w := by
  have hargs : c.args.map a.eval = #[a.eval x, a.eval y] := by apply Array.ext'; simp [hargs]
  simp only [execOp, hop, resolve, hcal, hz, Deferred.ofValue, invoke, callFunc, Sem.run_bind, Sem.run_pure, Result.andThen_ok, run_program, f1]
  rw [if_neg (by simpa using f2), if_neg (by simp [f3])]
  simp [hargs]

end
end Go.Proofs.YtkoifikjfnbcpaaEv
