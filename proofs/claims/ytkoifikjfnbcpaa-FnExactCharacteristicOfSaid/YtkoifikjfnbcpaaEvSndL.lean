/- Stores into the frame's variables: at the state. -/
import Derived.Test.YtkoifikjfnbcpaaEvSndK
set_option linter.unusedVariables false
set_option linter.unusedSimpArgs false
namespace Go.Proofs.YtkoifikjfnbcpaaEv
open Go Go.RowKit

section
variable {P : Program} {T : TTab} {n : NS} {w0 w : World} {W : Nat → Prop} {g : Gh} {get : Nat → Ent} {a : Act} {d : Nat}

theorem LeafB.mine {h : Mem} {l : Leaf} {cs : List Value} {bs : List Nat} (hl : LeafB g h l cs bs) : ∀ b ∈ bs, g.kd b = .fz ∨ ∃ t, g.kd b = .mu t := by
  cases l with
  | fz t reg lin v => exact fun b hb => .inl (hl.2.1 b hb)
  | rt e t tag sub lin st v =>
    obtain ⟨hd, blk, bs', rfl, rfl, _, _, _, h1, h2, _⟩ := hl
    intro b hb
    rcases List.mem_append.1 hb with hb | hb
    · exact .inr ⟨tag, (h2 b (by simpa using hb)).1⟩
    · exact .inl (h1 b hb)

/-- Only one block is another: that of the variable of slot s. -/
structure Turn (g : Gh) (s b : Nat) (h h' : Mem) : Prop where
  kd : g.kd b = .bx s
  oth : ∀ y, y ≠ b → h'[y]? = h[y]?

theorem LeafB.turn {h h' : Mem} {s b : Nat} (x : Turn g s b h h') {l : Leaf} {cs : List Value} {bs : List Nat} (hl : LeafB g h l cs bs) : LeafB g h' l cs bs :=
  hl.same (fun y hy => x.oth y (fun e => by subst e; rcases hl.mine y hy with q | ⟨t, q⟩ <;> rw [x.kd] at q <;> cases q)) (fun _ _ => rfl) (fun _ _ => rfl) (fun _ _ _ _ _ _ _ _ _ => rfl)
theorem LeavesB.turn {h h' : Mem} {s b : Nat} (x : Turn g s b h h') : ∀ {ls : List Leaf} {cs : List Value} {bs : List Nat}, LeavesB g h ls cs bs → LeavesB g h' ls cs bs
  | [], _, _, hl => hl
  | l :: r, cs, bs, ⟨b1, b2, h1, h2, h3⟩ => ⟨b1, b2, h1.turn x, h2.turn x, h3⟩
theorem PartsB.turn {h h' : Mem} {s b : Nat} (x : Turn g s b h h') {m : Nat} : ∀ {ls : List (List Leaf)} {cs : List Value} {bs : List Nat}, PartsB g h m ls cs bs → PartsB g h' m ls cs bs
  | [], _, _, hl => hl
  | l :: r, cs, bs, ⟨b1, b2, h1, h2, h3⟩ => ⟨b1, b2, h1.turn x, h2.turn x, h3⟩
theorem ValR.turn {h h' : Mem} {s b : Nat} (x : Turn g s b h h') {agg : Bool} {ls : List Leaf} {v : Value} (hv : ValR g h agg ls v) : ValR g h' agg ls v := by
  obtain ⟨cs, bs, h1, h2, h3⟩ := hv; exact ⟨cs, bs, h1, h2, h3.turn x⟩
theorem ValsR.turn {h h' : Mem} {s b : Nat} (x : Turn g s b h h') : ∀ {ls : List (Bool × List Leaf)} {vs : List Value}, ValsR g h ls vs → ValsR g h' ls vs
  | [], _, hl => hl
  | (agg, ls) :: r, vs, ⟨v, vs', h1, h2, h3⟩ => ⟨v, vs', h1, h2.turn x, h3.turn x⟩

theorem EntR.turn {h h' : Mem} {s b : Nat} (x : Turn g s b h h') {s' : Nat} (hs : s' ≠ s) {e : Ent} {v : Value} (he : EntR g h s' e v) : EntR g h' s' e v := by
  cases e with
  | dead => trivial
  | val agg ls => exact ValR.turn x he
  | lit e t pp =>
    obtain ⟨b', c, bs, h1, h2, h3, h4, h5, h6, h7⟩ := he
    exact ⟨b', c, bs, h1, by rw [x.oth b' (fun q => by subst q; rw [x.kd] at h4; cases h4)]; exact h2, h3, h4, h5, h6.turn x, h7⟩
  | box ro ls =>
    obtain ⟨b', c, e, fr, bs, h1, h2, h3, h4, h5, h6⟩ := he
    have hne : b' ≠ b := by
      intro q; subst q
      cases ro with
      | false => have := (h5 rfl).1; rw [x.kd] at this; injection this with this; exact hs this.symm
      | true => rcases h6 rfl with this | this <;> rw [x.kd] at this <;> cases this
    exact ⟨b', c, e, fr, bs, h1, by rw [x.oth b' hne]; exact h2, h3.turn x, h4, h5, h6⟩
  | ref s' base t p => exact he
  | eref l i p => obtain ⟨bs, b', o, m, cap, h1, h2⟩ := he; exact ⟨bs, b', o, m, cap, h1.turn x, h2⟩
  | fn f caps => exact he
  | tup ls => obtain ⟨vs, h1, h2⟩ := he; exact ⟨vs, h1, h2.turn x⟩

theorem St.row {s b : Nat} {c cs' : Array Value} {el : TypeId} {ls' : List Leaf} {bs' : List Nat} (st : St n w0 W g get a w) (hb : w.heap[b]? = some (.cells c el (0, 0))) (hk : g.kd b = .bx s) (hbx : g.bx s = b)
    (hv : a.tmps.getD s undef = .pointer (some ⟨b, 0, none⟩)) (hl : LeavesB g w.heap ls' cs'.toList bs') : St n w0 W g (upd get s (.box false ls')) a (w.setRow b cs') := by
  have tr : Turn g s b w.heap (w.setRow b cs').heap := ⟨hk, fun y hy => setRow_other w b y cs' hy⟩
  have hb' : (w.setRow b cs').heap[b]? = some (.cells cs' el (0, 0)) := setRow_heap w b c cs' el (0, 0) hb
  have hin : b < w.heap.size ∧ (w0.heap.size ≤ b ∨ W b) := by
    rcases st.inv.kd b with q | q | q
    · rw [hk] at q; cases q
    · rw [hk] at q; cases q
    · exact q
  have hsz : (w.setRow b cs').heap.size = w.heap.size := by simp [World.setRow]
  refine ⟨⟨by rw [hsz]; exact st.inv.size, fun y hy hw => ?_, fun y => by rw [hsz]; exact st.inv.kd y, st.inv.no, st.inv.al, fun y hy => by rw [hsz]; exact st.inv.own y hy, fun y hy => ?_⟩, fun s' => ?_, st.sz, st.df, st.os, st.tape, st.output⟩
  · have : y ≠ b := by
      intro q; subst q
      rcases hin.2 with q | q
      · omega
      · exact hw q
    rw [tr.oth y this]; exact st.inv.old y hy hw
  · by_cases q : y = b
    · subst q; exact ⟨cs', el, hb'⟩
    · rw [tr.oth y q]; exact st.inv.wr y hy
  · unfold upd
    split
    · rename_i q; subst q
      rw [hv]
      exact ⟨b, cs', el, (0, 0), bs', rfl, hb', hl.turn tr, hbx, fun _ => ⟨hk, rfl⟩, fun q => by cases q⟩
    · rename_i q; exact (st.ent s').turn tr q

theorem run_storeVar {t : TypeId} {ty : Ty} (k : TyOK P T t ty) {b o : Nat} {c : Array Value} {e : TypeId} {v : Value} (hb : w.heap[b]? = some (.cells c e (0, 0))) (hv : v.cells.size = ty.size)
    (h1 : ∀ u ∈ v.cells.toList, u.oneCell' = true) (ho : o + ty.size ≤ c.size) :
    (Instr.storeAt t (.pointer (some ⟨b, o, none⟩)) v).run P w = .ok () (w.setRow b (splice c.toList o v.cells.toList).toArray) := by
  have := run_storeCells_at (P := P) b o e v.cells.toList 0 c w hb (by simp [hv]; omega) h1
  simp only [Instr.storeAt, Sem.run_bind, run_sureAddr, Result.andThen_ok, storeVar, sizeOf_of k, hv, ne_eq, not_true_eq_false, if_false]
  rw [this]; simp [splice]

theorem sameTys_sizes : ∀ {ls ls' : List Leaf}, sameTys ls ls' = true → sizes ls = sizes ls'
  | [], [], _ => rfl
  | a :: r, b :: r', h => by
    simp only [sameTys, Bool.and_eq_true] at h
    simp [sizes, eqb_eq h.1, sameTys_sizes h.2]
  | [], _ :: _, h => by cases h
  | _ :: _, [], h => by cases h

theorem tyP_flat : ∀ {t : Ty} {p : List PStep} {u : Ty}, t.flat = true → tyP t p = some u → u.flat = true := by
  intro t
  induction t with
  | pair a b iha ihb =>
    intro p u hf hu
    simp only [Ty.flat, Bool.and_eq_true] at hf
    cases p with
    | nil => simp only [tyP, Option.some.injEq] at hu; subst hu; simp [Ty.flat, hf]
    | cons q p => cases q with
      | idx i => simp [tyP] at hu
      | fld j => cases j with
        | zero => exact iha hf.1 (p := p) hu
        | succ j => exact ihb hf.2 (p := .fld j :: p) hu
  | arr n t ih =>
    intro p u hf hu
    cases p with
    | nil => simp only [tyP, Option.some.injEq] at hu; subst hu; exact hf
    | cons q p => cases q with
      | fld j => simp [tyP] at hu
      | idx i => exact ih hf (p := p) hu
  | int k => intro p u hf hu; cases p with | nil => simp only [tyP, Option.some.injEq] at hu; subst hu; rfl | cons q p => cases q <;> simp [tyP] at hu
  | bool => intro p u hf hu; cases p with | nil => simp only [tyP, Option.some.injEq] at hu; subst hu; rfl | cons q p => cases q <;> simp [tyP] at hu
  | unit => intro p u hf hu; cases p with | nil => simp only [tyP, Option.some.injEq] at hu; subst hu; rfl | cons q p => cases q <;> simp [tyP] at hu
  | slice e t _ => intro p u hf hu; cases hf

theorem ok_store {t : TypeId} {ty : Ty} {s : Nat} {x : Operand} {agg : Bool} {xs : List Leaf} {ups : List (Nat × Ent)} (hT : TOK P T) (k : TyOK P T t ty) (st : St n w0 W g get a w) (hx : opE get x = some (.val agg xs))
    (hr : storeE get ty s xs = some ups) :
    ∃ w', (Instr.storeAt t (a.tmps.getD s undef) (a.eval x)).run P w = .ok () w' ∧ St n w0 W g (upds get ups) a w' := by
  obtain ⟨s0, he, hs0⟩ := opE_sound st.ent hx
  obtain ⟨bsx, hcx⟩ := ValR.cells he
  have hone := hcx.cells1
  unfold storeE at hr
  split at hr
  · rename_i ls hget
    split at hr
    · rename_i ls' hls'
      cases hq : sameTys ls ls' with
      | false => rw [hq] at hr; cases hr
      | true =>
        rw [hq] at hr; simp only [cond_true, Option.some.injEq] at hr; subst hr
        have hb := st.ent s; rw [hget] at hb
        obtain ⟨b, c, e, fr, bs, h1, h2, h3, h4, h5, _⟩ := hb
        obtain ⟨h5a, h5b⟩ := h5 rfl; subst h5b
        obtain ⟨q1, q2⟩ := boxLeaves_B hls' hcx
        have len3 := h3.length
        have leq := sameTys_sizes hq
        have lq := q1.length
        simp at len3 lq q2
        refine ⟨_, by rw [h1]; exact run_storeVar (P := P) (T := T) k h2 q2 hone (by omega), ?_⟩
        have e : (splice c.toList 0 (a.eval x).cells.toList).toArray = (a.eval x).cells := by rw [splice_all _ _ (by simp; omega)]
        rw [e]
        exact st.row h2 h5a h4 h1 q1
    · cases hr
  · rename_i b0 base t0 p hget
    split at hr
    · rename_i ls hget2
      split at hr
      · rename_i l hl
        cases hq : (l.ty.eqb t0 && tyIs t0 p ty) with
        | false => rw [hq] at hr; cases hr
        | true =>
          rw [hq] at hr; simp only [cond_true] at hr
          simp only [Bool.and_eq_true] at hq
          obtain ⟨hq1, hq2⟩ := hq
          have hq1 := eqb_eq hq1; subst hq1
          have hq2 := tyIs_eq hq2
          split at hr
          · rename_i l' hl'
            simp only [Option.some.injEq] at hr; subst hr
            have hb := st.ent b0; rw [hget2] at hb
            obtain ⟨b, c, e, fr, bs, h1, h2, h3, h4, h5, _⟩ := hb
            obtain ⟨h5a, h5b⟩ := h5 rfl; subst h5b
            have hrf := st.ent s; rw [hget] at hrf
            obtain ⟨hpin, hv⟩ := hrf
            obtain ⟨bl, r1, r2, r3⟩ := leafOff_get h3 hl
            simp at r3
            -- the part written
            have part : l'.ty = l.ty ∧ (a.eval x).cells.size = ty.size ∧ poff l.ty p + ty.size ≤ l.ty.size ∧
                ∃ bx, LeafB g w.heap l' (splice ((c.toList.drop base).take l.ty.size) (poff l.ty p) (a.eval x).cells.toList) bx := by
              have lr := r1.rd.length
              have whole : ∀ (l2 : Leaf) (bb : List Nat), l2.ty = l.ty → LeafB g w.heap l2 (a.eval x).cells.toList bb → p = [] → l2.ty = l.ty ∧ (a.eval x).cells.size = ty.size ∧ poff l.ty p + ty.size ≤ l.ty.size ∧
                  ∃ bx, LeafB g w.heap l2 (splice ((c.toList.drop base).take l.ty.size) (poff l.ty p) (a.eval x).cells.toList) bx := by
                intro l2 bb e1 e2 e3
                subst e3
                have e0 : poff l.ty [] = 0 := by cases l.ty <;> rfl
                have et : tyP l.ty [] = some l.ty := by cases l.ty <;> rfl
                rw [et] at hq2; injection hq2 with hq2
                have hlen := e2.rd.length; rw [e1] at hlen
                refine ⟨e1, by rw [← hq2]; simpa using hlen, by rw [e0, ← hq2]; omega, bb, ?_⟩
                rw [e0, splice_all _ _ (by rw [hlen, lr])]; exact e2
              unfold storeP at hl'
              split at hl'
              · split at hl'
                · rename_i x1
                  cases hz : x1.ty.eqb l.ty with
                  | false => rw [hz] at hl'; cases hl'
                  | true => rw [hz] at hl'; injection hl' with hl'; subst hl'; exact whole _ _ (eqb_eq hz) hcx.one rfl
                · cases hz : l.ty.flat with
                  | false => rw [hz] at hl'; cases hl'
                  | true =>
                    rw [hz] at hl'; simp only [cond_true] at hl'
                    split at hl'
                    · rename_i y hy; injection hl' with hl'; subst hl'; exact whole (.fz l.ty 0 false y) [] rfl (flat_B hz (valAs_rd hy hcx)) rfl
                    · cases hl'
              · split at hl'
                · rename_i tt reg lin v _
                  cases hz : tt.flat with
                  | false => rw [hz] at hl'; cases hl'
                  | true =>
                    rw [hz] at hl'; simp only [cond_true] at hl'
                    split at hl'
                    · rename_i tx htx
                      have : tx = ty := by rw [show tyP tt p = some ty from hq2] at htx; injection htx with htx; exact htx.symm
                      subst this
                      split at hl'
                      · rename_i y hy
                        split at hl'
                        · rename_i v' hv'
                          injection hl' with hl'; subst hl'
                          have hry := valAs_rd hy hcx
                          have hft : tx.flat = true := tyP_flat hz hq2
                          have := hry.flat hft; subst this
                          have hrr : Rd w.heap tt v ((c.toList.drop base).take tt.size) bl := r1.1
                          have := hrr.flat hz; subst this
                          obtain ⟨u1, u2⟩ := Rd_setP hry hv' hpin hrr
                          have hyl := hry.length
                          refine ⟨rfl, by simpa using hyl, ?_, [], u1, by simp, by simp, by simp⟩
                          simp only [Leaf.ty] at lr ⊢; omega
                        · cases hl'
                      · cases hl'
                    · cases hl'
                · cases hl'
            obtain ⟨p1, p2, p3, bx, p4⟩ := part
            obtain ⟨bs2, q⟩ := LeavesB_setOff h3 hl p1 p4
            refine ⟨_, by rw [hv, h4]; exact run_storeVar (P := P) (T := T) k h2 p2 hone (by omega), ?_⟩
            rw [splice_splice _ _ _ _ _ (by simp; omega) (by simp; omega)] at q
            exact st.row h2 h5a h4 h1 (by simpa using q)
          · cases hr
      · cases hr
    · cases hr
  · cases hr

end
end Go.Proofs.YtkoifikjfnbcpaaEv
