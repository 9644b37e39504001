/- A call at the state; and all operations that turn no slot but their own. -/
import Derived.Test.YtkoifikjfnbcpaaEvSndM
set_option linter.unusedVariables false
set_option linter.unusedSimpArgs false
namespace Go.Proofs.YtkoifikjfnbcpaaEv
open Go Go.RowKit

section
variable {P : Program} {T : TTab} {K : CTab} {n : NS} {w0 w : World} {W : Nat → Prop} {g : Gh} {get : Nat → Ent} {a : Act} {d : Nat}

theorem tagAt_out {d t : Nat} (h : tagAt d t = false) : t < d * 16 + 1 ∨ d * 16 + 1 + 14 ≤ t := by
  unfold tagAt at h
  rw [Bool.and_eq_false_iff] at h
  rcases h with h | h
  · have : t = 0 := Nat.eq_of_beq_eq_true (by simpa using h)
    omega
  · have := nbeq_ne h; omega

theorem Inv.fresh {h0 h : Mem} (i : Inv g h0 h W) {b : Nat} (hb : h.size ≤ b) : g.kd b = .fz := by
  rcases i.kd b with q | q | q
  · exact q
  · have := i.no b q; have := i.size; omega
  · omega

theorem ResV.flat {h : Mem} {st : Bool} : ∀ {rs : List Ty} {x : Ress rs} {vs : List Value} {bs : List Nat}, ResV h st rs x vs bs → rs.all Ty.flat = true → bs = []
  | [], x, vs, bs, ⟨_, h2⟩, _ => h2
  | t :: rs, x, vs, bs, ⟨v, r, b1, b2, h1, h2, h3, h4, h5⟩, hf => by
    simp only [List.all_cons, Bool.and_eq_true] at hf
    rw [h5, h2.1.flat hf.1, ResV.flat h4 hf.2]; rfl

theorem ok_call {dst : Option Nat} {f : Nat} {es : List Ent} {vs : List Value} {rs : List Ty} {x : Option (Ress rs)} {mk : Ress rs → List (Nat × Ent)} {y : Ress rs} (hK : KOK P K) (st : St n w0 W g get a w)
    (hd : ∀ d, dst = some d → n.has d) (clean : ∀ d, dst = some d → ∀ s, (get s).at d = false) (he : ER g w.heap es vs) (hr : callE K dst f es = some (.callr rs x mk)) (hx : x = some y) :
    (∃ fn, P.funcs[f]? = some fn ∧ fn.name ≠ "runtime.NumGoroutine" ∧ fn.body.isNone = false) ∧
    Calls P f vs.toArray w fun e w' => ∃ v, e = .returned v ∧ ∃ g', g'.al = g.al ∧ St n w0 W g' (upds get (mk y)) (a.put dst v) w' := by
  unfold callE at hr
  split at hr
  · cases hr
  · rename_i C hC
    obtain ⟨hok, _, hfn⟩ := hK _ _ hC
    refine ⟨hfn, ?_⟩
    split at hr
    · cases hr
    · rename_i ar har
      cases hw : (!C.inp && tagRoom C.rs && (C.fresh || C.rs.all Ty.flat || es.all frozenE)) with
      | false => rw [hw] at hr; cases hr
      | true =>
        rw [hw] at hr; simp only [cond_true, Option.some.injEq, OpRes.callr.injEq] at hr
        obtain ⟨hr1, hr2, hr3⟩ := hr
        subst hr1
        have hr2 := eq_of_heq hr2
        have hr3 := eq_of_heq hr3
        simp only [Bool.and_eq_true, Bool.not_eq_true'] at hw
        obtain ⟨⟨hw0, hw1⟩, hw2⟩ := hw
        replace hok := hok hw0
        obtain ⟨ba, hav, hfz⟩ := argE_V har he
        refine (hok ar y (by rw [hr2, hx]) w vs ba hav).mono ?_
        rintro e w' ⟨rv, bs, rfl, hres, hbel, hal, hfresh⟩
        refine ⟨retV rv, rfl, ?_⟩
        have hlt := hres.lt
        -- what the results lead to, the caller may speak of
        have hk : ∀ b ∈ bs, g.kd b = .fz := by
          intro b hb
          rcases hal b hb with q | q
          · exact st.inv.fresh q
          · rw [Bool.or_eq_true, Bool.or_eq_true] at hw2
            rcases hw2 with (hw2 | hw2) | hw2
            · exact st.inv.fresh ((hfresh hw2).2 b hb).1
            · rw [hres.flat hw2] at hb; cases hb
            · exact hfz hw2 b q
        -- the state without the result
        have base : ∀ g' : Gh, (∀ b, b ∉ bs → g'.kd b = g.kd b) → (∀ b, b ∉ bs → g'.own b = g.own b) → g'.al = g.al → (∀ b ∈ bs, g'.kd b = g.kd b ∧ g'.own b = g.own b ∨ w.heap.size ≤ b ∧ (g'.kd b = .fz ∨ ∃ t, g'.kd b = .mu t) ∧ ∃ c e, w'.heap[b]? = some (.cells c e (0, 0))) →
            Inv g' w0.heap w'.heap W := by
          intro g' k1 k2 k3 k4
          have hsz := hbel.size
          have same : ∀ b, (g'.kd b = g.kd b ∧ g'.own b = g.own b) ∨ (w.heap.size ≤ b ∧ b < w'.heap.size ∧ (g'.kd b = .fz ∨ ∃ t, g'.kd b = .mu t) ∧ ∃ c e, w'.heap[b]? = some (.cells c e (0, 0))) := by
            intro b
            by_cases hb : b ∈ bs
            · rcases k4 b hb with q | q
              · exact .inl q
              · exact .inr ⟨q.1, hlt b hb, q.2⟩
            · exact .inl ⟨k1 b hb, k2 b hb⟩
          refine ⟨Nat.le_trans st.inv.size hsz, fun b hb hW => ?_, fun b => ?_, fun b hb => ?_, fun b hb => ?_, fun b hb => ?_, fun b hb => ?_⟩
          · rw [hbel.block b (Nat.lt_of_lt_of_le hb st.inv.size)]; exact st.inv.old b hb hW
          · rcases same b with q | q
            · rw [q.1]; rcases st.inv.kd b with r | r | r
              · exact .inl r
              · exact .inr (.inl r)
              · exact .inr (.inr ⟨Nat.lt_of_lt_of_le r.1 hsz, r.2⟩)
            · exact .inr (.inr ⟨q.2.1, .inl (Nat.le_trans st.inv.size q.1)⟩)
          · rcases same b with q | q
            · rw [q.1] at hb; exact st.inv.no b hb
            · rcases q.2.2.1 with r | ⟨t, r⟩ <;> rw [r] at hb <;> cases hb
          · rw [k3]
            rcases same b with q | q
            · rw [q.1] at hb; exact st.inv.al b hb
            · exact .inl (Nat.le_trans st.inv.size q.1)
          · rcases same b with q | q
            · rw [q.2] at hb; have := st.inv.own b hb; exact ⟨Nat.lt_of_lt_of_le this.1 hsz, this.2⟩
            · exact ⟨q.2.1, .inl (Nat.le_trans st.inv.size q.1)⟩
          · rcases same b with q | q
            · rw [q.2] at hb
              have := (st.inv.own b hb).1
              rw [hbel.block b this]; exact st.inv.wr b hb
            · exact q.2.2.2
        have extOf : ∀ (d : Nat) (g' : Gh), (∀ b, b < w.heap.size → g'.kd b = g.kd b) → (∀ b, b < w.heap.size → g'.own b = g.own b) → (∀ t, tagAt d t = false → g'.H t = g.H t) → g'.bx = g.bx → Ext d g w.heap g' w'.heap := by
          intro d g' k1 k2 k3 k4
          exact ⟨hbel.size, fun b hb => hbel.block b hb, k1, k2, k3, fun s _ => by rw [k4]⟩
        have self := base g (fun _ _ => rfl) (fun _ _ => rfl) rfl (fun b hb => .inl ⟨rfl, rfl⟩)
        cases dst with
        | none =>
          rw [← hr3]
          refine ⟨g, rfl, ⟨self, fun s => ?_, st.sz, st.df, hbel.os.trans st.os, hbel.tape.trans st.tape, hbel.output.trans st.output⟩⟩
          -- a number that no slot speaks of
          have hs := st.ent s
          have up : ∀ {l : Leaf} {cs : List Value} {bs : List Nat}, LeafB g w.heap l cs bs → LeafB g w'.heap l cs bs := fun hl => hl.same (fun b hb => hbel.block b (hl.lt b hb)) (fun _ _ => rfl) (fun _ _ => rfl) (fun _ _ _ _ _ _ _ _ _ => rfl)
          have ups : ∀ {ls : List Leaf} {cs : List Value} {bs : List Nat}, LeavesB g w.heap ls cs bs → LeavesB g w'.heap ls cs bs := by
            intro ls
            induction ls with
            | nil => intro cs bs h; exact h
            | cons l r ih => rintro cs bs ⟨b1, b2, h1, h2, h3⟩; exact ⟨b1, b2, up h1, ih h2, h3⟩
          have lt : ∀ {b : Nat} {o : Obj}, w.heap[b]? = some o → b < w.heap.size := fun {b o} hb => by
            rcases Nat.lt_or_ge b w.heap.size with hlt | hge
            · exact hlt
            · rw [Array.getElem?_eq_none hge] at hb; cases hb
          have upv : ∀ {agg : Bool} {ls : List Leaf} {v : Value}, ValR g w.heap agg ls v → ValR g w'.heap agg ls v := by
            rintro agg ls v ⟨cs, bs, h1, h2, h3⟩; exact ⟨cs, bs, h1, h2, ups h3⟩
          show EntR g w'.heap s (get s) (a.tmps.getD s undef)
          revert hs
          generalize get s = e
          generalize a.tmps.getD s undef = v
          intro hs
          cases e with
          | dead => trivial
          | val agg ls => exact upv hs
          | lit e t pp =>
            obtain ⟨b, c, bs, h1, h2, h3, h4, h5, h6, h7⟩ := hs
            have upp : ∀ {m : Nat} {pp : List (List Leaf)} {cs : List Value} {bs : List Nat}, PartsB g w.heap m pp cs bs → PartsB g w'.heap m pp cs bs := by
              intro m pp
              induction pp with
              | nil => intro cs bs h; exact h
              | cons l r ih => rintro cs bs ⟨b1, b2, h1, h2, h3⟩; exact ⟨b1, b2, ups h1, ih h2, h3⟩
            exact ⟨b, c, bs, h1, by rw [hbel.block b (lt h2)]; exact h2, h3, h4, h5, upp h6, h7⟩
          | box ro ls =>
            obtain ⟨b, c, e, fr, bs, h1, h2, h3, h4⟩ := hs
            exact ⟨b, c, e, fr, bs, h1, by rw [hbel.block b (lt h2)]; exact h2, ups h3, h4⟩
          | ref s' base t p => exact hs
          | eref l i p => obtain ⟨bs, b, o, m, cap, h1, h2⟩ := hs; exact ⟨bs, b, o, m, cap, up h1, h2⟩
          | fn f caps => exact hs
          | tup ls =>
            obtain ⟨vs, h1, h2⟩ := hs
            refine ⟨vs, h1, ?_⟩
            have : ∀ {ls : List (Bool × List Leaf)} {vs : List Value}, ValsR g w.heap ls vs → ValsR g w'.heap ls vs := by
              intro ls
              induction ls with
              | nil => intro vs h; exact h
              | cons q r ih => obtain ⟨agg, l⟩ := q; rintro vs ⟨v, vs', h1, h2, h3⟩; exact ⟨v, vs', h1, upv h2, ih h3⟩
            exact this h2
        | some d =>
          rw [← hr3]
          have hdn := hd d rfl
          have hcl := clean d rfl
          cases hf : C.fresh with
          | false =>
            have x := extOf d g (fun _ _ => rfl) (fun _ _ => rfl) (fun _ _ => rfl) rfl
            exact ⟨g, rfl, st.put hdn x self hbel.os hbel.tape hbel.output (fun s _ => hcl s) (resE_plain hres hk d)⟩
          | true =>
            obtain ⟨n1, n2⟩ := hfresh hf
            obtain ⟨g', q1, q2, q3⟩ := resE_claim (g := g) (fresh := true) (tag := d * 16 + 1) hres hk (fun _ => ⟨n1, fun b hb => (n2 b hb).2⟩) hw1
            have x := extOf d g' (fun b hb => q1.kd b (fun q => by have := (n2 b q).1; omega)) (fun b hb => q1.own b (fun q => by have := (n2 b q).1; omega)) (fun t ht => q1.H t (tagAt_out ht)) q1.bx
            exact ⟨g', q1.al, st.put hdn x (base g' q1.kd q1.own q1.al (fun b hb => .inr ⟨(n2 b hb).1, q1.mine b hb, (n2 b hb).2⟩)) hbel.os hbel.tape hbel.output (fun s _ => hcl s) (q2 d)⟩

end
end Go.Proofs.YtkoifikjfnbcpaaEv
