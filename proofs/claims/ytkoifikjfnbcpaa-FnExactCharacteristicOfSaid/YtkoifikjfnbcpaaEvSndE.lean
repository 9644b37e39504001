/- More operations that only look. -/
import Derived.Test.YtkoifikjfnbcpaaEvSndD
set_option linter.unusedVariables false
set_option linter.unusedSimpArgs false
namespace Go.Proofs.YtkoifikjfnbcpaaEv
open Go Go.RowKit

theorem RdL.takes {α : Type} {R : α → List Value → List Nat → Prop} {n : Nat} : ∀ {l : List α} {cs : List Value} {bs : List Nat} (k : Nat), RdL R n l cs bs →
    ∃ b, RdL R n (l.take k) cs b ∧ b.Sublist bs
  | [], cs, bs, k, h => ⟨bs, by simpa using h, List.Sublist.refl _⟩
  | x :: xs, cs, bs, 0, h => ⟨[], by simp [RdL], List.nil_sublist _⟩
  | x :: xs, cs, bs, k + 1, ⟨b1, b2, h1, h2, h3⟩ => by
    obtain ⟨b, q1, q2⟩ := RdL.takes k h2
    exact ⟨b1 ++ b, ⟨b1, b, h1, q1, rfl⟩, by rw [h3]; exact List.Sublist.append (List.Sublist.refl _) q2⟩
theorem RdL.drops {α : Type} {R : α → List Value → List Nat → Prop} {n : Nat} : ∀ {l : List α} {cs : List Value} {bs : List Nat} (k : Nat), RdL R n l cs bs →
    ∃ b, RdL R n (l.drop k) (cs.drop (k * n)) b ∧ b.Sublist bs
  | [], cs, bs, k, h => ⟨bs, by simpa [RdL] using h, List.Sublist.refl _⟩
  | x :: xs, cs, bs, 0, h => ⟨bs, by simpa using h, List.Sublist.refl _⟩
  | x :: xs, cs, bs, k + 1, ⟨b1, b2, h1, h2, h3⟩ => by
    obtain ⟨b, q1, q2⟩ := RdL.drops k h2
    refine ⟨b, ?_, by rw [h3]; exact q2.trans (List.sublist_append_right _ _)⟩
    rw [List.drop_drop] at q1
    rw [Nat.succ_mul, Nat.add_comm (k * n) n]; exact q1

section
variable {g : Gh} {P : Program} {T : TTab} {w : World}

/-- What a part of a slice is, as a value. -/
def cutV (hd : Value) (size b h : Nat) : Value :=
  match hd with
  | .slice a len cap => .slice (if cap = b then a else a.map (·.add (b * size))) (h - b) (cap - b)
  | v => v

theorem run_slice {t e : TypeId} {u : Ty} (hu : P.underlying t = some (.slice e)) (ku : TyOK P T e u) {a : Option Addr} {len cap : Nat} {lo hi : Option Value} {b h : Int}
    (hlo : (lo = none ∧ b = 0) ∨ ∃ k, lo = some (.int k b)) (hhi : (hi = none ∧ h = len) ∨ ∃ k, hi = some (.int k h)) (h1 : 0 ≤ b) (h2 : b ≤ h) (h3 : h ≤ len) (h4 : len ≤ cap) :
    (Instr.sliceAt t (.slice a len cap) lo hi none).run P w = .ok (cutV (.slice a len cap) u.size b.toNat h.toNat) w := by
  have bound : ∀ (k : IntKind) (i : Int) (y : Nat) (c : BoundsCode), 0 ≤ i ∧ i ≤ y → (Instr.sliceBound (.int k i) y c).run P w = .ok i.toNat w := by
    intro k i y c hi
    simp only [Instr.sliceBound, Sem.run_bind, show (asIntOf (.int k i)).run P w = .ok (k, i) w from rfl, Result.andThen_ok, if_pos hi, Sem.run_pure]
  have hb : (Instr.sliceBounds true len cap lo hi none).run P w = .ok (b.toNat, h.toNat, cap) w := by
    unfold Instr.sliceBounds
    rcases hhi with ⟨rfl, rfl⟩ | ⟨k, rfl⟩ <;> rcases hlo with ⟨rfl, rfl⟩ | ⟨k', rfl⟩
    · simp [Sem.run_bind, Result.andThen_ok]
    · simp only [Sem.run_bind, Sem.run_pure, Result.andThen_ok, bound k' b len _ ⟨h1, by omega⟩]; simp [bound k' b len _ ⟨h1, by omega⟩]
    · simp [Sem.run_bind, Result.andThen_ok, bound k h cap _ ⟨by omega, by omega⟩]
    · have e : (h.toNat : Int) = h := by omega
      simp [Sem.run_bind, Result.andThen_ok, bound k h cap _ ⟨by omega, by omega⟩, bound k' b h.toNat _ ⟨h1, by omega⟩]
  simp only [Instr.sliceAt, Sem.run_bind, run_underlying hu, Result.andThen_ok, Instr.slice, hb, sizeOf_of ku, Sem.run_pure, cutV]

theorem cut_SlR {h : Mem} {e : TypeId} {u : Ty} {l : List u.den} {hd : Value} {blk : Option Nat} {bs : List Nat} {b k : Nat} (hs : SlR h e u.size (Rd h u) l hd blk bs) (h1 : b ≤ k) (h2 : k ≤ l.length) :
    ∃ bs', SlR h e u.size (Rd h u) ((l.take k).drop b) (cutV hd u.size b k) blk bs' ∧ bs'.Sublist bs := by
  rcases hs with ⟨rfl, rfl, rfl, rfl⟩ | ⟨b0, o, cap, c, fr, e1, e2, e3, e4, e5, e6⟩
  · simp at h2; subst h2; obtain rfl : b = 0 := by omega
    exact ⟨[], .inl ⟨by simp [cutV], by simp, rfl, rfl⟩, List.Sublist.refl _⟩
  · obtain ⟨b1, q1, q2⟩ := e6.takes k
    obtain ⟨b2, r1, r2⟩ := q1.drops b
    refine ⟨b2, ?_, r2.trans q2⟩
    have hlen : ((l.take k).drop b).length = k - b := by simp; omega
    subst e1
    by_cases hc : cap = b
    · have hk : k = b := by omega
      refine .inr ⟨b0, o, cap - b, c, fr, by simp [cutV, hc, hk], e2, by simp; omega, e4, by rw [hc]; simp; omega, ?_⟩
      have : (l.take k).drop b = [] := by simp; omega
      rw [this] at r1 ⊢; exact r1
    · refine .inr ⟨b0, o + b * u.size, cap - b, c, fr, by simp [cutV, hc, addr_add, Option.map, hlen], e2, by rw [hlen]; omega, e4, ?_, ?_⟩
      · have : (cap - b) * u.size + b * u.size = cap * u.size := by rw [← Nat.add_mul]; congr 1; omega
        omega
      · rw [List.drop_drop] at r1; exact r1

theorem cut_cells (hd : Value) (size b k : Nat) (hc : hd.cells = #[hd]) : (cutV hd size b k).cells = #[cutV hd size b k] := by
  unfold cutV; split <;> first | rfl | exact hc

theorem sliceL_B {h : Mem} {l l' : Leaf} {hd : Value} {bs : List Nat} {n b k : Nat} (hl : LeafB g h l [hd] bs) (hn : lenL l = some n) (hs : sliceL l b k = some l') (h1 : b ≤ k) (h2 : k ≤ n) :
    ∃ bs', LeafB g h l' [cutV hd (elemTy l).size b k] bs' := by
  cases l with
  | fz t reg lin v =>
    cases t with
    | slice e t =>
      simp only [lenL, Option.some.injEq] at hn; subst hn
      simp only [sliceL, Option.some.injEq] at hs; subst hs
      obtain ⟨⟨hd', blk, bs1, r1, r2, r3⟩, k1, k2, k3⟩ := hl
      injection r1 with r1 _; subst r1; subst r3
      obtain ⟨bs', q1, q2⟩ := cut_SlR r2 h1 h2
      have sub : (blk.toList ++ bs').Sublist (blk.toList ++ bs1) := List.Sublist.append (List.Sublist.refl _) q2
      exact ⟨_, ⟨_, blk, bs', rfl, q1, rfl⟩, fun y hy => k1 y (sub.subset hy), fun r y hy => k2 r y (sub.subset hy), fun hh => (k3 hh).sublist sub⟩
    | _ => cases hn
  | rt e t tag sub lin st v =>
    simp only [lenL, Option.some.injEq] at hn; subst hn
    simp only [sliceL, Option.some.injEq] at hs; subst hs
    obtain ⟨hd', blk, bs1, r1, r3, _, _, r2, k1, k2, k3⟩ := hl
    injection r1 with r1 _; subst r1; subst r3
    obtain ⟨bs', q1, q2⟩ := cut_SlR r2 h1 h2
    exact ⟨_, _, blk, bs', rfl, rfl, fun hh => (by cases hh), fun hh => (by cases hh), q1, fun y hy => k1 y (q2.subset hy), k2, fun hh => ⟨fun y hy => (k3 hh).1 y (q2.subset hy), (k3 hh).2.sublist q2⟩⟩

theorem LeafB.val1 {h : Mem} {l : Leaf} {v : Value} {bs : List Nat} (hl : LeafB g h l [v] bs) (hc : v.cells = #[v]) (s : Nat) : EntR g h s (.val false [l]) v := by
  have h1 := hl.rd.length
  exact ⟨[v], bs, rfl, fun _ => ⟨rfl, hc⟩, bs, [], by rw [List.take_of_length_le (by rw [h1]; exact Nat.le_refl _)]; exact hl, ⟨by rw [List.drop_eq_nil_iff, h1]; exact Nat.le_refl _, rfl⟩, by simp⟩

theorem optI_sound {get : Nat → Ent} {a : Act} {x : Option Operand} {r : Option Int} (hg : ∀ s, EntR g w.heap s (get s) (a.tmps.getD s undef)) (hx : optI get x = some r) :
    (x = none ∧ r = none) ∨ ∃ k n, r = some n ∧ x.map a.eval = some (.int k n) := by
  cases x with
  | none => simp only [optI, Option.some.injEq] at hx; exact .inl ⟨rfl, hx.symm⟩
  | some x =>
    simp only [optI] at hx
    split at hx
    · rename_i e he
      split at hx
      · rename_i k n hi
        injection hx with hx; subst hx
        obtain ⟨s, h1, _⟩ := opE_sound hg he
        exact .inr ⟨k, n, rfl, by rw [Option.map_some, (asI_inv h1 hi).1]⟩
      · cases hx
    · cases hx

theorem slice_sound {get : Nat → Ent} {a : Act} {t e' : TypeId} {u : Ty} {x : Operand} {lo hi : Option Operand} {l h : Option Int} {e r : Ent} {c : Bool} (hT : TOK P T) (k : TyOK P T t (.slice e' u))
    (hg : ∀ s, EntR g w.heap s (get s) (a.tmps.getD s undef)) (hx : opE get x = some e) (hlo : optI get lo = some l) (hhi : optI get hi = some h) (hr : sliceE (.slice e' u) e l h = some (c, r)) (hc : c = true) :
    ∃ v, (Instr.sliceAt t (a.eval x) (lo.map a.eval) (hi.map a.eval) none).run P w = .ok v w ∧ ∀ s, EntR g w.heap s r v := by
  obtain ⟨s0, he, hs0⟩ := opE_sound hg hx
  obtain ⟨hu, hte, hz⟩ := k.und
  unfold sliceE at hr
  split at hr
  · rename_i lf
    cases ht : lf.ty.eqb (.slice e' u) with
    | false => rw [ht] at hr; cases hr
    | true =>
      rw [ht] at hr; simp only [cond_true] at hr
      split at hr
      · rename_i n hn
        split at hr
        · rename_i l' hl'
          injection hr with hr; injection hr with hr1 hr2; subst hr2; subst hc
          simp only [Bool.and_eq_true, decide_eq_true_eq] at hr1
          obtain ⟨⟨c1, c2⟩, c3⟩ := hr1
          obtain ⟨bs, hl, _⟩ := val1 he
          have et := elemTy_of (eqb_eq ht)
          have main : ∀ a0 cap, a.eval x = .slice a0 n cap → n ≤ cap → ∃ v, (Instr.sliceAt t (a.eval x) (lo.map a.eval) (hi.map a.eval) none).run P w = .ok v w ∧ ∀ s, EntR g w.heap s (.val false [l']) v := by
            intro a0 cap hv hcap
            refine ⟨cutV (a.eval x) u.size (lo0 l).toNat (hi0 n h).toNat, ?_, fun s => ?_⟩
            · rw [hv]
              refine run_slice hu (hT _ _ hte) ?_ ?_ c1 c2 c3 hcap
              · rcases optI_sound hg hlo with ⟨rfl, rfl⟩ | ⟨kk, m, rfl, h2⟩
                · exact .inl ⟨rfl, rfl⟩
                · exact .inr ⟨kk, h2⟩
              · rcases optI_sound hg hhi with ⟨rfl, rfl⟩ | ⟨kk, m, rfl, h2⟩
                · exact .inl ⟨rfl, rfl⟩
                · exact .inr ⟨kk, h2⟩
            · obtain ⟨bs', q⟩ := sliceL_B hl hn hl' (by omega) (by omega)
              rw [et] at q
              exact q.val1 (cut_cells _ _ _ _ (by rw [hv]; rfl)) s
          rcases lenL_eq hl hn with ⟨h1, h0⟩ | ⟨b, o, cap, h1, hcap⟩
          · injection h1 with h1 _; exact main none 0 (by rw [h1, h0]) (by omega)
          · injection h1 with h1 _; exact main _ cap h1 hcap
        · cases hr
      · cases hr
  · cases hr

theorem len_sound {s : Nat} {l : Leaf} {v : Value} {n : Nat} {t : TypeId} {e : TypeId} {ty : TypeId} (hu : P.underlying t = some (.slice e)) (he : EntR g w.heap s (.val false [l]) v) (hn : lenL l = some n) :
    (Builtin.len_ #[t] ty #[v]).run P w = .ok (goInt n) w := by
  obtain ⟨bs, hl, _⟩ := val1 he
  have : ∃ a cap, v = .slice a n cap := by
    rcases lenL_eq hl hn with ⟨h1, h0⟩ | ⟨b, o, cap, h1, hcap⟩
    · injection h1 with h1 _; exact ⟨none, 0, by rw [h1, h0]⟩
    · injection h1 with h1 _; exact ⟨_, cap, h1⟩
  obtain ⟨a, cap, rfl⟩ := this
  simp [Builtin.len_, run_underlying hu, Result.andThen]

theorem ValsR.get {h : Mem} : ∀ {ls : List (Bool × List Leaf)} {vs : List Value} {i : Nat} {q : Bool × List Leaf}, ValsR g h ls vs → ls[i]? = some q → ∃ v, vs[i]? = some v ∧ ValR g h q.1 q.2 v
  | [], _, i, q, _, hq => by cases hq
  | (agg, l) :: r, vs, 0, q, ⟨v, vs', h1, h2, h3⟩, hq => by cases hq; subst h1; exact ⟨v, rfl, h2⟩
  | (agg, l) :: r, vs, i + 1, q, ⟨v, vs', h1, h2, h3⟩, hq => by
    subst h1; obtain ⟨v', q1, q2⟩ := ValsR.get h3 (i := i) (q := q) (by simpa using hq); exact ⟨v', by simpa using q1, q2⟩

theorem extract_sound {s : Nat} {ls : List (Bool × List Leaf)} {v : Value} {i : Nat} {agg : Bool} {l : List Leaf} (he : EntR g w.heap s (.tup ls) v) (hi : ls[i]? = some (agg, l)) :
    ∃ u, (Instr.extract v i).run P w = .ok u w ∧ ∀ s, EntR g w.heap s (.val agg l) u := by
  obtain ⟨vs, rfl, h2⟩ := he
  obtain ⟨u, h3, h4⟩ := h2.get hi
  have : vs[i]? = some u := by simpa using h3
  exact ⟨u, by simp [Instr.extract, this], fun s => h4⟩

theorem un_sound {s : Nat} {op : UnOp} {e r : Ent} {v : Value} (he : EntR g w.heap s e v) (hr : unE op e = some r) : ∃ u, (Op.unary op v).run P w = .ok u w ∧ ∀ s, EntR g w.heap s r u := by
  unfold unE at hr
  split at hr
  · injection hr with hr; subst hr
    have := asB_inv he rfl; subst this
    exact ⟨_, by simp [Op.unary], fun s => boolE_sound⟩
  · injection hr with hr; subst hr
    have := asI_inv he rfl
    rw [this.1]
    exact ⟨.int _ (IntKind.wrap _ (-_)), by simp [Op.unary, Op.intArith], fun s => intE_sound (wrap_wf _ _)⟩
  · cases hr

theorem kEq_self (k : IntKind) : kEq k k = true := by cases k <;> rfl

theorem minmax_sound {s1 s2 : Nat} {x y r : Ent} {u v : Value} {b : Builtin} (hx : EntR g w.heap s1 x u) (hy : EntR g w.heap s2 y v) (hr : minmax b x y = some r) :
    (b = .min → ∃ z, (∀ at' ty, (Builtin.min_ at' ty #[u, v]).run P w = .ok z w) ∧ ∀ s, EntR g w.heap s r z) ∧ (b = .max → ∃ z, (∀ at' ty, (Builtin.max_ at' ty #[u, v]).run P w = .ok z w) ∧ ∀ s, EntR g w.heap s r z) := by
  unfold minmax at hr
  split at hr
  · rename_i k m k' n h1 h2
    obtain ⟨rfl, w1⟩ := asI_inv hx h1
    obtain ⟨rfl, w2⟩ := asI_inv hy h2
    cases hk : kEq k k' with
    | false => rw [hk] at hr; cases hr
    | true =>
      rw [hk] at hr
      have := kEq_eq hk; subst this
      refine ⟨fun hb => ?_, fun hb => ?_⟩
      · subst hb
        simp only [cond_true, Option.some.injEq] at hr; subst hr
        refine ⟨.int k (if n < m then n else m), fun _ _ => by simp [Builtin.min_, Builtin.min2, List.foldlM], fun s => ?_⟩
        have : (bif decide (n < m) then n else m) = if n < m then n else m := by by_cases h : n < m <;> simp [h]
        rw [this]; refine intE_sound ?_; split <;> assumption
      · subst hb
        simp only [cond_true, Option.some.injEq] at hr; subst hr
        refine ⟨.int k (if n > m then n else m), fun _ _ => by simp [Builtin.max_, Builtin.max2, List.foldlM], fun s => ?_⟩
        have : (bif decide (m < n) then n else m) = if n > m then n else m := by by_cases h : m < n <;> simp [h]
        rw [this]; refine intE_sound ?_; split <;> assumption
  · cases hr

theorem pick_sound {s1 s2 s3 : Nat} {x y z r : Ent} {u v t : Value} {c : Bool} (hx : EntR g w.heap s1 x u) (hy : EntR g w.heap s2 y v) (hz : EntR g w.heap s3 z t) (hr : pickE x y z = some (c, r)) (hc : c = true) :
    ∃ b, u = .bool b ∧ ∀ s, EntR g w.heap s r (if b then v else t) := by
  unfold pickE at hr
  split at hr
  · cases hr
  · rename_i cv hcv
    have := asB_inv hx hcv; subst this
    refine ⟨cv, rfl, fun s => ?_⟩
    split at hr
    · injection hr with hr; injection hr with hr1 hr2; subst hr2
      have h1 := asB_inv hy rfl
      have h2 := asB_inv hz rfl
      subst h1; subst h2
      cases cv <;> exact boolE_sound
    · injection hr with hr; injection hr with hr1 hr2; subst hr2; subst hc
      have h2 := asB_inv hz rfl; subst h2
      cases cv
      · exact boolE_sound
      · cases hr1
    · injection hr with hr; injection hr with hr1 hr2; subst hr2; subst hc
      have h2 := asB_inv hy rfl; subst h2
      cases cv
      · cases hr1
      · exact boolE_sound
    · injection hr with hr; injection hr with hr1 hr2; subst hr2; subst hc
      have h2 := asB_inv hz rfl; subst h2
      cases cv
      · exact boolE_sound
      · cases hr1
    · injection hr with hr; injection hr with hr1 hr2; subst hr2; subst hc
      have h2 := asB_inv hy rfl; subst h2
      cases cv
      · cases hr1
      · exact boolE_sound
    · cases hr

end
end Go.Proofs.YtkoifikjfnbcpaaEv
