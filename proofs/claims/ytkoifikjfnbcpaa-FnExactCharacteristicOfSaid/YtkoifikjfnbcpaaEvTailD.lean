/- Appending, at the state: the whole. -/
import Derived.Test.YtkoifikjfnbcpaaEvTailC
set_option linter.unusedVariables false
set_option linter.unusedSimpArgs false
namespace Go.Proofs.YtkoifikjfnbcpaaEv
open Go Go.RowKit

section
variable {P : Program} {T : TTab} {n : NS} {w0 w : World} {W : Nat → Prop} {g : Gh} {get : Nat → Ent} {a : Act} {d : Nat}

theorem St.putK {env : Env} {k : Nat} {g' : Gh} {w' : World} {e : Ent} {v : Value} (st : St n w0 W g env.get a w) (hd : n.has d) (x : ExtK k g w.heap g' w'.heap) (inv : Inv g' w0.heap w'.heap W)
    (os : w'.os = w.os) (tape : w'.tape = w.tape) (output : w'.output = w.output) (hl : litTag k env = false) (he : EntR g' w'.heap d e v) :
    St n w0 W g' ((env.map (killIf (Leaf.isRt k))).put d e).get (a.put (some d) v) w' where
  inv := inv
  ent s := by
    rw [put_getD (by rw [st.sz.1]; exact hd.1), Env.get_put]
    by_cases h : s = d
    · subst h; simp only [if_true]; exact he
    · simp only [if_neg h]
      rw [Env.get_map _ rfl]
      unfold killIf
      cases hq : (env.get s).any (Leaf.isRt k) with
      | true => trivial
      | false => exact (st.ent s).extK x hq fun t u pp h => litTag_get hl h
  sz := st.szPut hd
  df := by simp [Act.put, st.df]
  os := os.trans st.os
  tape := tape.trans st.tape
  output := output.trans st.output

theorem litTag_all {m k : Nat} : ∀ {ms : List Nat} {env : Env}, litTag m (absorbAll k ms env) = litTag m env
  | [], env => rfl
  | x :: r, env => by show litTag m (absorbAll k r _) = _; rw [litTag_all, litTag_map]

/-- What is appended. -/
theorem src_sound {el : TypeId} {u : Ty} {s : Nat} {x : Ent} {ls : List Leaf} {v : Value} {y : List u.den} (he : EntR g w.heap s x v) (hs : srcOf el u x = some (ls, y)) :
    ∃ cs bs blk bs', LeavesB g w.heap ls cs bs ∧ SlR w.heap el u.size (Rd w.heap u) y v blk bs' ∧ bs'.Sublist bs := by
  unfold srcOf at hs
  split at hs
  · rename_i e2 u2 pp
    cases hq : (Ty.slice e2 u2).eqb (.slice el u) with
    | false => rw [hq] at hs; cases hs
    | true =>
      rw [hq] at hs; simp only [cond_true] at hs
      have hq := eqb_eq hq
      injection hq with q1 q2; subst q1; subst q2
      split at hs
      · rename_i w1 hw1
        injection hs with hs; injection hs with h1 h2; subst h1; subst h2
        obtain ⟨b, c, bs, h1, h2, h3, h4, h5, h6, h7⟩ := he
        obtain ⟨r1, r2⟩ := lit_rd h6 hw1
        have hz : ∀ (pp : List (List Leaf)) (cs : List Value) (bs : List Nat), PartsB g w.heap u2.size pp cs bs → cs.length = pp.length * u2.size → ∀ ls ∈ pp, sizes ls = u2.size := by
          intro pp
          induction pp with
          | nil => intro cs bs _ _ ls hls; cases hls
          | cons x r ih =>
            rintro cs bs ⟨b1, b2, k1, k2, k3⟩ hl ls hls
            simp only [List.length_cons, Nat.succ_mul] at hl
            rcases List.mem_cons.1 hls with rfl | hls
            · have := k1.length; rw [← this]; simp; omega
            · exact ih _ _ k2 (by simp; omega) ls hls
        refine ⟨c.toList, bs, some b, bs, parts_flat (hz _ _ _ h6 (by simpa using h3)) h6, .inr ⟨b, 0, pp.length, c, (0, 0), by rw [r2]; exact h1, rfl, by rw [r2]; exact Nat.le_refl _, h2, by omega, by simpa using r1⟩, List.Sublist.refl _⟩
      · cases hs
  · rename_i l
    cases hq : l.ty.eqb (.slice el u) with
    | false => rw [hq] at hs; cases hs
    | true =>
      rw [hq] at hs; simp only [cond_true] at hs
      have hq := eqb_eq hq
      split at hs
      · rename_i w1 hw1
        injection hs with hs; injection hs with h1 h2; subst h1; subst h2
        obtain ⟨bs, hl, hc⟩ := val1 he
        have hr := hl.rd
        obtain ⟨hd, blk, bs', h1, h2, h3⟩ := cast_rd hw1 hr
        injection h1 with h1 _
        subst h1; subst h3
        exact ⟨[v], _, blk, bs', hl.many, h2, List.sublist_append_right _ _⟩
      · cases hs
  · cases hs

/-- Two rows one behind the other, read in a memory where they lie as before. -/
theorem join_rd {h h' : Mem} {u : Ty} {v y : List u.den} {old news X : List Value} {b1 b2 : List Nat} (h1 : RdL (Rd h u) u.size v old b1) (h2 : RdL (Rd h u) u.size y news b2)
    (hl : old.length = v.length * u.size) (hX : ∀ j, j < (v.length + y.length) * u.size → X[j]? = (old ++ news)[j]?) (hb : ∀ b, b ∈ b1 ∨ b ∈ b2 → h'[b]? = h[b]?) :
    RdL (Rd h' u) u.size (v ++ y) X (b1 ++ b2) := by
  have := (h1.append hl h2).take (cs' := X) (fun j hj => hX j (by simpa using hj))
  exact this.mono fun x cs b hm hx => hx.frame fun z hz => hb z (List.mem_append.1 (hm z hz))

theorem append_core {ats : Array TypeId} {ty e' : TypeId} {u' : Ty} {k s1 : Nat} {ms : List Nat} {lin ok strict : Bool} {v0 y : List u'.den} {va vx : Value} {env : Env} {news : List Value} {bsw : List Nat} (hwal : ∀ b, W b → g.al b) (st : St n w0 W g env.get a w) (hd : n.has d)
    (he1 : EntR g w.heap s1 (.val false [.rt e' u' k false lin strict v0]) va) (hok : okTags k ms env = true) (take1 : ∀ b ∈ bsw, g.kd b = .fz ∨ ∃ m ∈ ms, g.kd b = .mu m) (take2 : ok = true → bsw.Nodup ∧ ∀ b ∈ bsw, g.own b ∈ ms)
    (hltw : ∀ b ∈ bsw, b < w.heap.size) (n2 : news.length = y.length * u'.size) (n3 : RdL (Rd w.heap u') u'.size y news bsw)
    (rfit : ∀ (base : Option Addr) (cap : Nat) (w' : World), va = .slice base v0.length cap → v0.length + y.length ≤ cap → (match base with | some a => storeCells (a.add (v0.length * u'.size)) news | none => pure () : Sem Unit).run P w = .ok () w' →
      (Builtin.append_ ats ty #[va, vx]).run P w = .ok (.slice base (v0.length + y.length) cap) w')
    (rgrow : ∀ (base : Option Addr) (cap : Nat) (old : List Value), va = .slice base v0.length cap → ¬ v0.length + y.length ≤ cap → (∀ w' : World, w'.heap = w.heap → (Builtin.firstCells u'.size v0.length (.slice base v0.length cap)).run P w' = .ok old.toArray w') →
      ∃ cap' rest w', (Builtin.append_ ats ty #[va, vx]).run P w = .ok (.slice (some ⟨w.heap.size, 0, none⟩) (v0.length + y.length) cap') w' ∧ w'.heap = w.heap.push (.cells (old ++ news ++ rest).toArray e') ∧
        w'.os = w.os ∧ w'.tape = w.tape ∧ w'.output = w.output ∧ v0.length + y.length ≤ cap' ∧ rest.length = (cap' - (v0.length + y.length)) * u'.size) :
    ∃ g' v w', (Builtin.append_ ats ty #[va, vx]).run P w = .ok v w' ∧ g'.al = g.al ∧ St n w0 W g' (((absorbAll k ms env).map (killIf (Leaf.isRt k))).put d (.val false [.rt e' u' k false (lin && ok) strict (v0 ++ y)])).get (a.put (some d) v) w' := by
  simp only [okTags, Bool.and_eq_true, List.all_eq_true, Bool.not_eq_true'] at hok
  obtain ⟨⟨hk0, hkl⟩, hms⟩ := hok
  have hk0 := nbeq_ne hk0
  obtain ⟨st1, ar⟩ := absorbAll_sound hk0 hwal st (fun m hm => by have := hms m hm; exact ⟨nbeq_ne this.1.1, nbeq_ne this.1.2, this.2⟩)
  generalize Gh.absorbs k ms g = g1 at st1 ar
  have hkms : k ∉ ms := fun hk => nbeq_ne (hms k hk).1.2 rfl
  obtain ⟨bsl, hl, hc⟩ := val1 he1
  obtain ⟨hd', blk, bs', c0, c0', c1, c2, c3, c4, c5, c6⟩ := hl
  injection c0 with c0 _
  have hlt := c3.lt
  subst c0
  have fzs : ∀ b, b ∈ bs' ∨ b ∈ bsw → g1.kd b = .fz := by
    rintro b (hb | hb)
    · exact ar.fz b (c4 b hb)
    · rcases take1 b hb with q | ⟨m, q1, q2⟩
      · exact ar.fz b q
      · exact ar.inn b m q2 q1
  have nd : (lin && ok) = true → (∀ b ∈ bs' ++ bsw, g1.own b = k) ∧ (bs' ++ bsw).Nodup := by
    intro hlo
    simp only [Bool.and_eq_true] at hlo
    obtain ⟨d1, d2⟩ := c6 hlo.1
    obtain ⟨d3, d4⟩ := take2 hlo.2
    refine ⟨fun b hb => ?_, List.nodup_append.2 ⟨d2, d3, fun p hp q hq e => ?_⟩⟩
    · rcases List.mem_append.1 hb with hb | hb
      · rw [ar.own' b (by rw [d1 b hb]; exact hkms)]; exact d1 b hb
      · exact ar.own b (d4 b hb)
    · subst e
      have := d4 p hq
      rw [d1 p hp] at this; exact hkms this
  have hlk : litTag k (absorbAll k ms env) = false := by rw [litTag_all]; exact hkl
  -- the finish
  have fin : ∀ (g2 : Gh) (hd2 : Value) (w' : World) (b2 : Option Nat), ExtK k g1 w.heap g2 w'.heap → Inv g2 w0.heap w'.heap W → w'.os = w.os → w'.tape = w.tape → w'.output = w.output → g2.al = g1.al →
      hd2 = g2.H k → (strict = true → (hd2 = .slice none 0 0 ↔ v0 ++ y = [])) → SlR w'.heap e' u'.size (Rd w'.heap u') (v0 ++ y) hd2 b2 (bs' ++ bsw) →
      (∀ b, b2 = some b → g2.kd b = .mu k ∧ g2.own b = k ∧ ∃ c, w'.heap[b]? = some (.cells c e' (0, 0))) → hd2.cells = #[hd2] →
      (Builtin.append_ ats ty #[va, vx]).run P w = .ok hd2 w' →
      ∃ g' v w', (Builtin.append_ ats ty #[va, vx]).run P w = .ok v w' ∧ g'.al = g.al ∧ St n w0 W g' (((absorbAll k ms env).map (killIf (Leaf.isRt k))).put d (.val false [.rt e' u' k false (lin && ok) strict (v0 ++ y)])).get (a.put (some d) v) w' := by
    intro g2 hd2 w' b2 f1 f2 f3 f4 f5 f6 f7 f8 f9 f10 f11 f12
    refine ⟨g2, hd2, w', f12, f6.trans ar.al, ?_⟩
    refine st1.putK hd f1 f2 f3 f4 f5 hlk (LeafB.val1 (bs := b2.toList ++ (bs' ++ bsw)) ?_ f11 d)
    refine ⟨hd2, b2, bs' ++ bsw, rfl, rfl, fun _ => f7, f8, f9, fun b hb => ?_, f10, fun hlo => ⟨fun b hb => ?_, (nd hlo).2⟩⟩
    · have hbl : b < w.heap.size := by
        rcases List.mem_append.1 hb with q | q
        · exact hlt.2 b q
        · exact hltw b q
      rw [f1.kd b hbl]; exact fzs b (List.mem_append.1 hb)
    · have hbl : b < w.heap.size := by
        rcases List.mem_append.1 hb with q | q
        · exact hlt.2 b q
        · exact hltw b q
      rw [f1.own b hbl]; exact (nd hlo).1 b hb
  -- room or not
  have shape : ∃ base cap, va = .slice base v0.length cap ∧ (base = none → v0.length = 0 ∧ cap = 0) := by
    rcases c3 with ⟨q1, q2, _⟩ | ⟨b, o, cap, c, fr, q, _⟩
    · exact ⟨none, 0, by rw [q1, q2]; rfl, fun _ => ⟨by rw [q2]; rfl, rfl⟩⟩
    · exact ⟨_, cap, q, fun h => by cases h⟩
  obtain ⟨base, cap, hva2, hbase⟩ := shape
  by_cases hfit : v0.length + y.length ≤ cap
  · -- it fits
    let g2 : Gh := { g1 with H := fun t => if t = k then .slice base (v0.length + y.length) cap else g1.H t }
    have e2 : ∀ w' : World, w.heap.size ≤ w'.heap.size → (∀ b, b < w.heap.size → g1.kd b ≠ .mu k → w'.heap[b]? = w.heap[b]?) → ExtK k g1 w.heap g2 w'.heap := fun w' q1 q2 =>
      ⟨q1, q2, fun _ _ => rfl, fun _ _ => rfl, fun t ht => if_neg ht, rfl⟩
    cases base with
    | none =>
      obtain ⟨z1, z2⟩ := hbase rfl
      have z3 : y = [] := List.eq_nil_of_length_eq_zero (by omega)
      have z4 : v0 = [] := List.eq_nil_of_length_eq_zero z1
      refine fin g2 (.slice none (v0.length + y.length) cap) w none (e2 w (Nat.le_refl _) fun _ _ _ => rfl) ⟨st1.inv.size, st1.inv.old, st1.inv.kd, st1.inv.no, st1.inv.al, st1.inv.own, st1.inv.wr⟩ rfl rfl rfl rfl
        (by simp [g2]) (fun _ => by subst z3; subst z4; subst z2; simp) ?_ (fun _ h => by cases h) rfl ?_
      · subst z3; subst z4; subst z2
        have hb1 : bs' = [] := by
          rcases c3 with ⟨_, _, _, q⟩ | ⟨b, o, cap, c, fr, q, q2, q3, q4, q5, q6⟩
          · exact q
          · exact q6
        have hb2 : bsw = [] := n3
        subst hb1; subst hb2
        exact .inl ⟨rfl, rfl, rfl, rfl⟩
      · exact rfit none cap w hva2 hfit rfl
    | some ad =>
      rcases c3 with ⟨q1, _⟩ | ⟨b, o, cap2, c, fr, q1, q2, q3, q4, q5, q6⟩
      · rw [hva2] at q1; cases q1
      · rw [hva2] at q1
        injection q1 with q1a q1b q1c
        injection q1a with q1a
        subst q1a; subst q1c; subst q2
        obtain ⟨m1, m2, c', m3⟩ := c5 b rfl
        rw [q4] at m3; injection m3 with m3
        have hfr : fr = (0, 0) := by injection m3
        have hcc : c' = c := by injection m3 with m3; exact m3.symm
        subst hfr
        have m1' : g1.kd b = .mu k := ar.mu b k m1 hkms
        have m2' : g1.own b = k := by rw [ar.own' b (by rw [m2]; exact hkms)]; exact m2
        have hcap : (v0.length + y.length) * u'.size ≤ cap * u'.size := Nat.mul_le_mul_right _ hfit
        rw [Nat.add_mul] at hcap
        have hroom : o + v0.length * u'.size + news.length ≤ c.size := by omega
        have ones : ∀ z ∈ news, z.oneCell' = true := n3.cells1 (fun x cs b hx => hx.cells1) n2
        have hrun := run_storeCells_at (P := P) b (o + v0.length * u'.size) e' news 0 c w q4 (by omega) ones
        simp only [Nat.add_zero] at hrun
        let X := (c.toList.take (o + v0.length * u'.size) ++ news ++ c.toList.drop (o + v0.length * u'.size + news.length)).toArray
        have hX : X = (splice c.toList (o + v0.length * u'.size) news).toArray := rfl
        have hXs : X.size = c.size := by rw [hX]; have := splice_length c.toList (o + v0.length * u'.size) news (by simpa using hroom); simpa using this
        have hb' : (w.setRow b X).heap[b]? = some (.cells X e' (0, 0)) := setRow_heap w b c X e' (0, 0) q4
        have hoth : ∀ z, z ≠ b → (w.setRow b X).heap[z]? = w.heap[z]? := fun z hz => setRow_other w b z X hz
        have hsz : (w.setRow b X).heap.size = w.heap.size := by simp [World.setRow]
        have hin : b < w.heap.size ∧ (w0.heap.size ≤ b ∨ W b) := by
          rcases st1.inv.kd b with q | q | q
          · rw [m1'] at q; cases q
          · rw [m1'] at q; cases q
          · exact q
        refine fin g2 (.slice (some ⟨b, o, none⟩) (v0.length + y.length) cap) (w.setRow b X) (some b)
          (e2 _ (by rw [hsz]; exact Nat.le_refl _) fun z _ hz => hoth z (fun e => by subst e; exact hz m1')) ⟨by rw [hsz]; exact st1.inv.size, fun z hz hw => ?_, fun z => by rw [hsz]; exact st1.inv.kd z, st1.inv.no, st1.inv.al, fun z hz => by rw [hsz]; exact st1.inv.own z hz, fun z hz => ?_⟩ rfl rfl rfl rfl
          (by simp [g2]) (fun hst => ?_) ?_ (fun z hz => ?_) rfl ?_
        · have : z ≠ b := by
            intro q; subst q
            rcases hin.2 with q | q
            · omega
            · exact hw q
          rw [hoth z this]; exact st1.inv.old z hz hw
        · by_cases q : z = b
          · subst q; exact ⟨X, e', hb'⟩
          · rw [hoth z q]; exact st1.inv.wr z hz
        · constructor
          · intro q; cases q
          · intro q
            have := (c2 hst).2 (List.append_eq_nil_iff.1 q).1
            rw [hva2] at this; cases this
        · refine .inr ⟨b, o, cap, X, (0, 0), by simp, rfl, by simpa using hfit, hb', by rw [hXs]; exact q5, ?_⟩
          have old : RdL (Rd w.heap u') u'.size v0 ((c.toList.drop o).take (v0.length * u'.size)) bs' := q6.take fun j hj => by rw [List.getElem?_take_of_lt hj]
          have olen : ((c.toList.drop o).take (v0.length * u'.size)).length = v0.length * u'.size := by simp; omega
          refine join_rd old n3 olen (fun j hj => ?_) (fun z hz => hoth z (fun e => by subst e; rw [fzs z hz] at m1'; cases m1'))
          rw [Nat.add_mul] at hj
          rw [hX, List.toList_toArray, List.getElem?_drop, splice_get _ _ _ (by simpa using hroom)]
          by_cases hjj : j < v0.length * u'.size
          · rw [if_neg (by omega), List.getElem?_append_left (by omega), List.getElem?_take_of_lt hjj, List.getElem?_drop]
          · rw [if_pos (by omega), List.getElem?_append_right (by omega), olen]
            congr 1; omega
        · injection hz with hz; subst hz
          exact ⟨m1', m2', X, hb'⟩
        · exact rfit _ _ _ hva2 hfit (by show (storeCells ((⟨b, o, none⟩ : Addr).add (v0.length * u'.size)) news).run P w = _; rw [addr_add]; exact hrun)
  · -- it grows
    obtain ⟨old, o1, o2, o3⟩ := first_of (P := P) c3
    rw [hva2] at o1
    obtain ⟨cap', rest, w', r1, r2, r3, r4, r5, r6, r7⟩ := rgrow base cap old hva2 hfit (fun w' hw' => (o1 w' hw').2)
    let g2 : Gh := { g1 with kd := fun b => if b = w.heap.size then .mu k else g1.kd b, own := fun b => if b = w.heap.size then k else g1.own b, H := fun t => if t = k then .slice (some ⟨w.heap.size, 0, none⟩) (v0.length + y.length) cap' else g1.H t }
    have hnew : w'.heap[w.heap.size]? = some (.cells (old ++ news ++ rest).toArray e' (0, 0)) := by rw [r2]; simp
    have hold : ∀ b, b < w.heap.size → w'.heap[b]? = w.heap[b]? := fun b hb => by rw [r2, Array.getElem?_push, if_neg (by omega)]
    have hsz : w'.heap.size = w.heap.size + 1 := by rw [r2]; simp
    refine fin g2 (.slice (some ⟨w.heap.size, 0, none⟩) (v0.length + y.length) cap') w' (some w.heap.size)
      ⟨by omega, fun b hb _ => hold b hb, fun b hb => if_neg (by omega), fun b hb => if_neg (by omega), fun t ht => if_neg ht, rfl⟩
      ⟨by have := st1.inv.size; omega, fun b hb hw => by rw [hold b (by have := st1.inv.size; omega)]; exact st1.inv.old b hb hw, fun b => ?_, fun b hb => ?_, fun b hb => ?_, fun b hb => ?_, fun b hb => ?_⟩ r3 r4 r5 rfl
      (by simp [g2]) (fun _ => ⟨fun q => (by cases q), fun q => ?_⟩) (.inr ⟨w.heap.size, 0, cap', (old ++ news ++ rest).toArray, (0, 0), by simp, rfl, by simpa using r6, hnew, ?_, ?_⟩) (fun b hb => ?_) rfl r1
    · by_cases e : b = w.heap.size
      · subst e; exact .inr (.inr ⟨by omega, .inl st1.inv.size⟩)
      · simp only [g2, if_neg e]
        rcases st1.inv.kd b with q | q | q
        · exact .inl q
        · exact .inr (.inl q)
        · exact .inr (.inr ⟨by omega, q.2⟩)
    · by_cases e : b = w.heap.size
      · subst e; simp [g2] at hb
      · simp only [g2, if_neg e] at hb; exact st1.inv.no b hb
    · by_cases e : b = w.heap.size
      · subst e; simp [g2] at hb
      · simp only [g2, if_neg e] at hb; exact st1.inv.al b hb
    · by_cases e : b = w.heap.size
      · subst e; exact ⟨by omega, .inl st1.inv.size⟩
      · simp only [g2, if_neg e] at hb; have := st1.inv.own b hb; exact ⟨by omega, this.2⟩
    · by_cases e : b = w.heap.size
      · subst e; exact ⟨_, _, hnew⟩
      · simp only [g2, if_neg e] at hb
        have hlt := (st1.inv.own b hb).1
        rw [hold b hlt]; exact st1.inv.wr b hb
    · have : v0.length + y.length = 0 := by rw [← List.length_append, q]; rfl
      omega
    · have e1 : (old ++ news ++ rest).toArray.size = cap' * u'.size := by
        simp only [List.size_toArray, List.length_append, o2, n2, r7]
        rw [← Nat.add_mul, ← Nat.add_mul]; congr 1; omega
      omega
    · refine join_rd o3 n3 o2 (fun j hj => ?_) (fun z hz => hold z (by rcases hz with q | q; exact hlt.2 z q; exact hltw z q))
      simp only [List.drop_zero]
      rw [List.getElem?_append_left (by rw [Nat.add_mul] at hj; simp only [List.length_append]; omega)]
    · injection hb with hb; subst hb
      exact ⟨if_pos rfl, if_pos rfl, _, hnew⟩

theorem append_sound {t ty el : TypeId} {u : Ty} {s x : Operand} {es ex : Ent} {env env' : Env} (hT : TOK P T) (k0 : TyOK P T t (.slice el u)) (hwal : ∀ b, W b → g.al b) (st : St n w0 W g env.get a w) (hd : n.has d)
    (hs : opE env.get s = some es) (hx : opE env.get x = some ex) (h : appendE el u d es ex env = some (true, env')) :
    ∃ g' v w', (Builtin.append_ #[t, t] ty #[a.eval s, a.eval x]).run P w = .ok v w' ∧ g'.al = g.al ∧ St n w0 W g' env'.get (a.put (some d) v) w' := by
  obtain ⟨s1, he1, _⟩ := opE_sound st.ent hs
  obtain ⟨s2, he2, _⟩ := opE_sound st.ent hx
  unfold appendE at h
  split at h
  · rename_i l
    split at h
    · rename_i e' u' k lin strict v0
      cases hq : (Ty.slice e' u').eqb (.slice el u) with
      | false => rw [hq] at h; cases h
      | true =>
        rw [hq] at h; simp only [cond_true] at h
        have hq := eqb_eq hq
        injection hq with q1 q2; subst q1; subst q2
        split at h
        · rename_i v ls y hv hsrc
          obtain ⟨ee, hv⟩ := Ty.cast_eq hv
          have hv : v0 = v := hv
          subst hv
          split at h
          · rename_i ms ok htake
            cases hok : okTags k ms env with
            | false => rw [hok] at h; cases h
            | true =>
              rw [hok] at h; simp only [cond_true, Option.some.injEq, Prod.mk.injEq] at h
              obtain ⟨hgrow, henv⟩ := h
              obtain ⟨cs, bsx, blkx, bsw, x1, x2, x3⟩ := src_sound he2 hsrc
              -- what the new elements lead to
              have take : (∀ b ∈ bsw, g.kd b = .fz ∨ ∃ m ∈ ms, g.kd b = .mu m) ∧ (ok = true → bsw.Nodup ∧ ∀ b ∈ bsw, g.own b ∈ ms) := by
                cases hf : u'.flat with
                | true =>
                  rw [hf] at htake; simp only [cond_true, Option.some.injEq, Prod.mk.injEq] at htake
                  have : bsw = [] := by
                    rcases x2 with ⟨_, _, _, q⟩ | ⟨_, _, _, _, _, _, _, _, _, _, q⟩
                    · exact q
                    · exact q.flat fun x cs b hx => hx.flat hf
                  subst this; exact ⟨by simp, fun _ => ⟨by simp, by simp⟩⟩
                | false =>
                  rw [hf] at htake
                  obtain ⟨q1, q2⟩ := takeIn_sound x1 htake
                  exact ⟨fun b hb => q1 b (x3.subset hb), fun hh => ⟨(q2 hh).1.sublist x3, fun b hb => ((q2 hh).2 b (x3.subset hb)).1⟩⟩
              obtain ⟨take1, take2⟩ := take
              have hgr : v0.length + y.length ≤ 1099511627776 := by simpa [growOk] using hgrow
              generalize a.eval x = vx at x2 ⊢
              obtain ⟨news, n1, n2, n3⟩ := first_of (P := P) x2
              rw [← henv]
              refine append_core (P := P) (ty := ty) hwal st hd he1 hok take1 take2 x2.lt.2 n2 n3 (fun base cap w' hva hfit hst => ?_) (fun base cap old hva hfit ho => ?_)
              · rw [hva]
                exact run_append_fit (w := w) k0 hT (n1 w rfl).1 (n1 w rfl).2 hfit hst
              · rw [hva]
                exact run_append_grow (w := w) (ty := ty) k0 hT (n1 w rfl).1 (fun w' hw' => (n1 w' hw').2) hfit ho hgr
          · cases h
        · cases h
    · cases h
  · cases h

theorem appendM_sound {t ty ti el : TypeId} {u : Ty} {kk : IntKind} {s x : Operand} {es ex : Ent} {env env' : Env} (hT : TOK P T) (k0 : TyOK P T t (.slice el u)) (hti : P.underlying ti = some (.int kk)) (hwal : ∀ b, W b → g.al b) (st : St n w0 W g env.get a w) (hd : n.has d)
    (hs : opE env.get s = some es) (hx : opE env.get x = some ex) (h : appendME el u d es ex env = some (true, env')) :
    ∃ g' v w', (Builtin.append_ #[t, ti] ty #[a.eval s, a.eval x]).run P w = .ok v w' ∧ g'.al = g.al ∧ St n w0 W g' env'.get (a.put (some d) v) w' := by
  obtain ⟨s1, he1, -⟩ := opE_sound st.ent hs
  obtain ⟨s2, he2, -⟩ := opE_sound st.ent hx
  unfold appendME at h
  split at h
  · rename_i l
    split at h
    · rename_i e' u' k lin strict v0
      cases hq : (Ty.slice e' u').eqb (.slice el u) with
      | false => rw [hq] at h; cases h
      | true =>
        rw [hq] at h; simp only [cond_true] at h
        have hq := eqb_eq hq
        injection hq with q1 q2; subst q1; subst q2
        split at h
        · rename_i v ik m hv hm
          obtain ⟨ee, hv⟩ := Ty.cast_eq hv
          have hv : v0 = v := hv
          subst hv
          cases hok : okTags k [] env with
          | false => rw [hok] at h; cases h
          | true =>
            rw [hok] at h; simp only [cond_true, Option.some.injEq, Prod.mk.injEq, Bool.and_eq_true, decide_eq_true_eq] at h
            obtain ⟨⟨h0, hgrow⟩, henv⟩ := h
            have hgr : v0.length + m.toNat ≤ 1099511627776 := by simpa [growOk] using hgrow
            have hxv := (asI_inv he2 hm).1
            have hz : u'.size ≠ 0 := k0.und.2.2
            have hfl : ∀ (c : Nat), (List.replicate c (zc u')).flatten.length = c * u'.size := by
              intro c
              induction c with
              | zero => simp
              | succ c ih => simp [List.replicate_succ, zc_length, Nat.succ_mul]; simp at ih; omega
            have n3 : RdL (Rd w.heap u') u'.size (List.replicate m.toNat u'.dflt) (List.replicate m.toNat (zc u')).flatten [] := by
              have := RdL.replicate (zc_length u') (zero_rd w.heap u') m.toNat []
              simpa using this
            have key := append_core (P := P) (ty := ty) (ats := #[t, ti]) (vx := a.eval x) (ok := true) (ms := []) hwal st hd he1 hok (fun b hb => by cases hb) (fun _ => ⟨by simp, fun b hb => by cases hb⟩) (fun b hb => by cases hb)
              (by rw [hfl]; simp) n3 (fun base cap w' hva hfit hst => by
                rw [hva, hxv]
                simp only [List.length_replicate] at hfit hst ⊢
                exact run_appendM_fit (w := w) k0 hti hT (by omega) hfit hst (by omega)) (fun base cap old hva hfit ho => by
                rw [hva, hxv]
                simp only [List.length_replicate] at hfit ⊢
                exact run_appendM_grow (w := w) (ty := ty) k0 hti hT (by omega) hfit ho hgr (by omega))
            rw [← henv]
            simpa [absorbAll] using key
        · cases h
    · cases h
  · cases h

end
end Go.Proofs.YtkoifikjfnbcpaaEv
