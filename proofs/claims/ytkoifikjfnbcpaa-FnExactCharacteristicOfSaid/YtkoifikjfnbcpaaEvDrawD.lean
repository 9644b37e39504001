/- A region whose order the tape tells: every order does the same. -/
import Derived.Test.YtkoifikjfnbcpaaEvDrawC
set_option linter.unusedVariables false
set_option linter.unusedSimpArgs false
namespace Go.Proofs.YtkoifikjfnbcpaaEv
open Go Go.RowKit

structure LRel (N : Nat) (listed : Array Bool) (R : List Nat) : Prop where
  size : listed.size = N
  at_ : ∀ i, i < N → listed[i]? = some (decide (i ∉ R))

section
variable {α : Type} {P : Program} {T : TTab} {K : CTab} {n : NS} {w0 : World} {W : Nat → Prop} {L : List Oper} {A : Nat → Prop}

theorem LRel.set {N : Nat} {listed : Array Bool} {R : List Nat} (x : LRel N listed R) (hn : R.Nodup) (i : Nat) : LRel N (listed.setIfInBounds i true) (R.erase i) where
  size := by simp [x.size]
  at_ j hj := by
    rw [Array.getElem?_setIfInBounds]
    by_cases h : i = j
    · subst h
      rw [if_pos rfl, if_pos (by rw [x.size]; exact hj)]
      congr 1
      have hni : i ∉ R.erase i := fun h => (hn.mem_erase_iff.1 h).1 rfl
      exact (decide_eq_true hni).symm
    · rw [if_neg h, x.at_ j hj]
      congr 1
      apply Bool.eq_iff_iff.2
      simp only [decide_eq_true_eq, hn.mem_erase_iff]
      constructor
      · intro h1 h2; exact h1 h2.2
      · intro h1 h2; exact h1 ⟨fun e => h e.symm, h2⟩

theorem ready_iff {listed : Array Bool} {R : List Nat} (x : LRel L.length listed R) {i : Nat} : i ∈ Region.ready .any L.toArray listed ↔ ∃ o, L[i]? = some o ∧ i ∈ R ∧ ∀ j ∈ aftB o, j < L.length ∧ j ∉ R := by
  unfold Region.ready
  rw [List.mem_filter]
  simp only [List.mem_range, List.size_toArray, List.getElem?_toArray, Bool.and_eq_true, Bool.not_eq_true']
  have ht : ∀ j, j < L.length → listed.getD j true = decide (j ∉ R) := fun j hj => by rw [Array.getD_eq_getD_getElem?, x.at_ j hj]; rfl
  have hf : ∀ j, listed.getD j false = true ↔ j < L.length ∧ j ∉ R := by
    intro j
    rw [Array.getD_eq_getD_getElem?]
    by_cases hj : j < L.length
    · rw [x.at_ j hj]; simp [hj]
    · rw [Array.getElem?_eq_none (by rw [x.size]; omega)]; simp [hj]
  constructor
  · rintro ⟨h1, h2, h3⟩
    rw [List.getElem?_eq_getElem h1] at h3
    simp only [Option.map_some, Option.getD_some] at h3
    refine ⟨L[i], List.getElem?_eq_getElem h1, by rw [ht i h1] at h2; simpa using h2, fun j hj => ?_⟩
    unfold aftB at hj
    obtain ⟨e, he, rfl⟩ := List.mem_map.1 hj
    obtain ⟨he1, he2⟩ := List.mem_filter.1 he
    rw [Array.all_eq_true_iff_forall_mem] at h3
    have := h3 e (by simpa using he1)
    rw [he2] at this
    simp only [Bool.not_true, Bool.false_or] at this
    exact (hf _).1 this
  · rintro ⟨o, h1, h2, h3⟩
    have hlt : i < L.length := by
      rcases Nat.lt_or_ge i L.length with q | q
      · exact q
      · rw [List.getElem?_eq_none q] at h1; cases h1
    refine ⟨hlt, by rw [ht i hlt]; simpa using h2, ?_⟩
    rw [h1]
    simp only [Option.map_some, Option.getD_some]
    rw [Array.all_eq_true_iff_forall_mem]
    intro e he
    cases hb : Region.binds .any e with
    | false => rfl
    | true =>
      simp only [Bool.not_true, Bool.false_or]
      exact (hf _).2 (h3 e.on (List.mem_map.2 ⟨e, List.mem_filter.2 ⟨by simpa using he, hb⟩, rfl⟩))

theorem wpOp_seq {Q : Exit → Act → World → Prop} {Kp : Act → World → Prop} {i : Nat} {is : List Nat} {env : Env} {k : Env → Option α} {y : α} {a : Act} {w : World} {g : Gh} {o : Oper} (hT : TOK P T) (hK : KOK P K) (hwal : ∀ b, W b → A b)
    (hd : ∀ (i : Nat) (o : Oper), L[i]? = some o → ∀ d, o.dst = some d → n.has d) (hi : L[i]? = some o) (h : seqK T K L (i :: is) env k = some y) (st : St n w0 W g env.get a w) (hA : g.al = A)
    (hk : ∀ env' a' w' g', seqK T K L is env' k = some y → St n w0 W g' env'.get a' w' → g'.al = A → Kp a' w') : wpOp P L.toArray Q i Kp a w := by
  simp only [wpOp, List.getElem?_toArray, hi]
  simp only [seqK, hi] at h
  obtain ⟨wanted, env1, h1, h2, h3, _⟩ := guardK_inv st h
  have st1 := st.get_eq h2
  rw [h3]
  cases wanted with
  | true =>
    simp only [cond_true] at h1
    simp only [if_true]
    left
    obtain ⟨r, env', q1, q2, q3⟩ := opK_inv h1
    have := stepE_sound (Q := Q) hT hK (fun b hb => by rw [hA]; exact hwal b hb) st1 q1 q2 (hd i o hi)
    refine Oper.wp_mono (fun a' w' hh => ?_) this
    obtain ⟨g', z1, z2⟩ := hh
    exact hk _ _ _ _ q3 z2 (z1.trans hA)
  | false =>
    simp only [cond_false] at h1
    simp only [Bool.false_eq_true, if_false]
    have := st1.undef (hd i o hi)
    exact hk _ _ _ _ h1 (this.get_eq deadE_get) hA

structure Dr (T : TTab) (K : CTab) (L : List Oper) (m : Nat) (get0 : Nat → Ent) (D : List Nat) (es : List Ent) (rds : List (List Nat)) : Prop where
  edges : ∀ (i : Nat) (o : Oper), L[i]? = some o → ∀ j ∈ aftB o, j < i
  tail : ∀ i, m ≤ i → i < L.length → (presL L []).getD i 0 = 2 ^ i - 1
  mN : m ≤ L.length
  facts : ∀ (i : Nat) (o : Oper), i < m → L[i]? = some o → Fact T K L get0 D es rds i o
  lenD : D.length = m
  lenE : es.length = m
  reads : ∀ (j : Nat) (rd : List Nat), rds[j]? = some rd → ∀ s ∈ rd, ∀ x, dIdx D s = some x → x < j ∧ ((presL L []).getD j 0).testBit x = true
  at_ : ∀ (j : Nat) (o : Oper) (d : Nat), j < m → L[j]? = some o → o.dst = some d → creates o = true → ∀ (i : Nat) (e : Ent), es[i]? = some e → i ≠ j → ((presL L []).getD i 0).testBit j = false → e.at d = false
  clean : ∀ (j : Nat) (o : Oper) (d : Nat), j < m → L[j]? = some o → o.dst = some d → creates o = true → ∀ s, (get0 s).at d = false

section
variable {m : Nat} {get0 : Nat → Ent} {D : List Nat} {es : List Ent} {rds : List (List Nat)}

theorem get_lt {L : List Oper} {i : Nat} {o : Oper} (h : L[i]? = some o) : i < L.length := by
  rcases Nat.lt_or_ge i L.length with q | q
  · exact q
  · rw [List.getElem?_eq_none q] at h; cases h

theorem any_tail {Q : Exit → Act → World → Prop} {k : Env → Option α} {y : α} (hT : TOK P T) (hK : KOK P K) (hwal : ∀ b, W b → A b) (hd : ∀ (i : Nat) (o : Oper), L[i]? = some o → ∀ d, o.dst = some d → n.has d) (dr : Dr T K L m get0 D es rds)
    (hk : ∀ env' a' w' g', k env' = some y → St n w0 W g' env'.get a' w' → g'.al = A → Q .normal a' w') : ∀ (fuel i : Nat) {R : List Nat} {listed : Array Bool} {env : Env} {a : Act} {w : World} {g : Gh}, L.length - i ≤ fuel → m ≤ i → i ≤ L.length → R.Nodup → LRel L.length listed R →
    (∀ x, x ∈ R ↔ i ≤ x ∧ x < L.length) → seqK T K L (List.range' i (L.length - i)) env k = some y → St n w0 W g env.get a w → g.al = A → wpAny P .any L.toArray Q fuel listed a w := by
  intro fuel
  induction fuel with
  | zero =>
    intro i R listed env a w g hf hm hi hn x hR hs st hA
    have e : L.length - i = 0 := by omega
    rw [e] at hs
    refine ⟨?_, hk env a w g hs st hA⟩
    apply List.eq_nil_iff_forall_not_mem.2
    intro j hj
    obtain ⟨o, _, h2, _⟩ := (ready_iff x).1 hj
    have := (hR j).1 h2; omega
  | succ fuel ih =>
    intro i R listed env a w g hf hm hi hn x hR hs st hA
    rcases Nat.lt_or_ge i L.length with hlt | hge
    · have ho : L[i]? = some L[i] := List.getElem?_eq_getElem hlt
      have hready : i ∈ Region.ready .any L.toArray listed := (ready_iff x).2 ⟨L[i], ho, (hR i).2 ⟨Nat.le_refl _, hlt⟩, fun j hj => by
        have := dr.edges i _ ho j hj
        exact ⟨by omega, fun h => by have := (hR j).1 h; omega⟩⟩
      refine ⟨fun h => (by rw [h] at hready; cases hready), fun j hj => ?_⟩
      obtain ⟨o, h1, h2, h3⟩ := (ready_iff x).1 hj
      have hji := (hR j).1 h2
      have hje : j = i := by
        rcases Nat.lt_or_ge i j with q | q
        · exfalso
          have := pre_sub (L := L) (S := fun x => x ∉ R) (fun i0 o0 h0 hs0 j0 hj0 hj1 => by
            have e1 := dr.edges i0 o0 h0 j0 hj0
            have e2 := (hR j0).1 hj1
            have e3 := get_lt h0
            exact hs0 ((hR i0).2 ⟨by omega, e3⟩)) j o h1 (fun j0 hj0 => (h3 j0 hj0).2) i (by
              rw [dr.tail j (by omega) hji.2, Nat.testBit_two_pow_sub_one]; simpa using q)
          exact this ((hR i).2 ⟨Nat.le_refl _, hlt⟩)
        · omega
      subst hje
      have hr : List.range' j (L.length - j) = j :: List.range' (j + 1) (L.length - (j + 1)) := by
        rw [show L.length - j = (L.length - (j + 1)) + 1 by omega, List.range'_succ]
      rw [hr] at hs
      refine wpOp_seq hT hK hwal hd h1 hs st hA fun env' a' w' g' q1 q2 q3 => ?_
      refine ih (j + 1) (by omega) (by omega) (by omega) (hn.erase j) (x.set hn j) (fun z => ?_) q1 q2 q3
      rw [hn.mem_erase_iff, hR z]
      omega
    · have hRe : ∀ z, z ∉ R := fun z hz => by have := (hR z).1 hz; omega
      have hnil : Region.ready .any L.toArray listed = [] := by
        apply List.eq_nil_iff_forall_not_mem.2
        intro j hj
        obtain ⟨o, _, h2, _⟩ := (ready_iff x).1 hj
        exact hRe j h2
      have e : L.length - i = 0 := by omega
      rw [e] at hs
      refine ⟨fun _ => hk env a w g hs st hA, fun j hj => ?_⟩
      rw [hnil] at hj; cases hj

theorem len_sub : ∀ {l R : List Nat}, l.Nodup → (∀ z ∈ l, z ∈ R) → l.length ≤ R.length
  | [], _, _, _ => Nat.zero_le _
  | z :: l, R, hn, h => by
    have h1 := h z (by simp)
    have := len_sub (l := l) (R := R.erase z) (List.nodup_cons.1 hn).2 (fun y hy => (List.mem_erase_of_ne (fun e => by subst e; exact (List.nodup_cons.1 hn).1 hy)).2 (h y (by simp [hy])))
    rw [List.length_erase_of_mem h1] at this
    have : 0 < R.length := List.length_pos_of_mem h1
    simp; omega

theorem min_of {R : List Nat} : ∀ x, x ∈ R → ∃ i ∈ R, ∀ j ∈ R, i ≤ j := by
  intro x
  induction x using Nat.strongRecOn with
  | _ x ih =>
    intro hx
    by_cases h : ∃ j ∈ R, j < x
    · obtain ⟨j, h1, h2⟩ := h; exact ih j h2 h1
    · exact ⟨x, hx, fun j hj => by
        rcases Nat.lt_or_ge j x with q | q
        · exact absurd ⟨j, hj, q⟩ h
        · exact q⟩

theorem wanted_of {o : Oper} {get : Nat → Ent} {wanted : Bool} {a : Act} {w : World} {g : Gh} (st : St n w0 W g get a w) (h : WantedIn L get o wanted) : Region.wanted o (yielded L.toArray a.tmps) = wanted := by
  rcases h with ⟨h1, h2⟩ | ⟨j, want, oj, dj, b, hg, hj, hdj, hget, hw⟩ | ⟨j, want, oj, dj, hg, hj, hdj, hget, hw⟩
  · simp [Region.wanted, h1, h2]
  · have hv := st.ent dj; rw [hget] at hv
    have hv := bool_at hv
    have hy : yielded L.toArray a.tmps j = some b := by
      have hlt : dj < a.tmps.size := by
        rcases Nat.lt_or_ge dj a.tmps.size with q | q
        · exact q
        · rw [Array.getD_eq_getD_getElem?, Array.getElem?_eq_none q] at hv; cases hv
      have h2 : a.tmps[dj]? = some (.bool b) := by
        rw [Array.getD_eq_getD_getElem?, Array.getElem?_eq_getElem hlt] at hv
        rw [Array.getElem?_eq_getElem hlt]; congr 1
      simp only [yielded, List.getElem?_toArray, hj, Option.bind_some, hdj, h2]
    rw [hw]
    simp only [Region.wanted, hg, hy]
    cases b <;> cases want <;> rfl
  · have hv := st.ent dj; rw [hget] at hv
    rw [hw]
    simp only [Region.wanted, hg, yielded_undef hj hdj hv]
    rfl

theorem any_pref {Q : Exit → Act → World → Prop} {k : Env → Option α} {y : α} {env1 : Env} (hT : TOK P T) (hK : KOK P K) (hwal : ∀ b, W b → A b) (hd : ∀ (i : Nat) (o : Oper), L[i]? = some o → ∀ d, o.dst = some d → n.has d) (dr : Dr T K L m get0 D es rds)
    (hk : ∀ env' a' w' g', k env' = some y → St n w0 W g' env'.get a' w' → g'.al = A → Q .normal a' w') (he1 : env1.get = mixR get0 D es (fun x => decide (x < m))) (hs : seqK T K L (List.range' m (L.length - m)) env1 k = some y) :
    ∀ (fuel : Nat) {R : List Nat} {listed : Array Bool} {a : Act} {w : World} {g : Gh}, R.length ≤ fuel → R.Nodup → LRel L.length listed R → (∀ x ∈ R, x < L.length) → (∀ (i : Nat) (o : Oper), L[i]? = some o → i ∉ R → ∀ j ∈ aftB o, j ∉ R) →
    (∀ i, m ≤ i → i < L.length → i ∈ R) → St n w0 W g (mixR get0 D es (fun x => decide (x ∉ R))) a w → g.al = A → wpAny P .any L.toArray Q fuel listed a w := by
  intro fuel
  induction fuel with
  | zero =>
    intro R listed a w g hf hn x hlt hdc htl st hA
    have hR : R = [] := List.eq_nil_of_length_eq_zero (by omega)
    subst hR
    have hmN : m = L.length := by
      rcases Nat.lt_or_ge m L.length with q | q
      · have := htl m (Nat.le_refl _) q; cases this
      · have := dr.mN; omega
    refine any_tail hT hK hwal hd dr hk 0 m (R := []) (by omega) (Nat.le_refl _) dr.mN hn x (fun z => by simp; omega) hs (st.get_eq ?_) hA
    rw [he1]; funext s; unfold mixR
    cases hx : dIdx D s with
    | none => rfl
    | some z =>
      have := dIdx_lt hx
      rw [dr.lenD] at this
      simp [this]
  | succ fuel ih =>
    intro R listed a w g hf hn x hlt hdc htl st hA
    by_cases hall : ∀ z, z < m → z ∉ R
    · have hR : ∀ z, z ∈ R ↔ m ≤ z ∧ z < L.length := fun z => ⟨fun h => ⟨by
        rcases Nat.lt_or_ge z m with q | q
        · exact absurd h (hall z q)
        · exact q, hlt z h⟩, fun h => htl z h.1 h.2⟩
      have hlen : L.length - m ≤ fuel + 1 := by
        have hsub : (List.range' m (L.length - m)).length ≤ R.length := by
          have hp : ∀ z ∈ List.range' m (L.length - m), z ∈ R := fun z hz => by
            have := List.mem_range'_1.1 hz
            exact (hR z).2 ⟨by omega, by omega⟩
          exact len_sub List.nodup_range' hp
        simp at hsub; omega
      refine any_tail hT hK hwal hd dr hk (fuel + 1) m (R := R) hlen (Nat.le_refl _) dr.mN hn x hR hs (st.get_eq ?_) hA
      rw [he1]; funext s; unfold mixR
      cases hx : dIdx D s with
      | none => rfl
      | some z =>
        have := dIdx_lt hx
        rw [dr.lenD] at this
        simp [this, hall z this]
    · have hex : ∃ z, z < m ∧ z ∈ R := Classical.byContradiction fun h => hall fun z hz hR => h ⟨z, hz, hR⟩
      obtain ⟨z, hz, hzR⟩ := hex
      refine ⟨fun hnil => ?_, fun i hi => ?_⟩
      · exfalso
        obtain ⟨i, h1, h2⟩ := min_of z hzR
        have hil := hlt i h1
        have : i ∈ Region.ready .any L.toArray listed := (ready_iff x).2 ⟨L[i], List.getElem?_eq_getElem hil, h1, fun j hj => by
          have e := dr.edges i _ (List.getElem?_eq_getElem hil) j hj
          exact ⟨by omega, fun h => by have := h2 j h; omega⟩⟩
        rw [hnil] at this; cases this
      · obtain ⟨o, h1, h2, h3⟩ := (ready_iff x).1 hi
        have hpre : ∀ z, ((presL L []).getD i 0).testBit z = true → z ∉ R := pre_sub (L := L) (S := fun z => z ∉ R) hdc i o h1 (fun j hj => (h3 j hj).2)
        have him : i < m := by
          rcases Nat.lt_or_ge i m with q | q
          · exact q
          · exfalso
            exact hpre z (by rw [dr.tail i q (get_lt h1), Nat.testBit_two_pow_sub_one]; simp; omega) hzR
        obtain ⟨d, e, rd, wanted, f1, f2, f3, f4, f5, f6, f7, f8, f9⟩ := (dr.facts i o him h1).ex
        -- the slots that are read stand as in the text's order
        have same : ∀ s ∈ rd, mixR get0 D es (fun x => decide (x ∉ R)) s = mixR get0 D es (fun x => decide (x < i)) s := by
          intro s hs'
          unfold mixR
          cases hx : dIdx D s with
          | none => rfl
          | some z =>
            obtain ⟨r1, r2⟩ := dr.reads i rd f5 s hs' z hx
            simp only
            rw [decide_eq_true r1, decide_eq_true (hpre z r2)]
        have hw : WantedIn L (mixR get0 D es (fun x => decide (x ∉ R))) o wanted := by
          rcases f7 with q | ⟨j, want, oj, dj, b, q1, q2, q3, q4, q5⟩ | ⟨j, want, oj, dj, q1, q2, q3, q4, q5⟩
          · exact .inl q
          rotate_left
          · refine .inr (.inr ⟨j, want, oj, dj, q1, q2, q3, ?_, q5⟩)
            rw [same dj (by rw [f6]; apply List.mem_append_left; simp [gslot, q1, q2, q3])]; exact q4
          · refine .inr (.inl ⟨j, want, oj, dj, b, q1, q2, q3, ?_, q5⟩)
            rw [same dj (by rw [f6]; apply List.mem_append_left; simp [gslot, q1, q2, q3])]; exact q4
        have next : ∀ {a' : Act} {w' : World} {g' : Gh}, St n w0 W g' (upd (mixR get0 D es (fun x => decide (x ∉ R))) d e) a' w' → g'.al = A → wpAny P .any L.toArray Q fuel (listed.setIfInBounds i true) a' w' := by
          intro a' w' g' st' hA'
          refine ih (R := R.erase i) (by rw [List.length_erase_of_mem h2]; omega) (hn.erase i) (x.set hn i) (fun z hz => hlt z (hn.mem_erase_iff.1 hz).2) (fun i0 o0 h0 hs0 j hj hj' => ?_) (fun z h1' h2' => hn.mem_erase_iff.2 ⟨by omega, htl z h1' h2'⟩) (st'.get_eq ?_) hA'
          · have hj'' := (hn.mem_erase_iff.1 hj').2
            by_cases hi0 : i0 = i
            · subst hi0
              rw [h1] at h0; injection h0 with h0; subst h0
              exact (h3 j hj).2 hj''
            · exact hdc i0 o0 h0 (fun q => hs0 (hn.mem_erase_iff.2 ⟨hi0, q⟩)) j hj hj''
          · funext s
            unfold mixR upd
            by_cases hsd : s = d
            · subst hsd
              rw [if_pos rfl, f3]
              have hni : i ∉ R.erase i := fun h => (hn.mem_erase_iff.1 h).1 rfl
              simp only
              rw [decide_eq_true hni, cond_true, List.getD_eq_getElem?_getD, f4]; rfl
            · rw [if_neg hsd]
              cases hx : dIdx D s with
              | none => simp only [hx]
              | some z =>
                have hzi : z ≠ i := by
                  intro q; subst q
                  have := dIdx_some hx
                  rw [f2] at this; injection this with this; exact hsd this.symm
                simp only [hx]
                congr 1
                apply Bool.eq_iff_iff.2
                simp only [decide_eq_true_eq, hn.mem_erase_iff]
                constructor
                · intro q1 q2; exact q1 ⟨hzi, q2⟩
                · intro q1 q2; exact q1 q2.2
        simp only [wpOp, List.getElem?_toArray, h1]
        rw [wanted_of st hw]
        cases wanted with
        | true =>
          simp only [if_true]
          left
          obtain ⟨r, g1, g2⟩ := f8 rfl
          have hev : evOp T K (mixR get0 D es (fun x => decide (x ∉ R))) o = some r := by
            rw [← g1]
            exact evOp_congr fun s hs' => same s (by rw [f6]; exact List.mem_append_right _ hs')
          refine Oper.wp_mono (fun a' w' hh => ?_) (evOp_sound (Q := Q) hT hK st hev g2 (hd i o h1) fun hc d' hd' s => ?_)
          · obtain ⟨g', z1, z2⟩ := hh
            exact next z2 (z1.trans hA)
          · rw [f1] at hd'; injection hd' with hd'; subst hd'
            unfold mixR
            cases hx : dIdx D s with
            | none => exact dr.clean i o d him h1 f1 hc s
            | some z =>
              simp only
              by_cases hzR' : z ∈ R
              · rw [decide_eq_false (fun q => q hzR')]; exact dr.clean i o d him h1 f1 hc s
              · rw [decide_eq_true hzR']
                have hzi : z ≠ i := fun q => by subst q; exact hzR' h2
                have hzl := dIdx_lt hx
                have hze : z < es.length := by rw [dr.lenE, ← dr.lenD]; exact hzl
                simp only [cond_true]
                have hes : es[z]? = some (es.getD z .dead) := by rw [List.getD_eq_getElem?_getD, List.getElem?_eq_getElem hze]; rfl
                refine dr.at_ i o d him h1 f1 hc z _ hes hzi ?_
                cases hb : ((presL L []).getD z 0).testBit i with
                | false => rfl
                | true =>
                  exfalso
                  have hzm : z < m := by rw [← dr.lenD]; exact hzl
                  have hzL : z < L.length := by have := dr.mN; omega
                  have := pre_sub (L := L) (S := fun z => z ∉ R) hdc z L[z] (List.getElem?_eq_getElem hzL) (hdc z L[z] (List.getElem?_eq_getElem hzL) hzR') i hb
                  exact this h2
        | false =>
          simp only [Bool.false_eq_true, if_false]
          have := st.undef (hd i o h1)
          rw [f1] at this ⊢
          have he := f9 rfl
          subst he
          exact next this hA

end
end
end Go.Proofs.YtkoifikjfnbcpaaEv
