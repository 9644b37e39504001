/- A sum as a polynomial: the walk over the map. -/
import Derived.Test.YtkoifikjfnbcpaaEvSuB
import Derived.Test.YtkoifikjfnbcpaaEvMD
set_option linter.unusedVariables false
set_option linter.unusedSimpArgs false
namespace Go.Proofs.YtkoifikjfnbcpaaEv
open Go Go.RowKit Go.Proofs

def lkeys : List (ex.den × i64.den) → List ex.den
  | [] => []
  | q :: r => bif (lkeys r).any (fun k => ex.eqd q.1 k) then lkeys r else q.1 :: lkeys r
def term1 (p : Int) (m : List (ex.den × i64.den)) (k : ex.den) : Option term.den := if cN p (mget ex i64 m k) = 0 then none else some (k, cN p (mget ex i64 m k), ())
def termsOf (p : Int) (m : List (ex.den × i64.den)) (ks : List ex.den) : List term.den := ks.filterMap (term1 p m)

theorem keyT_ex : keyT ex = true := rfl
theorem lkeys_mem : ∀ {m : List (ex.den × i64.den)} {k : ex.den}, k ∈ lkeys m ↔ ∃ q ∈ m, q.1 = k
  | [], k => by simp [lkeys]
  | q :: r, k => by
    have ih := lkeys_mem (m := r) (k := k)
    simp only [lkeys]
    cases hq : (lkeys r).any (fun k => ex.eqd q.1 k) with
    | true =>
      obtain ⟨k', h1, h2⟩ := List.any_eq_true.1 hq
      have := (eqd_key keyT_ex).1 h2; subst this
      simp only [cond_true, List.mem_cons, exists_eq_or_imp, ih]
      constructor
      · exact .inr
      · rintro (rfl | h)
        · exact lkeys_mem.1 h1
        · exact h
    | false =>
      simp only [cond_false, List.mem_cons, exists_eq_or_imp, ih]
      constructor
      · rintro (rfl | h)
        · exact .inl rfl
        · exact .inr h
      · rintro (rfl | h)
        · exact .inl rfl
        · exact .inr h
theorem lkeys_nodup : ∀ {m : List (ex.den × i64.den)}, (lkeys m).Nodup
  | [] => List.nodup_nil
  | q :: r => by
    simp only [lkeys]
    cases hq : (lkeys r).any (fun k => ex.eqd q.1 k) with
    | true => exact lkeys_nodup
    | false =>
      refine List.nodup_cons.2 ⟨fun h => ?_, lkeys_nodup⟩
      have := List.any_eq_false.1 hq q.1 h
      exact this ((eqd_key keyT_ex).2 rfl)
theorem mget_none : ∀ {m : List (ex.den × i64.den)} {k : ex.den}, k ∉ lkeys m → mget ex i64 m k = (0 : Int)
  | [], k, _ => rfl
  | q :: r, k, h => by
    have h1 : q.1 ≠ k := fun e => h (lkeys_mem.2 ⟨q, .head _, e⟩)
    have h2 : k ∉ lkeys r := fun e => h (by obtain ⟨x, hx, e⟩ := lkeys_mem.1 e; exact lkeys_mem.2 ⟨x, .tail _ hx, e⟩)
    have := mget_miss keyT_ex (vt := i64) (x := q.1) (x' := k) (y := q.2) (m := r) h1
    exact this.trans (mget_none h2)
theorem cN_zero {p : Int} (h1 : 0 < p) (h2 : p ≤ 1000000) : cN p 0 = 0 := by
  unfold cN
  rw [Int.zero_tmod, Int.zero_add, w6_i (by omega) (by omega), Int.tmod_self]

theorem term1_mem {p : Int} {m : List (ex.den × i64.den)} {ks : List ex.den} {t : term.den} : t ∈ termsOf p m ks ↔ t.1 ∈ ks ∧ cN p (mget ex i64 m t.1) ≠ 0 ∧ t = (t.1, cN p (mget ex i64 m t.1), ()) := by
  unfold termsOf
  rw [List.mem_filterMap]
  constructor
  · rintro ⟨k, hk, h⟩
    unfold term1 at h
    split at h
    · cases h
    · rename_i hc; injection h with h; subst h; exact ⟨hk, hc, rfl⟩
  · rintro ⟨h1, h2, h3⟩
    exact ⟨t.1, h1, by unfold term1; rw [if_neg h2]; rw [← h3]⟩
theorem terms_nodup {p : Int} {m : List (ex.den × i64.den)} {ks : List ex.den} (h : ks.Nodup) : ((termsOf p m ks).map (·.1)).Nodup := by
  induction ks with
  | nil => exact List.nodup_nil
  | cons k ks ih =>
    obtain ⟨h1, h2⟩ := List.nodup_cons.1 h
    have ih := ih h2
    unfold termsOf at ih ⊢
    rw [List.filterMap_cons]
    split
    · exact ih
    · rename_i t ht
      have e : t.1 = k := by
        unfold term1 at ht
        split at ht
        · cases ht
        · injection ht with ht; subst ht; rfl
      refine List.nodup_cons.2 ⟨fun hm => ?_, ih⟩
      obtain ⟨t', ht', e'⟩ := List.mem_map.1 hm
      have := (term1_mem (p := p) (m := m) (ks := ks)).1 ht'
      rw [e'] at this; exact h1 (by rw [← e]; exact this.1)
theorem nodup_of_map {α β : Type} {f : α → β} : ∀ {l : List α}, (l.map f).Nodup → l.Nodup
  | [], _ => List.nodup_nil
  | x :: l, h => by
    obtain ⟨h1, h2⟩ := List.nodup_cons.1 h
    exact List.nodup_cons.2 ⟨fun hm => h1 (List.mem_map_of_mem hm), nodup_of_map h2⟩
theorem len_le {α : Type} : ∀ {l l' : List α}, l.Nodup → (∀ x ∈ l, x ∈ l') → l.length ≤ l'.length
  | [], l', _, _ => Nat.zero_le _
  | x :: l, l', h, hs => by
    obtain ⟨h1, h2⟩ := List.nodup_cons.1 h
    obtain ⟨a, b, rfl⟩ := List.append_of_mem (hs x (.head _))
    have := len_le (l' := a ++ b) h2 (fun y hy => by
      have q := hs y (.tail _ hy)
      rcases List.mem_append.1 q with q | q
      · exact List.mem_append_left _ q
      · rcases List.mem_cons.1 q with q | q
        · subst q; exact absurd hy h1
        · exact List.mem_append_right _ q)
    simp only [List.length_cons, List.length_append] at this ⊢
    omega
theorem terms_in {p : Int} {m : List (ex.den × i64.den)} {ks : List ex.den} (h1 : 0 < p) (h2 : p ≤ 1000000) {t : term.den} (h : t ∈ termsOf p m ks) : t ∈ termsOf p m (lkeys m) := by
  obtain ⟨q1, q2, q3⟩ := term1_mem.1 h
  refine term1_mem.2 ⟨?_, q2, q3⟩
  by_cases hk : t.1 ∈ lkeys m
  · exact hk
  · rw [mget_none hk] at q2; exact absurd (cN_zero h1 h2) q2
theorem terms_len {p : Int} {m : List (ex.den × i64.den)} {ks : List ex.den} (h1 : 0 < p) (h2 : p ≤ 1000000) (hn : ks.Nodup) : (termsOf p m ks).length ≤ (lkeys m).length := by
  have a := len_le (nodup_of_map (terms_nodup (p := p) (m := m) hn)) (fun x hx => terms_in h1 h2 hx)
  have b : (termsOf p m (lkeys m)).length ≤ (lkeys m).length := by unfold termsOf; exact List.length_filterMap_le _ _
  omega

theorem born_inj {es : List MapEntry} (h : es.Pairwise fun a b => a.born ≠ b.born) {a b : MapEntry} (ha : a ∈ es) (hb : b ∈ es) (e : a.born = b.born) : a = b := by
  induction es with
  | nil => cases ha
  | cons x r ih =>
    obtain ⟨h1, h2⟩ := List.pairwise_cons.1 h
    rcases List.mem_cons.1 ha with ea | ha' <;> rcases List.mem_cons.1 hb with eb | hb'
    · rw [ea, eb]
    · subst ea; exact absurd e (h1 b hb')
    · subst eb; exact absurd e.symm (h1 a ha')
    · exact ih h2 ha' hb'
theorem key_inj {es : List MapEntry} (h : es.Pairwise fun a b => ∀ k, Vk ex k a.key → ¬ Vk ex k b.key) {a b : MapEntry} (ha : a ∈ es) (hb : b ∈ es) {k : ex.den} (h1 : Vk ex k a.key) (h2 : Vk ex k b.key) : a = b := by
  induction es with
  | nil => cases ha
  | cons x r ih =>
    obtain ⟨q1, q2⟩ := List.pairwise_cons.1 h
    rcases List.mem_cons.1 ha with ea | ha' <;> rcases List.mem_cons.1 hb with eb | hb'
    · rw [ea, eb]
    · subst ea; exact absurd h2 (q1 b hb' k h1)
    · subst eb; exact absurd h1 (q1 a ha' k h2)
    · exact ih q2 ha' hb'

/-- The loop on its way: which entries have been handed out. -/
structure Lp (w0 : World) (ba : List Nat) (v0 : Value) (bm r clock : Nat) (es : Array MapEntry) (p v : Int) (m : List (ex.den × i64.den)) (a : Act) (w : World) (seen : Array Nat) (ks : List ex.den) (g : Gh) : Prop where
  st : St ⟨41, true, v0⟩ w0 (fun _ => False) g (E1 p v r (.mapIter (some bm) clock seen clock) (termsOf p m ks)).get a w
  al : g.al = fun b => b ∈ ba
  nd : ks.Nodup
  seen : ∀ e ∈ es.toList, (seen.contains e.born = true ↔ ∃ k ∈ ks, Vk ex k e.key)
  src : ∀ k ∈ ks, ∃ e ∈ es.toList, Vk ex k e.key

theorem op3_0 : ∃ o, (o103 3)[0]? = some o ∧ o.op = .next (.tmp 14) false ∧ o.dst = some 15 ∧ o.guard = none := ⟨((o103 3)[0]?).get (by kernel_rfl), (Option.some_get _).symm, by kernel_rfl, by kernel_rfl, by kernel_rfl⟩
theorem op3_1 : ∃ o, (o103 3)[1]? = some o ∧ o.op = .extract (.tmp 15) 0 ∧ o.dst = some 16 ∧ o.guard = none := ⟨((o103 3)[1]?).get (by kernel_rfl), (Option.some_get _).symm, by kernel_rfl, by kernel_rfl, by kernel_rfl⟩
theorem op4_0 : ∃ o, (o103 4)[0]? = some o ∧ o.op = .entry (.tmp 14) ∧ o.dst = some 17 ∧ o.guard = none := ⟨((o103 4)[0]?).get (by kernel_rfl), (Option.some_get _).symm, by kernel_rfl, by kernel_rfl, by kernel_rfl⟩
theorem op4_1 : ∃ o, (o103 4)[1]? = some o ∧ o.op = .extract (.tmp 17) 0 ∧ o.dst = some 18 ∧ o.guard = none := ⟨((o103 4)[1]?).get (by kernel_rfl), (Option.some_get _).symm, by kernel_rfl, by kernel_rfl, by kernel_rfl⟩
theorem op4_2 : ∃ o, (o103 4)[2]? = some o ∧ o.op = .extract (.tmp 17) 1 ∧ o.dst = some 19 ∧ o.guard = none := ⟨((o103 4)[2]?).get (by kernel_rfl), (Option.some_get _).symm, by kernel_rfl, by kernel_rfl, by kernel_rfl⟩
theorem op2_0 : ∃ o, (o103 2)[0]? = some o ∧ o.op = .move (.tmp 0) ∧ o.dst = some 13 ∧ o.guard = none := ⟨((o103 2)[0]?).get (by kernel_rfl), (Option.some_get _).symm, by kernel_rfl, by kernel_rfl, by kernel_rfl⟩
theorem op2_1 : ∃ o, (o103 2)[1]? = some o ∧ o.op = .range 113 (.tmp 13) ∧ o.dst = some 14 ∧ o.guard = none := ⟨((o103 2)[1]?).get (by kernel_rfl), (Option.some_get _).symm, by kernel_rfl, by kernel_rfl, by kernel_rfl⟩
theorem rg2 : List.range (o103 2).size = [0, 1] := by kernel_rfl
theorem rg3 : List.range (o103 3).size = [0, 1] := by kernel_rfl
theorem rg4 : List.range (o103 4).size = [0, 1, 2, 3, 4, 5] := by kernel_rfl
theorem okc4 (v0 : Value) : ∀ (i : Nat) (o : Oper), (o103 4).toList[i]? = some o → ∀ d, o.dst = some d → (⟨41, true, v0⟩ : NS).has d := by
  have h : okCode ⟨41, true, undef⟩ (.region 4 (o103 4) false) = true := by kernel_rfl
  intro i o ho d hd
  simp only [okCode, List.all_eq_true] at h
  have := h o (List.mem_of_getElem? ho)
  rw [hd] at this
  simp only [Bool.and_eq_true, Bool.not_eq_true', Bool.and_eq_false_iff] at this
  refine ⟨by simpa using this.1, fun hk => ?_⟩
  rcases this.2 with q | q
  · cases q
  · exact nbeq_ne q
theorem okt (v0 : Value) : okCode ⟨41, true, v0⟩ tail103 = true := by kernel_rfl
theorem oke (v0 : Value) : okCode ⟨41, true, v0⟩ end103 = true := by kernel_rfl

section
variable {w0 : World} {ba : List Nat} {v0 : Value} {bm r clock : Nat} {es : Array MapEntry} {p v : Int} {m : List (ex.den × i64.den)}

theorem round103 {g149 : G149} {a : Act} {w : World} {seen : Array Nat} {ks : List ex.den} {g : Gh} {Q : Exit → Act → World → Prop} (hK : KOK Try.prog (ct103 g149)) (hb : w0.heap[bm]? = some (.map es clock)) (M : MapR ex i64 es.toList clock m) (hr : w0.heap.size ≤ r) (hp : 0 < p) (hp2 : p ≤ 1000000) (hl : (lkeys m).length ≤ 1000000)
    (L : Lp w0 ba v0 bm r clock es p v m a w seen ks g) (hQ : ∀ a' w' seen ks g, Lp w0 ba v0 bm r clock es p v m a' w' seen ks g → (∀ e ∈ es.toList, ∃ k ∈ ks, Vk ex k e.key) → Q (.exit 0) a' w') :
    body103.wp Try.prog (Exit.then (fun a' w' => (∃ seen ks g, Lp w0 ba v0 bm r clock es p v m a' w' seen ks g) ∧ (leftOf es (w'.iterSeen r)).size < (leftOf es (w.iterSeen r)).size) Q) a w := by
  have lt0 : bm < w0.heap.size := by
    rcases Nat.lt_or_ge bm w0.heap.size with q | q
    · exact q
    · rw [Array.getElem?_eq_none q] at hb; cases hb
  have mapAt : ∀ {env : Nat → Ent} {a : Act} {w : World} {g : Gh}, St ⟨41, true, v0⟩ w0 (fun _ => False) g env a w → w.heap[bm]? = some (.map es clock) := fun st => by rw [st.inv.old bm lt0 (fun h => h)]; exact hb
  have st := L.st
  have he := st.ent 14
  obtain ⟨e0, e1, -, -, -⟩ : EntR g w.heap 14 (.it r (.mapIter (some bm) clock seen clock)) (a.tmps.getD 14 undef) := he
  have hseen : w.iterSeen r = seen := by unfold World.iterSeen; rw [e1]
  have has : ∀ d, 0 < d → d < 41 → (⟨41, true, v0⟩ : NS).has d := fun d h1 h2 => ⟨h2, fun _ => by omega⟩
  unfold body103
  refine wp_seq (wp_region ?_)
  rw [rg3]
  obtain ⟨oa, a1, a2, a3, a4⟩ := op3_0
  obtain ⟨ob, b1, b2, b3, b4⟩ := op3_1
  have hx : ∀ z, Instr.next (a.eval (.tmp 14)) false z = Instr.next (.pointer (some ⟨r, 0, none⟩)) false z := fun z => by show Instr.next (a.tmps.getD 14 undef) false z = _; rw [e0]
  rcases run_next_at (P := Try.prog) w oa.type r bm clock clock seen es clock e1 (mapAt st) M.born (Nat.le_refl _) with ⟨n1, n2⟩ | ⟨e, n1, w1, n2, n3⟩
  · -- none is left
    refine wpOps_cons a1 a4 (upon_val (v := .tuple #[.bool false]) (w' := w) (by simp only [execOp, a2, hx, Sem.run_bind, n2, Result.andThen_ok, Sem.run_pure]) ?_)
    rw [a3]
    have st1 := st.passed (v := .tuple #[.bool false]) (has 15 (by omega) (by omega)) rfl
    have t15 : (a.put (some 15) (.tuple #[.bool false])).eval (.tmp 15) = .tuple #[.bool false] := by
      show (a.put (some 15) (.tuple #[.bool false])).tmps.getD 15 undef = _
      rw [st.tmpAt (show 15 < 41 by omega), if_pos rfl]
    refine wpOps_cons b1 b4 (upon_val (v := .bool false) (w' := w) (by simp only [execOp, b2, t15, Sem.run_bind]; rfl) ?_)
    rw [b3]
    have st2 := st1.passed (v := .bool false) (has 16 (by omega) (by omega)) rfl
    show Code.wp _ _ _ _ _
    refine wp_seq (wp_cond (t := false) ?_ (wp_exit ?_))
    · show ((a.put (some 15) (.tuple #[.bool false])).put (some 16) (.bool false)).tmps.getD 16 undef = _
      rw [st1.tmpAt (show 16 < 41 by omega), if_pos rfl]
    · refine hQ _ _ seen ks g ⟨st2, L.al, L.nd, L.seen, L.src⟩ fun e he => (L.seen e he).1 ?_
      have h0 : leftOf es seen = #[] := Array.eq_empty_of_size_eq_zero n1
      cases hc : seen.contains e.born with
      | true => rfl
      | false =>
        have : e ∈ leftOf es seen := Array.mem_filter.2 ⟨Array.mem_toList_iff.1 he, by rw [hc]; rfl⟩
        rw [h0] at this; simp at this
  · obtain ⟨he1, he2⟩ := mem_left n1
    obtain ⟨k, hk1, hk2⟩ := M.ent e he1
    -- an entry
    have stI := st.iterSet (d := 14) (r := r) (o' := .mapIter (some bm) clock (seen.push e.born) clock) (w1 := w1) (fun _ => by omega) rfl ⟨_, _, _, _, rfl⟩ rfl hr n2
    generalize hw2 : ChangeMaps.setBlock w1 r (.mapIter (some bm) clock (seen.push e.born) clock) = w2 at stI n3
    replace stI : St ⟨41, true, v0⟩ w0 (fun _ => False) g (E1 p v r (.mapIter (some bm) clock (seen.push e.born) clock) (termsOf p m ks)).get a w2 := stI
    refine wpOps_cons a1 a4 (upon_val (v := .tuple #[.bool true, e.key, e.val]) (w' := w2) (by simp only [execOp, a2, hx, Sem.run_bind, n3, Result.andThen_ok, Sem.run_pure]) ?_)
    rw [a3]
    have st1 := stI.passed (v := .tuple #[.bool true, e.key, e.val]) (has 15 (by omega) (by omega)) rfl
    have t15 : (a.put (some 15) (.tuple #[.bool true, e.key, e.val])).eval (.tmp 15) = .tuple #[.bool true, e.key, e.val] := by
      show (a.put (some 15) _).tmps.getD 15 undef = _
      rw [stI.tmpAt (show 15 < 41 by omega), if_pos rfl]
    refine wpOps_cons b1 b4 (upon_val (v := .bool true) (w' := w2) (by simp only [execOp, b2, t15, Sem.run_bind]; rfl) ?_)
    rw [b3]
    have st2 := st1.passed (v := .bool true) (has 16 (by omega) (by omega)) rfl
    have t16 : ((a.put (some 15) (.tuple #[.bool true, e.key, e.val])).put (some 16) (.bool true)).eval (.tmp 16) = .bool true := by
      show ((a.put (some 15) _).put (some 16) (.bool true)).tmps.getD 16 undef = _
      rw [st1.tmpAt (show 16 < 41 by omega), if_pos rfl]
    generalize (a.put (some 15) (.tuple #[.bool true, e.key, e.val])).put (some 16) (.bool true) = ac at st2 t16 ⊢
    show Code.wp _ _ _ _ _
    refine wp_seq (wp_cond (t := true) t16 (wp_skip ?_))
    show Code.wp _ _ _ _ _
    refine wp_block (wp_seq (wp_region ?_))
    rw [rg4]
    obtain ⟨oc, c1, c2, c3, c4⟩ := op4_0
    obtain ⟨od, d1, d2, d3, d4⟩ := op4_1
    obtain ⟨oe, x1, x2, x3, x4⟩ := op4_2
    obtain ⟨f0, f1, -, -, -⟩ : EntR g w2.heap 14 (.it r (.mapIter (some bm) clock (seen.push e.born) clock)) (ac.tmps.getD 14 undef) := st2.ent 14
    have bnd : (es.toList.map (·.born)).Nodup := List.pairwise_map.2 (M.bdist.imp fun h => h)
    have hen := run_entry_at (P := Try.prog) w2 r bm clock seen es clock e f1 (mapAt st2) he1 bnd
    refine wpOps_cons c1 c4 (upon_val (v := .tuple #[e.key, e.val]) (w' := w2) (by
      simp only [execOp, c2, show ac.eval (.tmp 14) = .pointer (some ⟨r, 0, none⟩) from f0, Sem.run_bind, hen, Result.andThen_ok, Sem.run_pure]) ?_)
    rw [c3]
    have st3 := st2.passed (v := .tuple #[e.key, e.val]) (has 17 (by omega) (by omega)) rfl
    have t17 : (ac.put (some 17) (.tuple #[e.key, e.val])).eval (.tmp 17) = .tuple #[e.key, e.val] := by
      show (ac.put (some 17) _).tmps.getD 17 undef = _
      rw [st2.tmpAt (show 17 < 41 by omega), if_pos rfl]
    refine wpOps_cons d1 d4 (upon_val (v := e.key) (w' := w2) (by simp only [execOp, d2, t17, Sem.run_bind]; rfl) ?_)
    rw [d3]
    have st4 := st3.putA (v := e.key) (has 18 (by omega) (by omega)) (vk_ent hk1 w2.heap 18)
    have t17b : ((ac.put (some 17) (.tuple #[e.key, e.val])).put (some 18) e.key).eval (.tmp 17) = .tuple #[e.key, e.val] := by
      show ((ac.put (some 17) _).put (some 18) e.key).tmps.getD 17 undef = _
      rw [st3.tmpAt (show 18 < 41 by omega), if_neg (by omega)]; exact t17
    refine wpOps_cons x1 x4 (upon_val (v := e.val) (w' := w2) (by simp only [execOp, x2, t17b, Sem.run_bind]; rfl) ?_)
    rw [x3]
    have st5 := st4.putA (v := e.val) (has 19 (by omega) (by omega)) (vk_ent hk2 w2.heap 19)
    have st6 : St ⟨41, true, v0⟩ w0 (fun _ => False) g (E4 p v r (.mapIter (some bm) clock (seen.push e.born) clock) (termsOf p m ks) k (mget ex i64 m k)).get (((ac.put (some 17) (.tuple #[e.key, e.val])).put (some 18) e.key).put (some 19) e.val) w2 := by
      refine st5.get_eq ?_
      funext s
      unfold E4
      rw [Env.get_put, Env.get_put]; rfl
    -- what becomes of the terms
    have hkn : k ∉ ks := fun hk => by rw [(L.seen e he1).2 ⟨k, hk, hk1⟩] at he2; cases he2
    have hnd : (ks ++ [k]).Nodup := List.nodup_append.2 ⟨L.nd, by simp, fun a ha b hb e => by simp at hb; subst hb; subst e; exact hkn ha⟩
    have hlen := terms_len (m := m) hp hp2 L.nd
    have hsn : termsOf p m (ks ++ [k]) = termsOf p m ks ++ (match term1 p m k with | some t => [t] | none => []) := by
      unfold termsOf
      rw [List.filterMap_append]; congr 1
      cases hq : term1 p m k <;> simp [hq]
    have hev : seqK TT (ct103 g149) (o103 4).toList [3, 4, 5] (E4 p v r (.mapIter (some bm) clock (seen.push e.born) clock) (termsOf p m ks) k (mget ex i64 m k)) (fun e => evL TT (ct103 g149) [] [] tail103 e (fun e => some (keepK [1, 2, 6, 7, 14] e)) (fun _ _ => none) (fun _ => none)) =
        some (E1 p v r (.mapIter (some bm) clock (seen.push e.born) clock) (termsOf p m (ks ++ [k]))) := by
      rw [e103c, hsn]
      have hp0 : p ≠ 0 := by omega
      have hg : growOk (termsOf p m ks).length 1 = true := decide_eq_true (by omega)
      by_cases hc : cN p (mget ex i64 m k) = 0
      · simp [hp0, hc, term1]
      · simp [hp0, hc, hg, term1]
    have inv' : ∀ e' ∈ es.toList, ((seen.push e.born).contains e'.born = true ↔ ∃ k' ∈ ks ++ [k], Vk ex k' e'.key) := by
      intro e' he'
      rw [contains_push, Bool.or_eq_true]
      constructor
      · rintro (q | q)
        · obtain ⟨k', z1, z2⟩ := (L.seen e' he').1 q; exact ⟨k', List.mem_append_left _ z1, z2⟩
        · have q := beq_iff_eq.1 q
          have : e' = e := by
            obtain ⟨i, hi⟩ := List.getElem?_of_mem he'
            obtain ⟨j, hj⟩ := List.getElem?_of_mem he1
            exact born_inj M.bdist he' he1 q
          subst this
          exact ⟨k, by simp, hk1⟩
      · rintro ⟨k', z1, z2⟩
        rcases List.mem_append.1 z1 with z | z
        · exact .inl ((L.seen e' he').2 ⟨k', z, z2⟩)
        · simp only [List.mem_singleton] at z; subst z
          right
          rw [key_inj M.dist he' he1 z2 hk1]; simp
    refine seqK_sound (A := fun b => b ∈ ba) (L := (o103 4).toList) tt_ok hK (fun b hb => (by cases hb)) (okc4 v0) hev st6 L.al (fun env' a' w' g' q1 q2 q3 => ?_)
    show Code.wp _ _ _ _ _
    refine evL_sound (A := fun b => b ∈ ba) mixed tt_ok hK (fun b hb => (by cases hb)) (okt v0) ⟨trivial, trivial, trivial, trivial⟩ q1 q2 q3 (fun env2 a2 w3 g2 r1 r2 r3 => ?_) (fun _ _ _ _ _ q => (by cases q)) (fun _ _ _ _ q => (by cases q))
    injection r1 with r1
    have stE : St ⟨41, true, v0⟩ w0 (fun _ => False) g2 (E1 p v r (.mapIter (some bm) clock (seen.push e.born) clock) (termsOf p m (ks ++ [k]))).get a2 w3 := by rw [← r1]; exact r2.kill (keepK_get _ env2)
    show (∃ _, _) ∧ _
    refine ⟨⟨seen.push e.born, ks ++ [k], g2, stE, r3, hnd, inv', fun k' hk' => ?_⟩, ?_⟩
    · rcases List.mem_append.1 hk' with z | z
      · exact L.src k' z
      · simp only [List.mem_singleton] at z; subst z; exact ⟨e, he1, hk1⟩
    · obtain ⟨-, f1', -, -, -⟩ : EntR g2 w3.heap 14 (.it r (.mapIter (some bm) clock (seen.push e.born) clock)) (a2.tmps.getD 14 undef) := stE.ent 14
      have : w3.iterSeen r = seen.push e.born := by unfold World.iterSeen; rw [f1']
      rw [this, hseen]
      exact left_shrinks es seen e n1

end
end Go.Proofs.YtkoifikjfnbcpaaEv
