/- A sum as a polynomial: what the function gives. -/
import Derived.Test.YtkoifikjfnbcpaaEvSuC
set_option linter.unusedVariables false
set_option linter.unusedSimpArgs false
namespace Go.Proofs.YtkoifikjfnbcpaaEv
open Go Go.RowKit Go.Proofs

theorem sortK_perm {α : Type} {key : α → Int} {l l' : List α} (hp : l'.Perm l) (hn : (l.map key).Nodup) : sortK key l' = sortK key l := by
  refine sortK_unique ((List.mergeSort_perm l' _).trans hp) ?_ hn
  have := List.pairwise_mergeSort (le := fun a b : α => decide (key a ≤ key b)) (fun a b c h1 h2 => by simp at *; omega) (fun a b => by simp; omega) l'
  exact this.imp fun h => by simpa using h
theorem nodup_map_on {α β γ : Type} {f : α → β} {k : α → γ} : ∀ {l : List α}, (∀ a ∈ l, ∀ b ∈ l, k a = k b → f a = f b) → (l.map f).Nodup → (l.map k).Nodup
  | [], _, _ => List.nodup_nil
  | x :: l, h, hn => by
    obtain ⟨h1, h2⟩ := List.nodup_cons.1 hn
    refine List.nodup_cons.2 ⟨fun hm => ?_, nodup_map_on (fun a ha b hb => h a (.tail _ ha) b (.tail _ hb)) h2⟩
    obtain ⟨y, hy, e⟩ := List.mem_map.1 hm
    exact h1 (by rw [← h y (.tail _ hy) x (.head _) e]; exact List.mem_map_of_mem hy)
theorem okX_vk {k : ex.den} {v : Value} (h : Vk ex k v) : okX k := by
  obtain ⟨a, b, c, _⟩ := k
  have hw := (vk_key h).2
  have h1 : (Lit.int .u8 a).wf = true := hw a (.head _)
  have h2 : (Lit.int .u8 b).wf = true := hw b (.tail _ (.head _))
  have h3 : (Lit.int .u8 c).wf = true := hw c (.tail _ (.tail _ (.head _)))
  have r : ∀ x : Int, (Lit.int .u8 x).wf = true → 0 ≤ x ∧ x ≤ 255 := fun x hx => by
    simp [Lit.wf, IntKind.min, IntKind.max, IntKind.bits, IntKind.signed] at hx; omega
  exact ⟨r a h1, r b h2, r c h3⟩

def sumP (p v : Int) (m : List (ex.den × i64.den)) : poly.den := (p, v, sortK keyT3 (termsOf p m (lkeys m)), ())
def cf103 : G103 := fun x => if 0 < x.2.1 ∧ x.2.1 ≤ (1000000 : Int) ∧ (lkeys x.1).length ≤ 1000000 then some (sumP x.2.1 x.2.2.1 x.1, ()) else none
abbrev C103 : Ctr := ⟨[.m ex i64, .v i64, .v i64], [poly], true, false, 0, cf103⟩

theorem terms_end {bm r clock : Nat} {es : Array MapEntry} {p v : Int} {m : List (ex.den × i64.den)} {ks : List ex.den} (M : MapR ex i64 es.toList clock m) (hp : 0 < p) (hp2 : p ≤ 1000000) (hn : ks.Nodup) (src : ∀ k ∈ ks, ∃ e ∈ es.toList, Vk ex k e.key) (all : ∀ e ∈ es.toList, ∃ k ∈ ks, Vk ex k e.key) :
    (∀ t ∈ termsOf p m ks, okX t.1) ∧ ((termsOf p m ks).map keyT3).Nodup ∧ sortK keyT3 (termsOf p m ks) = sortK keyT3 (termsOf p m (lkeys m)) := by
  have ok : ∀ t ∈ termsOf p m ks, okX t.1 := fun t ht => by
    obtain ⟨e, _, h⟩ := src _ (term1_mem.1 ht).1
    exact okX_vk h
  have nd : ((termsOf p m ks).map keyT3).Nodup := nodup_map_on (f := (·.1)) (fun a ha b hb (e : keyX a.1 = keyX b.1) => keyX_inj (ok a ha) (ok b hb) e) (terms_nodup hn)
  have mem : ∀ t, t ∈ termsOf p m ks ↔ t ∈ termsOf p m (lkeys m) := fun t => by
    refine ⟨fun h => terms_in hp hp2 h, fun h => ?_⟩
    obtain ⟨q1, q2, q3⟩ := term1_mem.1 h
    refine term1_mem.2 ⟨?_, q2, q3⟩
    -- a key whose number is not 0 has an entry
    by_cases hk : ∃ e ∈ es.toList, Vk ex t.1 e.key
    · obtain ⟨e, he, hke⟩ := hk
      obtain ⟨k, hk1, hk2⟩ := all e he
      rw [hke.inj keyT_ex hk2]; exact hk1
    · have := M.none t.1 (fun e he hke => hk ⟨e, he, hke⟩)
      rw [this] at q2
      exact absurd (cN_zero hp hp2) q2
  have pm : (termsOf p m ks).Perm (termsOf p m (lkeys m)) := (List.perm_ext_iff_of_nodup (nodup_of_map (terms_nodup hn)) (nodup_of_map (terms_nodup lkeys_nodup))).2 mem
  exact ⟨ok, nd, (sortK_perm pm.symm nd).symm⟩

theorem okr (i : Nat) (v0 : Value) (h : okCode ⟨41, true, undef⟩ (.region i (o103 i) false) = true) : okCode ⟨41, true, v0⟩ (.region i (o103 i) false) = true := h
theorem oc0 : okCode ⟨41, true, undef⟩ (.region 0 (o103 0) false) = true := by kernel_rfl
theorem oc1 : okCode ⟨41, true, undef⟩ (.region 1 (o103 1) false) = true := by kernel_rfl
theorem nt103 : Try.f103.ntmps = 41 := by kernel_rfl
theorem rs103 : Try.f103.results.toList = [.cell 6 58] := by kernel_rfl

theorem fn103 : FnOK Try.prog 103 C103 := by
  intro x y hxy w vs ba hv
  obtain ⟨m, p, v, _⟩ := x
  replace hxy : cf103 (m, p, v, ()) = some y := hxy
  simp only [cf103] at hxy
  split at hxy
  · rename_i hc
    injection hxy with hxy
    obtain ⟨hp, hp2, hlk⟩ := hc
    have hK : KOK Try.prog (ct103 cf149) := .cons k149 .nil
    have hv0 := hv
    obtain ⟨bm, vr, es, clock, rfl, hb, M, hv2⟩ := hv
    replace M : MapR ex i64 es.toList clock m := M
    have st0 := init_St (n := Try.f103.ntmps) hv0 (by rw [nt103]; decide)
    refine calls_of_wp Try.func103 sk103 ?_
    have stk : St ⟨41, true, .map (some bm)⟩ w (fun _ => False) (gh0 w (.map (some bm) :: vr) ba) (initEnv 0 [.m ex i64, .v i64, .v i64] (m, p, v, ())).get { tmps := (.map (some bm) :: vr).toArray ++ Array.replicate (Try.f103.ntmps - (.map (some bm) :: vr).toArray.size) undef, defers := [] } w :=
      ⟨st0.inv, st0.ent, ⟨st0.sz.1.trans nt103, fun _ => by rw [Array.getD_eq_getD_getElem?, Array.getElem?_append_left (by simp)]; rfl⟩, st0.df, st0.os, st0.tape, st0.output⟩
    refine wp_seq (ev_wp (A := fun b => b ∈ ba) (ks := [1, 2, 6]) mixed tt_ok hK (fun b hb => (by cases hb)) (okr 0 _ oc0) trivial (e103a cf149 m p v) stk rfl fun a1 w1 g1 st1 A1 => ?_)
    show Code.wp _ _ _ _ _
    refine wp_seq (ev_wp (A := fun b => b ∈ ba) (ks := [1, 2, 6, 7]) mixed tt_ok hK (fun b hb => (by cases hb)) (okr 1 _ oc1) trivial (e103b cf149 p v) st1 A1 fun a2 w2 g2 st2 A2 => ?_)
    show Code.wp _ _ _ _ _
    refine wp_seq (wp_seq (wp_region ?_))
    rw [rg2]
    obtain ⟨oa, q1, q2, q3, q4⟩ := op2_0
    obtain ⟨ob, r1, r2, r3, r4⟩ := op2_1
    have lt0 : bm < w.heap.size := by
      rcases Nat.lt_or_ge bm w.heap.size with q | q
      · exact q
      · rw [Array.getElem?_eq_none q] at hb; cases hb
    have hb2 : w2.heap[bm]? = some (.map es clock) := by rw [st2.inv.old bm lt0 (fun h => h)]; exact hb
    have has : ∀ d, 0 < d → d < 41 → (⟨41, true, .map (some bm)⟩ : NS).has d := fun d h1 h2 => ⟨h2, fun _ => by omega⟩
    refine wpOps_cons q1 q4 (upon_val (v := .map (some bm)) (w' := w2) (by simp only [execOp, q2, show a2.eval (.tmp 0) = .map (some bm) from st2.sz.2 rfl, Sem.run_pure]) ?_)
    rw [q3]
    have st3 := st2.passed (v := .map (some bm)) (has 13 (by omega) (by omega)) rfl
    have t13 : (a2.put (some 13) (.map (some bm))).eval (.tmp 13) = .map (some bm) := by
      show (a2.put (some 13) _).tmps.getD 13 undef = _
      rw [st2.tmpAt (show 13 < 41 by omega), if_pos rfl]
    have hu : Try.prog.underlying 113 = some (.map 105 2) := tt_ok.mp 113 105 2 (by kernel_rfl)
    refine wpOps_cons r1 r4 (upon_val (v := .pointer (some ⟨w2.heap.size, 0, none⟩)) (w' := w2.alloc (.mapIter (some bm) clock #[] clock)) (by simp only [execOp, r2, t13, Sem.run_bind, run_range_map w2 113 105 2 bm es clock hu hb2, Result.andThen_ok, Sem.run_pure]) ?_)
    rw [r3]
    have st4 := st3.iterNew (o := .mapIter (some bm) clock #[] clock) (has 14 (by omega) (by omega)) ⟨_, _, _, _, rfl⟩ rfl
    show Code.wp _ _ _ _ _
    refine wp_block (wp_loop (fun a' w' => ∃ seen ks g, Lp w ba (.map (some bm)) bm w2.heap.size clock es p v m a' w' seen ks g) (fun _ w' => (leftOf es (w'.iterSeen w2.heap.size)).size) ⟨#[], [], g2, st4, A2, List.nodup_nil, fun e he => by simp, fun k hk => (by cases hk)⟩ fun a5 w5 hI => ?_)
    obtain ⟨seen, ks, g5, L⟩ := hI
    refine round103 (v := v) hK hb M st2.inv.size hp hp2 hlk L fun a6 w6 seen6 ks6 g6 L6 all => ?_
    show Code.wp _ _ _ _ _
    obtain ⟨t1, t2, t3⟩ := terms_end (bm := bm) (r := 0) (v := v) M hp hp2 L6.nd L6.src all
    have tl := terms_len (m := m) hp hp2 L6.nd
    have hev := (e103d cf149 p v w2.heap.size (.mapIter (some bm) clock seen6 clock) (termsOf p m ks6))
    rw [g149_ok (by omega) t1 t2, t3] at hev
    have fin : ∀ (env' : Env) (a' : Act) (w' : World) (g' : Gh), endK TT [.cell 6 58] [poly] true false env' = some (sumP p v m, ()) → St ⟨41, true, .map (some bm)⟩ w (fun _ => False) g' env'.get a' w' → g'.al = (fun b => b ∈ ba) → a'.defers = [] ∧ ∃ v, (results Try.f103 a'.tmps).run Try.prog w' = .ok v w' ∧ After C103 y w ba (.returned v) w' := fun env' a' w' g' e1 e2 e3 =>
      After_of (C := C103) (fn := Try.f103) tt_ok e2 e3 (by rw [rs103, ← hxy]; exact e1)
    exact evL_sound (A := fun b => b ∈ ba) (kr := endK TT [.cell 6 58] [poly] true false) mixed tt_ok hK (fun b hb => (by cases hb)) (oke _) ⟨trivial, trivial, trivial⟩ hev L6.st L6.al fin (fun _ _ _ _ _ q => (by cases q)) fin
  · cases hxy

theorem k103 : KOne Try.prog 103 C103 := ⟨fun _ => fn103, fun q => (by cases q), fun q => (by cases q), Try.f103, Try.func103, by decide, rfl⟩

end Go.Proofs.YtkoifikjfnbcpaaEv
