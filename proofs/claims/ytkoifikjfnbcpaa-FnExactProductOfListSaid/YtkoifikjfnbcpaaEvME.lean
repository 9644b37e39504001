/- The program's operations on plain typed data, and that the machine does the same (part E). No condition. -/
import Derived.Test.YtkoifikjfnbcpaaEvMD
import Derived.Shelf.SlSortCmp.NoneTotal
set_option linter.unusedVariables false
set_option linter.unusedSimpArgs false
namespace Go.Proofs.YtkoifikjfnbcpaaEv
open Go Go.RowKit Go.Proofs Go.Shelf Go.Sort

/-- Sorted by a key. -/
def sortK {α : Type} (key : α → Int) (l : List α) : List α := l.mergeSort fun a b => decide (key a ≤ key b)

theorem sortK_unique {α : Type} {key : α → Int} {l l' : List α} (hp : l'.Perm l) (hs : l'.Pairwise fun a b => key a ≤ key b) (hn : (l.map key).Nodup) : l' = sortK key l := by
  have inj : ∀ a b, a ∈ l → b ∈ l → key a = key b → a = b := by
    clear hp hs
    intro a b ha hb he
    induction l with
    | nil => cases ha
    | cons x r ih =>
      simp only [List.map_cons, List.nodup_cons, List.mem_map, not_exists, not_and] at hn
      rcases List.mem_cons.1 ha with rfl | ha' <;> rcases List.mem_cons.1 hb with rfl | hb'
      · rfl
      · exact absurd he.symm (hn.1 b hb')
      · exact absurd he (hn.1 a ha')
      · exact ih hn.2 ha' hb'
  have hp2 := List.mergeSort_perm l fun a b => decide (key a ≤ key b)
  refine List.Perm.eq_of_pairwise (le := fun a b => key a ≤ key b) (fun a b ha hb h1 h2 => inj a b (hp.mem_iff.1 ha) (hp2.mem_iff.1 hb) (by omega)) hs ?_ (hp.trans hp2.symm)
  have := List.pairwise_mergeSort (le := fun a b : α => decide (key a ≤ key b)) (fun a b c h1 h2 => by simp at *; omega) (fun a b => by simp; omega) l
  exact this.imp fun h => by simpa using h


theorem perm_sorted {α β : Type} [Inhabited α] {key : β → Int} {val : α → β} {cf : α → α → Int} {d d' : Array α} (hk : ∀ x y, cf x y < 0 ↔ key (val x) < key (val y)) (hp : PermIn 0 d.size d d') (hs : SortedIn (ltOf cf) 0 d.size d') (hn : (d.toList.map fun x => key (val x)).Nodup) :
    d'.toList.Perm d.toList ∧ d'.toList.map val = sortK key (d.toList.map val) := by
  obtain ⟨h1, _, h3⟩ := hp
  have e1 : d'.extract 0 d.size = d' := by rw [← h1]; exact Array.extract_size
  have e2 : d.extract 0 d.size = d := Array.extract_size
  rw [e1, e2] at h3
  refine ⟨h3, sortK_unique (h3.map val) ?_ (by rw [List.map_map]; exact hn)⟩
  rw [List.pairwise_map]
  refine List.pairwise_iff_getElem.2 fun i j hi hj hij => ?_
  simp only [Array.length_toList] at hi hj
  have := hs i j (Nat.zero_le _) hij (by omega)
  rw [getElem!_pos d' i (by omega), getElem!_pos d' j (by omega)] at this
  simp only [ltOf, decide_eq_false_iff_not, hk] at this
  simp only [Array.getElem_toList]
  omega

theorem swo_key {α : Type} {cf : α → α → Int} {key : α → Int} (hk : ∀ x y, cf x y < 0 ↔ key x < key y) : SWO (ltOf cf) where
  irrefl x := by simp [ltOf, hk]
  trans x y z h1 h2 := by simp only [ltOf, decide_eq_true_eq, hk] at *; omega
  ntrans x y z h1 h2 := by simp only [ltOf, decide_eq_false_iff_not, hk] at *; omega

theorem grown_of {P : Program} {W w' : World} (h : Below W.heap.size W w') (hd : W.drawn ≤ w'.drawn) : ∃ q os', w' = grow (W.drewN q) os' := by
  refine ⟨w'.drawn - W.drawn, w'.heap.extract W.heap.size w'.heap.size, ?_⟩
  have e : w'.heap = W.heap ++ w'.heap.extract W.heap.size w'.heap.size := by
    apply Array.ext_getElem?
    intro i
    rw [Array.getElem?_append]
    split
    · exact h.block i ‹_›
    · rename_i q
      rw [Array.getElem?_extract]
      split
      · congr 1; omega
      · rw [Array.getElem?_eq_none (by have := h.size; omega)]
  obtain ⟨hp, tp, dr, os, op⟩ := w'
  have h1 := h.os; have h2 := h.tape; have h3 := h.output
  simp only at h1 h2 h3 e hd
  subst h1; subst h2; subst h3
  simp only [grow, World.drewN]
  congr 1
  omega

/-- What a row's elements are, with the cells that hold them and the blocks that they lead to. -/
structure El (h : Mem) (b : Nat) (u : Ty) (good : u.den → Prop) where
  cs : List Value
  x : u.den
  bs : List Nat
  rd : Rd h u x cs bs
  ok : good x
  out : ∀ z ∈ bs, z ≠ b ∧ z < h.size

theorem els_of {h : Mem} {b : Nat} {u : Ty} {good : u.den → Prop} : ∀ {l : List u.den} {cs : List Value} {bs : List Nat}, RdL (Rd h u) u.size l cs bs → (∀ x ∈ l, good x) → (∀ z ∈ bs, z ≠ b ∧ z < h.size) →
    ∃ L : List (El h b u good), L.map El.x = l ∧ (L.map El.bs).flatten = bs ∧ ∀ j (hj : j < L.length), (cs.drop (j * u.size)).take u.size = L[j].cs
  | [], cs, bs, hr, _, _ => ⟨[], rfl, by rw [show bs = [] from hr]; rfl, fun j hj => by cases hj⟩
  | x :: l, cs, bs, ⟨b1, b2, h1, h2, h3⟩, hg, ho => by
    subst h3
    obtain ⟨L, q1, q2, q3⟩ := els_of h2 (fun x hx => hg x (.tail _ hx)) (fun z hz => ho z (List.mem_append_right _ hz))
    refine ⟨⟨cs.take u.size, x, b1, h1, hg x (.head _), fun z hz => ho z (List.mem_append_left _ hz)⟩ :: L, by simp [q1], by simp [q2], fun j hj => ?_⟩
    cases j with
    | zero => simp
    | succ j =>
      have := q3 j (by simpa using hj)
      simp only [List.getElem_cons_succ]
      rw [← this, List.drop_drop, Nat.succ_mul, Nat.add_comm]

theorem els_rd {h h' : Mem} {b : Nat} {u : Ty} {good : u.den → Prop} (hh : ∀ z, z ≠ b → z < h.size → h'[z]? = h[z]?) : ∀ {L : List (El h b u good)} {cs : List Value}, (∀ j (hj : j < L.length), (cs.drop (j * u.size)).take u.size = L[j].cs) → RdL (Rd h' u) u.size (L.map El.x) cs (L.map El.bs).flatten
  | [], cs, _ => rfl
  | e :: L, cs, hc => by
    refine ⟨e.bs, (L.map El.bs).flatten, ?_, els_rd hh fun j hj => ?_, rfl⟩
    · have := hc 0 (by simp)
      simp only [Nat.zero_mul, List.drop_zero, List.getElem_cons_zero] at this
      rw [this]
      exact e.rd.frame fun z hz => hh z (e.out z hz).1 (e.out z hz).2
    · have := hc (j + 1) (by simpa using hj)
      simp only [List.getElem_cons_succ] at this
      rw [← this, List.drop_drop, Nat.succ_mul, Nat.add_comm]

end Go.Proofs.YtkoifikjfnbcpaaEv
set_option linter.unusedVariables false
set_option linter.unusedSimpArgs false
namespace Go.Proofs.YtkoifikjfnbcpaaEv
open Go Go.RowKit Go.Proofs Go.Shelf Go.Sort

section
variable {P : Program} {α : Type} [Inhabited α] {w : World} {b o : Nat} {c : Array Value} {e : TypeId} {fr : Nat × Nat}

theorem sw_other (enc : α → Value) {m : Nat} {dk : Array α} {os : Array Obj} {z : Nat} (hz : z ≠ b) (hl : z < w.heap.size) : (sortWorld enc w b o m dk os).heap[z]? = w.heap[z]? := by
  unfold sortWorld
  rw [heap_grow_old _ _ (by simpa [putRow, mapBlock, Sort.ahead] using hl)]
  simp only [putRow, mapBlock, Sort.ahead, Array.getElem?_modify]
  rw [if_neg (fun q => hz q.symm)]
theorem sw_self (enc : α → Value) {m : Nat} {dk : Array α} {os : Array Obj} (h : w.heap[b]? = some (.cells c e fr)) : (sortWorld enc w b o m dk os).heap[b]? = some (.cells (putCells enc o dk c) e fr) := by
  have hl : b < w.heap.size := by
    rcases Nat.lt_or_ge b w.heap.size with q | q
    · exact q
    · rw [Array.getElem?_eq_none q] at h; cases h
  unfold sortWorld
  rw [heap_grow_old _ _ (by simpa [putRow, mapBlock, Sort.ahead] using hl)]
  simp only [putRow, mapBlock, Sort.ahead, Array.getElem?_modify, if_true, h, Option.map_some, onCells]
theorem sw_size (enc : α → Value) {m : Nat} {dk : Array α} {os : Array Obj} : w.heap.size ≤ (sortWorld enc w b o m dk os).heap.size := by
  unfold sortWorld; simp [grow, putRow, mapBlock, Sort.ahead]
theorem put_get (enc : α → Value) {d : Array α} {j : Nat} (hj : j < d.size) (hc : o + d.size ≤ c.size) : (putCells enc o d c)[o + j]? = some (enc d[j]!) := by
  simp only [putCells, Array.getElem?_mapIdx]
  rw [Array.getElem?_eq_getElem (by omega)]
  simp only [Option.map_some]
  rw [if_pos (by omega)]
  congr 2; congr 1; omega
end

section
variable {P : Program} {e : TypeId} {u : Ty} {g : Nat} {cf : u.den → u.den → Int} {key : u.den → Int} {good : u.den → Prop} {fr st f1 f2 : Bool} {F : Args [.v u, .v u] → Option (Ress [.int .i64])} {f : Args [.v (.slice e u), .fn g] → Option (Ress [.slice e u])}

theorem take1 {α : Type} {l : List α} {i : Nat} (h : i < l.length) : (l.drop i).take 1 = [l[i]] := by rw [List.drop_eq_getElem_cons h]; rfl
theorem sort_nil {w w' : World} {v : Value} {ba : List Nat} (ho : OneV w.heap (.slice e u) [] v ba) (hnd : ba.Nodup) (hw : ∀ b ∈ ba, ∃ c e, w.heap[b]? = some (.cells c e (0, 0))) :
    AfterIn ⟨[.v (.slice e u), .fn g], [.slice e u], f1, f2, 1, f⟩ (sortK key [], ()) w (v :: [.func (.func g) #[] #[]]) ba (.returned (.tuple #[])) w := by
  have : sortK key ([] : List u.den) = [] := by simp [sortK]
  rw [this]
  exact ⟨v, [], ba, rfl, rfl, ⟨v, [], ba, [], rfl, ho, fun q => (by cases q), ⟨rfl, rfl⟩, by simp⟩, ⟨hnd, fun _ h => h⟩, rfl, Tp.refl, rfl, Nat.le_refl _, fun _ _ _ => rfl, hw⟩

/-- What the comparison gives, in whatever world the elements' blocks stand in. -/
theorem cmp_call (hg : FnOK P g ⟨[.v u, .v u], [.int .i64], fr, st, 0, F⟩) (hF : ∀ a b, good a → good b → F (a, b, ()) = some (cf a b, ())) {h : Mem} {b : Nat} {W : World} (hh : ∀ z, z ≠ b → z < h.size → W.heap[z]? = h[z]?) (x y : El h b u good) {vx vy : Value}
    (hx : vx.cells.toList = x.cs ∧ (u.agg = true → vx = .agg vx.cells) ∧ (u.agg = false → vx.cells = #[vx])) (hy : vy.cells.toList = y.cs ∧ (u.agg = true → vy = .agg vy.cells) ∧ (u.agg = false → vy.cells = #[vy])) :
    Calls P g #[vx, vy] W fun e w' => e = .returned (.int .i64 (cf x.x y.x)) ∧ ∃ q os', w' = grow (W.drewN q) os' := by
  have fx : OneV W.heap u x.x vx x.bs := ⟨by rw [hx.1]; exact x.rd.frame fun z hz => hh z (x.out z hz).1 (x.out z hz).2, hx.2.1, hx.2.2⟩
  have fy : OneV W.heap u y.x vy y.bs := ⟨by rw [hy.1]; exact y.rd.frame fun z hz => hh z (y.out z hz).1 (y.out z hz).2, hy.2.1, hy.2.2⟩
  refine (hg (x.x, y.x, ()) (cf x.x y.x, ()) (hF _ _ x.ok y.ok) W [vx, vy] (x.bs ++ (y.bs ++ [])) ⟨vx, [vy], _, _, rfl, rfl, fx, vy, [], _, _, rfl, rfl, fy, rfl, rfl⟩).mono ?_
  rintro e w' ⟨rv, bs, rfl, hres, hbel, hdr, _, _⟩
  obtain ⟨v, r, b1, b2, rfl, ho, _, ⟨rfl, _⟩, _⟩ := hres
  refine ⟨?_, grown_of (P := P) hbel hdr⟩
  have c1 := ho.2.2 rfl
  have c2 := ho.1.1
  rw [c1] at c2
  simp only [List.cons.injEq, and_true] at c2
  rw [c2]; rfl

theorem after_sort {w w' : World} {b o cap : Nat} {c : Array Value} {bs' : List Nat} {l : List u.den} {L : List (El w.heap b u good)} {d' : Array (El w.heap b u good)} {e2 : TypeId} (h4 : w.heap[b]? = some (.cells c e2 (0, 0))) (h5 : o + cap * u.size ≤ c.size) (h3 : l.length ≤ cap ∧ 0 < cap) (hnd : (b :: bs').Nodup)
    (hw : ∀ z ∈ b :: bs', ∃ c e, w.heap[z]? = some (.cells c e (0, 0))) (q1 : L.map El.x = l) (q2 : (L.map El.bs).flatten = bs') (hp : d'.toList.Perm L) (hs : d'.toList.map El.x = sortK key l)
    (os : w'.os = w.os) (tp : Tp w' w) (out : w'.output = w.output) (size : w.heap.size ≤ w'.heap.size) (oth : ∀ z, z ≠ b → z < w.heap.size → w'.heap[z]? = w.heap[z]?) {c' : Array Value} (hb : w'.heap[b]? = some (.cells c' e2 (0, 0))) (hcs : c'.size = c.size)
    (hc : ∀ j (hj : j < d'.toList.length), ((c'.toList.drop o).drop (j * u.size)).take u.size = d'.toList[j].cs) :
    AfterIn ⟨[.v (.slice e u), .fn g], [.slice e u], f1, f2, 1, f⟩ (sortK key l, ()) w (.slice (some ⟨b, o, none⟩) l.length cap :: [.func (.func g) #[] #[]]) (b :: bs') (.returned (.tuple #[])) w' := by
  have hlen : (sortK key l).length = l.length := by rw [← hs, List.length_map, hp.length_eq, ← q1, List.length_map]
  have hrd : RdL (Rd w'.heap u) u.size (sortK key l) (c'.toList.drop o) (d'.toList.map El.bs).flatten := by rw [← hs]; exact els_rd oth hc
  have hpb : ((d'.toList.map El.bs).flatten).Perm bs' := by rw [← q2]; exact (hp.map El.bs).flatten
  refine ⟨_, [], b :: (d'.toList.map El.bs).flatten, rfl, rfl, ⟨_, [], _, [], rfl, ⟨⟨.slice (some ⟨b, o, none⟩) l.length cap, some b, _, rfl, .inr ⟨b, o, cap, c', (0, 0), by rw [hlen], rfl, by rw [hlen]; exact h3, ⟨_, hb⟩, by rw [hcs]; exact h5, hrd⟩, rfl⟩, fun q => (by cases q), fun _ => rfl⟩, fun q => (by cases q), ⟨rfl, rfl⟩, by simp⟩,
    ⟨(hpb.cons b).nodup_iff.2 hnd, fun z hz => (hpb.cons b).mem_iff.1 hz⟩, os, tp, out, size, fun z hz hn => oth z (fun q => hn (by rw [q]; exact .head _)) hz, fun z hz => ?_⟩
  by_cases q : z = b
  · subst q; exact ⟨c', e2, hb⟩
  · obtain ⟨c1, e1, k⟩ := hw z hz
    have : z < w.heap.size := by
      rcases Nat.lt_or_ge z w.heap.size with q | q
      · exact q
      · rw [Array.getElem?_eq_none q] at k; cases k
    exact ⟨c1, e1, by rw [oth z q this]; exact k⟩

theorem sortRows_ok {ρ : Ren} (lay : SlLaysF.n6 P ρ) (hu : u.size = 1) (ha : u.agg = false) (hg : FnOK P g ⟨[.v u, .v u], [.int .i64], fr, st, 0, F⟩) (hF : ∀ a b, good a → good b → F (a, b, ()) = some (cf a b, ())) (hk : ∀ a b, good a → good b → (cf a b < 0 ↔ key a < key b))
    (eg : ∀ args w, (callFunc g args).run P w = .ok (.enter g args) w) (hf : ∀ x y, f x = some y → x.1.length ≤ 1000000 ∧ (∀ r ∈ x.1, good r) ∧ (x.1.map key).Nodup ∧ y = (sortK key x.1, ())) : InOK P (ρ.f 6) ⟨[.v (.slice e u), .fn g], [.slice e u], f1, f2, 1, f⟩ := by
  intro x y hxy w vs ba hv hnd hw
  obtain ⟨l, _, _⟩ := x
  obtain ⟨h1, h2, h3, rfl⟩ := hf _ _ hxy
  replace h1 : l.length ≤ 1000000 := h1
  replace h2 : ∀ r ∈ l, good r := h2
  replace h3 : (l.map key).Nodup := h3
  obtain ⟨v, r, b1, b2, rfl, rfl, ho, r', rfl, rfl, rfl⟩ := hv
  replace ho : OneV w.heap (.slice e u) l v b1 := ho
  rw [List.append_nil] at hnd hw ⊢
  have ho' := ho
  obtain ⟨⟨hd, blk, bs', z1, z2, z3⟩, _, z4⟩ := ho
  have hc := z4 rfl
  have eh : hd = v := by rw [hc] at z1; injection z1 with z1 _; exact z1.symm
  subst eh
  rcases z2 with ⟨pz, rfl, rfl, rfl, rfl⟩ | ⟨b, o, cap, c, fz, rfl, rfl, e3, ⟨e', e4⟩, e5, e6⟩
  · refine (AnyF.slices_SortFunc_none { lay with } pz 0 _ w).mono ?_
    rintro e w' ⟨rfl, hq⟩
    rw [hq]
    exact sort_nil (w' := w) ho' hnd hw
  · by_cases hl : l = []
    · subst hl
      refine (AnyF.slices_SortFunc_none { lay with } (some ⟨b, o, none⟩) cap _ w).mono ?_
      rintro e w' ⟨rfl, hq⟩
      rw [hq]
      exact sort_nil (w' := w) ho' hnd hw
    · simp only [Option.toList_some, List.singleton_append] at z3
      subst z3
      have hfz : fz = (0, 0) := by
        obtain ⟨c1, e1, k⟩ := hw b (.head _)
        rw [e4] at k; injection k with k; injection k with _ _ k
      subst hfz
      have hlt : b < w.heap.size := by
        rcases Nat.lt_or_ge b w.heap.size with q | q
        · exact q
        · rw [Array.getElem?_eq_none q] at e4; cases e4
      obtain ⟨L, q1, q2, q3⟩ := els_of (b := b) (good := good) e6 h2 (fun z hz => ⟨fun q => (List.nodup_cons.1 hnd).1 (by rw [← q]; exact hz), by
        obtain ⟨c1, e1, k⟩ := hw z (.tail _ hz)
        rcases Nat.lt_or_ge z w.heap.size with q | q
        · exact q
        · rw [Array.getElem?_eq_none q] at k; cases k⟩)
      have hLl : L.length = l.length := by rw [← q1, List.length_map]
      have hne : L ≠ [] := fun q => hl (by rw [← q1, q]; rfl)
      haveI : Inhabited (El w.heap b u good) := ⟨L.head hne⟩
      let enc : El w.heap b u good → Value := fun x => x.cs.headD undef
      have one : ∀ x : El w.heap b u good, x.cs = [enc x] ∧ (enc x).cells = #[enc x] := fun x => by
        obtain ⟨c0, k1, k2⟩ := x.rd.one ha
        have : enc x = c0 := by show x.cs.headD undef = c0; rw [k1]; rfl
        rw [this]; exact ⟨k1, k2⟩
      have hlen : L.toArray.size = l.length := by simp [hLl]
      have h1c : OneCell enc := fun x => by
        have k := x.rd.cells1 (enc x) (by rw [(one x).1]; exact .head _)
        exact k
      have main := Any.slices_SortFunc lay enc h1c (fun x y => cf x.x y.x) (swo_key (key := fun x => key x.x) fun x y => hk _ _ x.ok y.ok) g #[] b o cap L.toArray w eg (fun m os dk hs x y => ?_) (fun j hj => ?_) hlt (by omega)
      · rw [hlen] at main
        refine main.mono ?_
        rintro ee w' ⟨rfl, d', n, os, p1, p2, rfl⟩
        obtain ⟨r1, r2⟩ := perm_sorted (key := key) (val := El.x) (cf := fun x y => cf x.x y.x) (d := L.toArray) (d' := d') (fun x y => hk _ _ x.ok y.ok) (by rw [hlen]; exact p1) (by rw [hlen]; exact p2) (by
          show (L.map fun x => key x.x).Nodup
          have : (L.map fun x => key x.x) = l.map key := by rw [← q1, List.map_map]; rfl
          rw [this]; exact h3)
        simp only at r1 r2
        rw [q1] at r2
        have dl : d'.size = l.length := by have := r1.length_eq; simp only [Array.length_toList] at this; rw [this, hLl]
        have hcap : o + d'.size ≤ c.size := by rw [dl]; rw [hu] at e5; omega
        refine after_sort e4 e5 e3 hnd hw q1 q2 r1 r2 rfl ⟨rfl, ?_⟩ rfl (sw_size enc) (fun z hz hl => sw_other enc hz hl) (sw_self enc e4) (by simp [putCells]) (fun j hj => ?_)
        · show w.drawn ≤ w.drawn + n; omega
        · simp only [Array.length_toList] at hj
          rw [hu, Nat.mul_one, List.drop_drop, (one _).1]
          have := put_get (o := o) (c := c) enc (d := d') hj hcap
          rw [getElem!_pos d' j hj] at this
          rw [take1 (by simp [putCells]; omega)]
          congr 1
          rw [Array.getElem?_eq_getElem (by simp [putCells]; omega)] at this
          injection this with this
      · refine cmp_call hg hF (fun z hz hl => sw_other enc hz hl) x y ⟨?_, fun q => (by rw [ha] at q; cases q), fun _ => (one x).2⟩ ⟨?_, fun q => (by rw [ha] at q; cases q), fun _ => (one y).2⟩
        · rw [(one x).2, (one x).1]
        · rw [(one y).2, (one y).1]
      · have hj' : j < L.length := by simpa using hj
        have k := q3 j hj'
        rw [hu, Nat.mul_one, List.drop_drop, (one _).1] at k
        have hcs : o + j < c.size := by rw [hu] at e5; omega
        rw [take1 (by simpa using hcs)] at k
        have eg2 : L.toArray[j]! = L[j] := by rw [getElem!_pos _ _ (by simpa using hj')]; simp
        rw [eg2]
        simp only [World.cell?, World.frozen?, e4]
        refine ⟨?_, by simp⟩
        simp only [Option.isSome_none, Bool.false_eq_true, if_false]
        rw [Array.getElem?_eq_getElem hcs]
        injection k with k _
        congr 1

theorem flat_take {k : Nat} {cs : List Value} {j : Nat} {l : List Value} (hl : l.length = k) (h : ∀ t, t < k → cs[j + t]? = l[t]?) : (cs.drop j).take k = l := by
  apply List.ext_getElem?
  intro t
  by_cases ht : t < k
  · rw [List.getElem?_take_of_lt ht, List.getElem?_drop, h t ht]
  · rw [List.getElem?_eq_none (by simp; omega), List.getElem?_eq_none (by omega)]
theorem flat_at {α : Type} [Inhabited α] {enc : α → List Value} {k : Nat} (hk : ∀ x, (enc x).length = k) {d : Array α} {j t : Nat} (hj : j < d.size) (ht : t < k) : (flatK enc k d)[j * k + t]! = (enc d[j])[t]'(by rw [hk]; exact ht) := by
  have h1 : j * k + t < d.size * k := by
    have : (j + 1) * k ≤ d.size * k := Nat.mul_le_mul_right k hj
    rw [Nat.succ_mul] at this; omega
  rw [get_flatK _ _ _ _ h1]
  have e1 : (j * k + t) / k = j := by rw [Nat.mul_comm, Nat.mul_add_div (by omega), Nat.div_eq_of_lt ht]; rfl
  have e2 : (j * k + t) % k = t := by rw [Nat.mul_comm, Nat.mul_add_mod, Nat.mod_eq_of_lt ht]
  rw [e1, e2, getElem!_pos d j hj, getElem!_pos _ t (by rw [hk]; exact ht)]

theorem sortStr_ok {ρ : Ren} (lay : SlLaysF0.n6 P ρ) (ha : u.agg = true) (aE : ∀ w, (isAgg (ρ.t 24)).run P w = .ok true w) (zE : ∀ w, (Go.sizeOf (ρ.t 24)).run P w = .ok u.size w) (hg : FnOK P g ⟨[.v u, .v u], [.int .i64], fr, st, 0, F⟩) (hF : ∀ a b, good a → good b → F (a, b, ()) = some (cf a b, ())) (hk : ∀ a b, good a → good b → (cf a b < 0 ↔ key a < key b))
    (eg : ∀ args w, (callFunc g args).run P w = .ok (.enter g args) w) (hf : ∀ x y, f x = some y → x.1.length ≤ 1000000 ∧ (∀ r ∈ x.1, good r) ∧ (x.1.map key).Nodup ∧ y = (sortK key x.1, ())) : InOK P (ρ.f 6) ⟨[.v (.slice e u), .fn g], [.slice e u], f1, f2, 1, f⟩ := by
  intro x y hxy w vs ba hv hnd hw
  obtain ⟨l, _, _⟩ := x
  obtain ⟨h1, h2, h3, rfl⟩ := hf _ _ hxy
  replace h1 : l.length ≤ 1000000 := h1
  replace h2 : ∀ r ∈ l, good r := h2
  replace h3 : (l.map key).Nodup := h3
  obtain ⟨v, r, b1, b2, rfl, rfl, ho, r', rfl, rfl, rfl⟩ := hv
  replace ho : OneV w.heap (.slice e u) l v b1 := ho
  rw [List.append_nil] at hnd hw ⊢
  have ho' := ho
  obtain ⟨⟨hd, blk, bs', z1, z2, z3⟩, _, z4⟩ := ho
  have hc := z4 rfl
  have eh : hd = v := by rw [hc] at z1; injection z1 with z1 _; exact z1.symm
  subst eh
  rcases z2 with ⟨pz, rfl, rfl, rfl, rfl⟩ | ⟨b, o, cap, c, fz, rfl, rfl, e3, ⟨e', e4⟩, e5, e6⟩
  · refine (AnyF.slices_SortFunc_none lay pz 0 _ w).mono ?_
    rintro e w' ⟨rfl, hq⟩
    rw [hq]
    exact sort_nil (w' := w) ho' hnd hw
  · by_cases hl : l = []
    · subst hl
      refine (AnyF.slices_SortFunc_none lay (some ⟨b, o, none⟩) cap _ w).mono ?_
      rintro e w' ⟨rfl, hq⟩
      rw [hq]
      exact sort_nil (w' := w) ho' hnd hw
    · simp only [Option.toList_some, List.singleton_append] at z3
      subst z3
      have hfz : fz = (0, 0) := by
        obtain ⟨c1, e1, k⟩ := hw b (.head _)
        rw [e4] at k; injection k with k; injection k with _ _ k
      subst hfz
      have hlt : b < w.heap.size := by
        rcases Nat.lt_or_ge b w.heap.size with q | q
        · exact q
        · rw [Array.getElem?_eq_none q] at e4; cases e4
      obtain ⟨L, q1, q2, q3⟩ := els_of (b := b) (good := good) e6 h2 (fun z hz => ⟨fun q => (List.nodup_cons.1 hnd).1 (by rw [← q]; exact hz), by
        obtain ⟨c1, e1, k⟩ := hw z (.tail _ hz)
        rcases Nat.lt_or_ge z w.heap.size with q | q
        · exact q
        · rw [Array.getElem?_eq_none q] at k; cases k⟩)
      have hLl : L.length = l.length := by rw [← q1, List.length_map]
      have hne : L ≠ [] := fun q => hl (by rw [← q1, q]; rfl)
      haveI : Inhabited (El w.heap b u good) := ⟨L.head hne⟩
      have hlen : L.toArray.size = l.length := by simp [hLl]
      have hcl : ∀ x : El w.heap b u good, x.cs.length = u.size := fun x => x.rd.length
      have main := AnyQ.slices_SortFunc lay u.size aE zE (fun x : El w.heap b u good => x.cs) hcl (fun x v hv => x.rd.cells1 v hv) (fun x y => cf x.x y.x) (swo_key (key := fun x => key x.x) fun x y => hk _ _ x.ok y.ok) g #[] b o cap L.toArray w eg (fun m os dk hs x y => ?_) (fun j hj => ?_) hlt (by omega)
      · rw [hlen] at main
        refine main.mono ?_
        rintro ee w' ⟨rfl, d', n, os, p1, p2, rfl⟩
        obtain ⟨r1, r2⟩ := perm_sorted (key := key) (val := El.x) (cf := fun x y => cf x.x y.x) (d := L.toArray) (d' := d') (fun x y => hk _ _ x.ok y.ok) (by rw [hlen]; exact p1) (by rw [hlen]; exact p2) (by
          show (L.map fun x => key x.x).Nodup
          have : (L.map fun x => key x.x) = l.map key := by rw [← q1, List.map_map]; rfl
          rw [this]; exact h3)
        simp only at r1 r2
        rw [q1] at r2
        have dl : d'.size = l.length := by have := r1.length_eq; simp only [Array.length_toList] at this; rw [this, hLl]
        have hsz : d'.size * u.size ≤ cap * u.size := Nat.mul_le_mul_right _ (by omega)
        have hcap : o + (flatK (fun x : El w.heap b u good => x.cs) u.size d').size ≤ c.size := by rw [size_flatK]; omega
        refine after_sort e4 e5 e3 hnd hw q1 q2 r1 r2 rfl ⟨rfl, ?_⟩ rfl (sw_size id) (fun z hz hl => sw_other id hz hl) (sw_self id e4) (by simp [putCells]) (fun j hj => ?_)
        · show w.drawn ≤ w.drawn + n; omega
        · simp only [Array.length_toList] at hj
          rw [List.drop_drop]
          refine flat_take (hcl _) fun t ht => ?_
          have hin : j * u.size + t < (flatK (fun x : El w.heap b u good => x.cs) u.size d').size := by
            rw [size_flatK]
            have : (j + 1) * u.size ≤ d'.size * u.size := Nat.mul_le_mul_right _ hj
            rw [Nat.succ_mul] at this; omega
          have := put_get (o := o) (c := c) id hin hcap
          rw [flat_at hcl hj ht] at this
          rw [Nat.add_assoc, Array.getElem?_toList, this, List.getElem?_eq_getElem (by rw [hcl]; exact ht)]
          simp
      · exact cmp_call hg hF (fun z hz hl => sw_other id hz hl) x y ⟨by simp [Value.cells], fun _ => rfl, fun q => (by rw [ha] at q; cases q)⟩ ⟨by simp [Value.cells], fun _ => rfl, fun q => (by rw [ha] at q; cases q)⟩
      · rw [size_flatK] at hj
        have hk0 : 0 < u.size := by
          rcases Nat.eq_zero_or_pos u.size with q | q
          · rw [q] at hj; omega
          · exact q
        have hj1 : j / u.size < L.length := by
          have : j < L.length * u.size := by simpa using hj
          exact (Nat.div_lt_iff_lt_mul hk0).2 this
        have hjm : j % u.size < u.size := Nat.mod_lt _ hk0
        have ej : j = j / u.size * u.size + j % u.size := by rw [Nat.mul_comm]; exact (Nat.div_add_mod j u.size).symm
        have k := q3 _ hj1
        have fa := flat_at (d := L.toArray) hcl (j := j / u.size) (t := j % u.size) (by simpa using hj1) hjm
        rw [← ej] at fa
        have hcs : o + j < c.size := by
          have : L.length * u.size ≤ cap * u.size := Nat.mul_le_mul_right _ (by omega)
          have : j < L.length * u.size := by simpa using hj
          omega
        have kk : (List.take u.size (List.drop (j / u.size * u.size) (List.drop o c.toList)))[j % u.size]? = (L[j / u.size].cs)[j % u.size]? := by rw [k]
        rw [List.getElem?_take_of_lt hjm, List.getElem?_drop, List.getElem?_drop, ← ej, List.getElem?_eq_getElem (l := L[j / u.size].cs) (by rw [hcl]; exact hjm), Array.getElem?_toList] at kk
        simp only [World.cell?, World.frozen?, e4, Option.isSome_none, Bool.false_eq_true, if_false]
        refine ⟨?_, by simp⟩
        rw [kk]
        congr 1
        exact fa.symm

end
end Go.Proofs.YtkoifikjfnbcpaaEv
